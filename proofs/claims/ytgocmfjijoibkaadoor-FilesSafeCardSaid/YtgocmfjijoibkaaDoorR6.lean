/- The document's rows; Sync. -/
import Derived.Test.YtgocmfjijoibkaaDoorR5
import Derived.Laws.ResultCell
import Derived.Laws.Rows
namespace Go.Proofs.YtgocmfjijoibkaaDoor
open Go.RowKit
set_option linter.unusedSimpArgs false
set_option linter.unusedVariables false
set_option linter.unusedVariables false
/-- The document's rows stay. -/
def KeptD (w w' : World) : Prop := w.heap.size ≤ w'.heap.size ∧ ∀ (g : Nat) (cs : Array Value) (t : TypeId) (fr : Nat × Nat), t = 83 ∨ t = 79 → w.heap[g]? = some (Obj.cells cs t fr) → w'.heap[g]? = some (Obj.cells cs t fr)
theorem KeptD.refl (w : World) : KeptD w w := ⟨Nat.le_refl _, fun _ _ _ _ _ h => h⟩
theorem KeptD.trans {a b c : World} (h : KeptD a b) (k : KeptD b c) : KeptD a c := ⟨Nat.le_trans h.1 k.1, fun g cs t fr a e => k.2 g cs t fr a (h.2 g cs t fr a e)⟩
theorem KeptD.of {w w' : World} (h : KeptY w w') : KeptD w w' := ⟨h.1, fun g cs t fr a e => h.2 g cs t fr (by rcases a with rfl | rfl <;> decide) (by rcases a with rfl | rfl <;> decide) e⟩
theorem KeptD.set {w : World} {p : Nat} {cs : Array Value} (h : Blk w p 41 cs) (j : Nat) (v : Value) : KeptD w (w.setCell ⟨p, j, none⟩ v) := ⟨by simp, fun g cs' t fr a e => (Below.heap_setCell w _ _ g (fun k => by
  rw [k] at e
  have hx : w.heap[p]? = _ := h
  rw [e] at hx; cases hx
  rcases a with a | a <;> exact absurd a (by decide))).trans e⟩
theorem RdF.keptD {w w1 : World} {v : Value} {F : List Fl} (h : RdF w v F) (k : KeptD w w1) : RdF w1 v F := by
  rcases h with h | ⟨g, cap, cs, fr, e, h1, h2, h3⟩
  · exact .inl h
  · exact .inr ⟨g, cap, cs, fr, e, h1, k.2 g cs 83 fr (.inl rfl) h2, h3⟩
theorem RdD.keptD {w w1 : World} {v : Value} {T : List Stp} (h : RdD w v T) (k : KeptD w w1) : RdD w1 v T := by
  rcases h with h | ⟨g, cap, cs, fr, e, h1, h2, h3⟩
  · exact .inl h
  · exact .inr ⟨g, cap, cs, fr, e, h1, k.2 g cs 79 fr (.inr rfl) h2, h3⟩
theorem Doc.keptD {w w1 : World} {v : Value} {x : FS} (h : Doc w v x) (k : KeptD w w1) : Doc w1 v x := by
  obtain ⟨v1, v2, v3, e, h1, h2, h3⟩ := h
  exact ⟨v1, v2, v3, e, h1.keptD k, h2.keptD k, h3.keptD k⟩
theorem info79 : (Tryd.prog.info? 79).map (fun i => (i.zero, i.size, i.bytes)) = some (some (.agg #[.int .i64 0, .string ByteArray.empty, .string ByteArray.empty, .string ByteArray.empty]), 4, 56) := by kernel_rfl
theorem cellsD_one (T : List Stp) : ∀ u ∈ cellsD T, u.oneCell' = true := by
  intro u hu
  unfold cellsD at hu
  obtain ⟨e, _, h2⟩ := List.mem_flatMap.1 hu
  simp [sdC] at h2
  rcases h2 with rfl | rfl | rfl | rfl <;> rfl
/-- Steps added to a row of one's own, in a region. -/
theorem step_append_D {w : World} {ops : Array Oper} {o : Oper} {a : Act} {K : Act → World → Prop} {Q : Exit → Act → World → Prop} {F : Prop} (hgd : o.guard = none) (s x : Operand)
    (ho : o.op = .call { callee := .builtin .append, args := #[s, x], argTypes := #[39, 39] }) (B : Nat) (v u : Value) (E0 E : List Stp)
    (hs : a.eval s = v) (hx : a.eval x = u) (hown : w.ownsRow B 79 4 v E0.length (cellsD E0)) (hP : RdD w u E) (hb : E0.length + E.length ≤ 1048576) (hB : B ≤ w.heap.size)
    (h : ∀ v' w', w'.ownsRow B 79 4 v' (E0 ++ E).length (cellsD (E0 ++ E)) → w.grownBy w' v.ownBlock → (v'.ownBlock = v.ownBlock ∨ v'.ownBlock = some w.heap.size) → K (a.put o.dst v') w') :
    if Region.wanted o (yielded ops a.tmps) = true then Oper.wp Tryd.prog o a w K Q else F := by
  obtain ⟨i0, hi0, hz0, hz1, hz2⟩ := info_parts info79
  have hw : Region.wanted o (yielded ops a.tmps) = true := by simp [Region.wanted, hgd]
  rw [if_pos hw]
  have hadd : ∀ (g k : Nat), ((⟨g, 0, none⟩ : Addr).add k) = ⟨g, k, none⟩ := fun g k => by unfold Addr.add; split <;> simp_all
  have key : ∀ (ad : Addr) (cap : Nat), u = .slice (some ad) E.length cap → (∀ j z, (cellsD E)[j]? = some z → w.cell? (ad.add j) = some z) → Oper.wp Tryd.prog o a w K Q := by
    rintro ad cap rfl hn
    obtain ⟨v', w', hr, h2, h3, _, h5⟩ := run_append_own_at (P := Tryd.prog) w B 39 o.type 79 i0 (.agg #[.int .i64 0, .string ByteArray.empty, .string ByteArray.empty, .string ByteArray.empty]) 4 56 Tryd.underlying39 hi0 hz0 hz1 hz2 rfl (by decide) v E0.length (cellsD E0) hown ad E.length cap (cellsD E) (cellsD_len E) hn (cellsD_one E) (by simp only [maxLen]; omega) (by omega) hB
    unfold Oper.wp execOp
    simp only [ho, resolve, invoke, builtin, Sem.run_bind, Sem.run_pure, Result.andThen_ok, List.map_toArray, List.map_cons, List.map_nil, hs, hx, hr]
    refine h v' w' ?_ h3 h5
    rw [show cellsD (E0 ++ E) = cellsD E0 ++ cellsD E by simp [cellsD], List.length_append]; exact h2
  rcases hP with ⟨A, cap, e, hE, hA⟩ | ⟨g, cap, cs, fr, e, h1, h2, h3⟩
  · subst hE
    cases A with
    | none =>
      obtain rfl := hA rfl
      subst e
      have hrun := run_append_owned_none (P := Tryd.prog) (w := w) B 39 o.type 79 i0 4 Tryd.underlying39 hi0 v E0.length (cellsD E0) hown
      unfold Oper.wp
      simp [execOp, ho, resolve, invoke, builtin, hs, hx, hrun, Result.andThen]
      exact h v w (by simpa using hown) (World.grownBy.refl w _) (.inl rfl)
    | some ad => exact key ad cap e (fun j z hj => by simp [cellsD] at hj)
  · refine key _ cap e fun j z hj => ?_
    have hj4 := (List.getElem?_eq_some_iff.1 hj).1
    rw [cellsD_len] at hj4
    have hi : j / 4 < E.length := by omega
    obtain ⟨s, hs⟩ : ∃ s, E[j / 4]? = some s := ⟨_, List.getElem?_eq_getElem hi⟩
    have h4 := h3 (j / 4) s hs (j % 4) (by omega)
    have h5 := cellsD_at E (j / 4) s hs (j % 4) (by omega)
    rw [show j / 4 * 4 + j % 4 = j by omega] at h4 h5
    rw [hadd]
    rw [hj] at h5
    rw [← h5] at h4
    simp [World.cell?, h2, h4]
theorem RdD.one (w : World) (s : Stp) : RdD (w.alloc (.cells #[.int .i64 (kindS s), .string s.name, .string s.dst, .string ⟨s.bs.toArray⟩] 79)) (.slice (some ⟨w.heap.size, 0, none⟩) 1 1) [s] := by
  refine .inr ⟨w.heap.size, 1, _, _, rfl, Nat.le_refl _, heap_alloc_new w _, fun i q hq j hj => ?_⟩
  cases i with
  | zero => cases hq; rw [Nat.zero_mul, Nat.zero_add]; rcases (by omega : j = 0 ∨ j = 1 ∨ j = 2 ∨ j = 3) with rfl | rfl | rfl | rfl <;> rfl
  | succ i => cases hq
theorem RdF.app {w w' : World} {Y : Value} {F : List Fl} {B n : Nat} {v : Value} {xs : List Value} (h : RdF w Y F) (hr : w.ownsRow B 79 4 v n xs) (hg : w.grownBy w' v.ownBlock) : RdF w' Y F := by
  rcases h with h | ⟨g, cap, cs, fr, e, h1, h2, h3⟩
  · exact .inl h
  · refine .inr ⟨g, cap, cs, fr, e, h1, ?_, h3⟩
    rw [hg.block g (Array.getElem?_eq_some_iff.1 h2).1 (fun k => ?_)]
    · exact h2
    · rcases hr.2 with ⟨rfl, _⟩ | ⟨g', cap', cur, rfl, hB, hb, _⟩
      · cases k
      · cases k
        rw [hb] at h2; cases h2
theorem RdD.owned {w : World} {B : Nat} {v : Value} {T : List Stp} (h : w.ownsRow B 79 4 v T.length (cellsD T)) : ∃ A c, v = .slice A T.length c := (RdD.of_owns h).form
theorem RdF.owned {w : World} {B : Nat} {v : Value} {F : List Fl} (h : RowFl B v F w) : ∃ A c, v = .slice A F.length c := (RdF.of_owns h).form
def S13 (p : Nat) (a b c : Value) (k n t q : Value) (w : World) : Prop := Blk w p 41 #[a, b, c] ∧ Blk w (p + 1) 79 #[k, n, t, q]
theorem S13.of {p : Nat} {a b c k n t q : Value} {w w' : World} (h : S13 p a b c k n t q w) (hb : Below w.heap.size w w') : S13 p a b c k n t q w' := ⟨h.1.below hb, h.2.below hb⟩
theorem blk_far {w : World} {p q : Nat} {t : TypeId} {cs : Array Value} (h : Blk w q t cs) (j : Nat) (v : Value) (hq : q ≠ p) : Blk (w.setCell ⟨p, j, none⟩ v) q t cs := (Below.heap_setCell w _ _ q hq).trans h
theorem S13.set {p : Nat} {a b c k n t q : Value} {w : World} (h : S13 p a b c k n t q w) (j : Nat) (v : Value) : S13 p a b c k n t q (w.setCell ⟨p + 2, j, none⟩ v) := ⟨blk_far h.1 j v (by omega), blk_far h.2 j v (by omega)⟩
theorem grown_none {w w' : World} {b : Option Nat} (h : w.grownBy w' b) (hb : b = none) : Below w.heap.size w w' := by
  subst hb
  exact ⟨h.os, h.tape, h.output, h.size, fun j hj => h.block j hj (fun e => by cases e)⟩
theorem results_ct_row {fn : Func} {p u : Tmp} (h : fn.results = #[.cell p 41, .tmp u]) (tmps : Array Value) (w : World) (g : Nat) (a b c : Value) (fr : Nat × Nat)
    (hp : tmps.getD p undef = .pointer (some ⟨g, 0, none⟩)) (hg : w.heap[g]? = some (.cells #[a, b, c] 41 fr)) :
    (results fn tmps).run Tryd.prog w = .ok (.tuple #[.agg #[a, b, c], tmps.getD u undef]) w := by
  have hp' : tmps[p]?.getD undef = .pointer (some ⟨g, 0, none⟩) := by simpa using hp
  rw [results_cell_tmp h]
  simp [hp', asAddr, run_loadVar_row (P := Tryd.prog) w g 41 41 #[a, b, c] fr _ hg Tryd.underlying41 rfl (by kernel_rfl), Result.andThen]
def SyncD (x : FS) (w : World) (y : Ending) (w' : World) : Prop := ∃ v, y = .returned v ∧ Doc w' v ⟨x.now, x.now, []⟩ ∧ Below w.heap.size w w'
set_option maxHeartbeats 4000000 in
set_option maxRecDepth 100000 in
theorem docsync_walk (v : Value) (x : FS) (w : World) (h : Doc w v x) : Calls Tryd.prog 33 #[v] w (SyncD x w) := by
  obtain ⟨v1, v2, v3, rfl, h1, h2, h3⟩ := h
  obtain ⟨A1, k1, rfl⟩ := h1.form
  obtain ⟨A2, k2, rfl⟩ := h2.form
  obtain ⟨A3, k3, rfl⟩ := h3.form
  have H1 := Lib.hid h1
  clear h1 h2 h3
  go_enter Tryd.func33, Tryd.ntmps33
  go_wp2_with (fail)
  have hD2 := (Below.refl w.heap.size w).alloc (Nat.le_refl _) (.cells #[.slice A1 x.now.length k1, .slice A2 x.sure.length k2, .slice A3 x.T.length k3] 41)
  have hD3 := hD2.alloc hD2.size (.cells #[.slice A1 x.now.length k1, .slice A1 x.now.length k1, .slice none 0 0] 41)
  have hz := heap_alloc2_new w (.cells #[.slice A1 x.now.length k1, .slice A2 x.sure.length k2, .slice A3 x.T.length k3] 41) (.cells #[.slice A1 x.now.length k1, .slice A1 x.now.length k1, .slice none 0 0] 41)
  have k := KeptY.below hD3
  exact bodyPost_end (results_cell_row rfl _ _ (w.heap.size + 1) 41 _ _ _ rfl hz Tryd.underlying41 rfl (by kernel_rfl)) rfl ⟨_, rfl, ⟨_, _, _, rfl, H1.out.kept k, H1.out.kept k, RdD.nil _⟩, hD3⟩
end Go.Proofs.YtgocmfjijoibkaaDoor
