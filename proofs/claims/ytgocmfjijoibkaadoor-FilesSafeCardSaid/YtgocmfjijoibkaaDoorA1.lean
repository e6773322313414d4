/- Slices of acts; rows of texts. -/
import Derived.Test.YtgocmfjijoibkaaDoorS1
namespace Go.Proofs.YtgocmfjijoibkaaDoor
open Go.RowKit
set_option linter.unusedSimpArgs false
set_option linter.unusedVariables false
open Go.Shelf
instance : Inhabited Ac := ⟨⟨0, ByteArray.empty, ByteArray.empty, ByteArray.empty, 0, 0⟩⟩
def ac0 : Ac := ⟨0, ByteArray.empty, ByteArray.empty, ByteArray.empty, 0, 0⟩
structure AcAt (w : World) (g p : Nat) (a : Ac) : Prop where
  k : w.cell? ⟨g, p, none⟩ = some (.int .i64 a.kind)
  n : w.cell? ⟨g, p + 1, none⟩ = some (.string a.name)
  d : w.cell? ⟨g, p + 2, none⟩ = some (.string a.dst)
  b : w.cell? ⟨g, p + 3, none⟩ = some (.string a.b)
  s : w.cell? ⟨g, p + 4, none⟩ = some (.int .i64 a.steps)
  p : w.cell? ⟨g, p + 5, none⟩ = some (.int .i64 a.part)
/-- A slice of acts, to be read. -/
def RdA (w : World) (v : Value) (m : Nat) (L : List Ac) : Prop :=
  (∃ A cap, v = .slice A 0 cap ∧ (A = none → cap = 0) ∧ L = []) ∨ ∃ g o cap, v = .slice (some ⟨g, o, none⟩) L.length cap ∧ g < m ∧ ∀ i, i < L.length → AcAt w g (o + i * 6) (L.getD i ac0)
theorem AcAt.below {w w1 : World} {g p B : Nat} {e : Ac} (h : AcAt w g p e) (hb : Below B w w1) (hg : g < B) : AcAt w1 g p e :=
  ⟨(hb.cell (p := ⟨g, p, none⟩) hg).trans h.k, (hb.cell (p := ⟨g, p + 1, none⟩) hg).trans h.n, (hb.cell (p := ⟨g, p + 2, none⟩) hg).trans h.d, (hb.cell (p := ⟨g, p + 3, none⟩) hg).trans h.b, (hb.cell (p := ⟨g, p + 4, none⟩) hg).trans h.s, (hb.cell (p := ⟨g, p + 5, none⟩) hg).trans h.p⟩
theorem RdA.below {w w1 : World} {v : Value} {n B : Nat} {L : List Ac} (h : RdA w v n L) (hb : Below B w w1) (hn : n ≤ B) : RdA w1 v n L := by
  rcases h with h | ⟨g, of, cap, e, hg, hc⟩
  · exact .inl h
  · exact .inr ⟨g, of, cap, e, hg, fun i hi => (hc i hi).below hb (by omega)⟩
theorem RdA.wider {w : World} {v : Value} {n m : Nat} {L : List Ac} (h : RdA w v n L) (hn : n ≤ m) : RdA w v m L := by
  rcases h with h | ⟨g, of, cap, e, hg, hc⟩
  · exact .inl h
  · exact .inr ⟨g, of, cap, e, by omega, hc⟩
theorem RdA.form {w : World} {v : Value} {n : Nat} {L : List Ac} (h : RdA w v n L) : ∃ A cap, v = .slice A L.length cap := by
  rcases h with ⟨A, cap, rfl, _, rfl⟩ | ⟨g, of, cap, e, hg, hc⟩
  · exact ⟨_, _, rfl⟩
  · exact ⟨_, _, e⟩
theorem RdA.at_ {w : World} {n m : Nat} {A : Option Addr} {cap : Nat} {L : List Ac} (h : RdA w (.slice A n cap) m L) {i : Nat} (hi : i < L.length) : ∃ g o, A = some ⟨g, o, none⟩ ∧ AcAt w g (o + i * 6) (L.getD i ac0) := by
  rcases h with ⟨A, cap, e, _, rfl⟩ | ⟨g, o, cap, e, hg, hc⟩
  · simp at hi
  · cases e; exact ⟨g, o, rfl, hc i hi⟩
/-- A row of texts stays through what a disk does. -/
theorem KeptY.texts {w w1 : World} {B n : Nat} {v : Value} {xs : List Value} (h : KeptY w w1) (ho : w.ownsRow B 9 1 v n xs) : w1.ownsRow B 9 1 v n xs := by
  refine ⟨ho.1, ho.2.imp id ?_⟩
  rintro ⟨g, cap, cur, rfl, hB, hb, r⟩
  exact ⟨g, cap, cur, rfl, hB, h.2 g _ _ _ (by decide) (by decide) hb, r⟩
/-- A text of a row. -/
theorem text_at {w : World} {B n cap : Nat} {A : Option Addr} {xs : List Value} (h : w.ownsRow B 9 1 (.slice A n cap) n xs) {i : Nat} (hi : i < n) : ∃ g, A = some ⟨g, 0, none⟩ ∧ w.cell? ⟨g, i, none⟩ = xs[i]? ∧ B ≤ g ∧ g < w.heap.size := by
  rcases h.2 with ⟨e, h0⟩ | ⟨g, cap, cur, e, hB, hb, h1, h2, h3, h4⟩
  · omega
  · cases e
    have hb' : Blk w g 9 cur := hb
    refine ⟨g, rfl, ?_, hB, hb'.lt⟩
    rw [← h4, List.getElem?_take, if_pos (by omega), Array.getElem?_toList, hb'.cell]
def valF (F : List Fl) (x : List UInt8) : List UInt8 := (lookF F x).getD []
theorem names_at {F : List Fl} {i : Nat} (hi : i < F.length) : ∃ x, (namesF F)[i]? = some x ∧ (lookF F x).isSome = true := by
  have hl : i < (namesF F).length := by unfold namesF; simpa using hi
  exact ⟨_, List.getElem?_eq_getElem hl, mem_names.1 (List.getElem_mem hl)⟩
theorem check_named {F : List Fl} (hg : GoodF F) {x : List UInt8} (h : (lookF F x).isSome = true) : checkN F x = 0 := by
  obtain ⟨bs, hb⟩ := Option.isSome_iff_exists.1 h
  unfold checkN
  rw [if_pos (hg.look hb).1, if_pos h]
/-- Steps that leave what is sure. -/
theorem do_sure {a : Ac} {x x' : FS} (h : DoR a x x') (ha : acM a ≠ 4) : x'.sure = x.sure := by
  unfold DoR at h
  split at h
  · unfold MoveR at h; subst h; split <;> rfl
  · split at h
    · unfold RemoveR at h; subst h; split <;> rfl
    · obtain ⟨v, rfl⟩ := h; split <;> rfl
theorem crash_all {x : FS} (h : Okay x) : crashF x.sure x.T x.T.length 0 = x.now := by
  unfold crashF
  rw [List.getElem?_eq_none (Nat.le_refl _), List.take_of_length_le (Nat.le_refl _), h.run]
theorem crash_none (F : List Fl) (T : List Stp) : crashF F T 0 0 = F := by
  unfold crashF
  split
  · rw [if_neg (by simp)]; simp [runF]
  · simp [runF]
theorem bel_cell {w w' : World} {p : Addr} {v : Value} (h : Below w.heap.size w w') (c : w.cell? p = some v) : w'.cell? p = some v := (h.cell (World.block_lt_of_cell? w p c)).trans c
theorem row_form {w : World} {B n : Nat} {t : TypeId} {v : Value} {xs : List Value} (h : w.ownsRow B t 1 v n xs) : ∃ A c, v = .slice A n c := by
  rcases h.2 with ⟨e, h0⟩ | ⟨g, cap, cur, e, _⟩
  · exact ⟨_, _, by rw [e, h0]⟩
  · exact ⟨_, _, e⟩
theorem row_below {w w1 : World} {B n : Nat} {t : TypeId} {v : Value} {xs : List Value} (h : w.ownsRow B t 1 v n xs) (hb : Below w.heap.size w w1) : w1.ownsRow B t 1 v n xs :=
  row_kept (row := none) h ⟨hb.os, hb.tape, hb.output, hb.size, fun j hj _ => hb.block j hj⟩ (fun g _ e => by cases e)
def ReadV (F : List Fl) (x : List UInt8) (w : World) (y : Ending) (w' : World) : Prop := ∃ A c, y = .returned (.tuple #[.slice A (valF F x).length c, .nilIface]) ∧ RdY w' (.slice A (valF F x).length c) (valF F x) ∧ Below w.heap.size w w'
theorem read_named (B d : Nat) (x : FS) (nm : List UInt8) (w : World) (h : DiskOk w B d x) (hn : (lookF x.now nm).isSome = true) : Calls Tryd.prog 18 #[.pointer (some ⟨d, 0, none⟩), .string ⟨nm.toArray⟩] w (ReadV x.now nm w) := by
  refine Calls.mono (read_walk B d x.now x.sure x.T ⟨nm.toArray⟩ w h.1 (fun bs e => (h.2.now.look e).2)) ?_
  rintro y w' ⟨v, h1, h2, h3⟩
  rw [show checkN x.now (ByteArray.mk nm.toArray).data.toList = 0 from check_named h.2.now hn] at h1 h2
  obtain ⟨A, c, rfl⟩ := h2.form
  exact ⟨A, c, h1, h2, h3⟩
/-- Two rows of texts of one's own: names, and what files hold. -/
structure RowsAt (w3 : World) (F : List Fl) (r1 r2 : Value) (k : Nat) (w : World) : Prop where
  n : w.ownsRow w3.heap.size 9 1 r1 k (((namesF F).take k).map Proofs.encStr)
  v : w.ownsRow w3.heap.size 9 1 r2 k ((((namesF F).map (valF F)).take k).map Proofs.encStr)
  ne : ∀ g, r1.ownBlock = some g → r2.ownBlock ≠ some g
  b : Below w3.heap.size w3 w
theorem RowsAt.start (w3 : World) (F : List Fl) : RowsAt w3 F (.slice none 0 0) (.slice none 0 0) 0 w3 :=
  ⟨⟨by simp, .inl ⟨rfl, rfl⟩⟩, ⟨by simp, .inl ⟨rfl, rfl⟩⟩, (fun g e => (nomatch e)), Below.refl _ _⟩
theorem add_zero_addr (a : Addr) : a.add 0 = a := by unfold Addr.add; simp
theorem info9 : (Tryd.prog.info? 9).map (fun i => (i.zero, i.size, i.bytes)) = some (some (.string ByteArray.empty), 1, 16) := by kernel_rfl
theorem step_append_t {w : World} {ops : Array Oper} {o : Oper} {a : Act} {K : Act → World → Prop} {Q : Exit → Act → World → Prop} {F : Prop} (hgd : o.guard = none) (s x : Operand)
    (ho : o.op = .call { callee := .builtin .append, args := #[s, x], argTypes := #[31, 31] }) (B : Nat) (v : Value) (n : Nat) (xs : List Value) (e : ByteArray) (ad : Addr) (cap : Nat)
    (hs : a.eval s = v) (hx : a.eval x = .slice (some ad) 1 cap) (hown : w.ownsRow B 9 1 v n xs) (hnews : w.cell? ad = some (.string e)) (hb : n + 1 ≤ 1048576) (hB : B ≤ w.heap.size)
    (h : ∀ v' w', w'.ownsRow B 9 1 v' (n + 1) (xs ++ [.string e]) → w.grownBy w' v.ownBlock → (v'.ownBlock = v.ownBlock ∨ v'.ownBlock = some w.heap.size) → K (a.put o.dst v') w') :
    if Region.wanted o (yielded ops a.tmps) = true then Oper.wp Tryd.prog o a w K Q else F := by
  obtain ⟨i0, hi0, hz0, hz1, hz2⟩ := info_parts info9
  have hw : Region.wanted o (yielded ops a.tmps) = true := by simp [Region.wanted, hgd]
  rw [if_pos hw]
  obtain ⟨v', w', hr, h2, h3, _, h5⟩ := run_append_own_at (P := Tryd.prog) w B 31 o.type 9 i0 (.string ByteArray.empty) 1 16 Tryd.underlying31 hi0 hz0 hz1 hz2 rfl (by decide) v n xs hown ad 1 cap [.string e] rfl (fun j u hj => by
    cases j with
    | zero => cases hj; rw [add_zero_addr]; exact hnews
    | succ j => cases hj) (by intro u hu; rw [List.mem_singleton.1 hu]; rfl) (by simp only [maxLen]; omega) (by omega) hB
  unfold Oper.wp execOp
  simp only [ho, resolve, invoke, builtin, Sem.run_bind, Sem.run_pure, Result.andThen_ok, List.map_toArray, List.map_cons, List.map_nil, hs, hx, hr]
  exact h v' w' h2 h3 h5
theorem grown_cell {w w' : World} {b : Option Nat} {p : Addr} {v : Value} (h : w.grownBy w' b) (c : w.cell? p = some v) (hb : b ≠ some p.block) : w'.cell? p = some v := by
  have := h.block p.block (World.block_lt_of_cell? w p c) (fun e => hb e.symm)
  simpa [World.cell?, this] using c
theorem RdY.app {w w' : World} {Y : Value} {bs : List UInt8} {B n : Nat} {v : Value} {xs : List Value} (h : RdY w Y bs) (hr : w.ownsRow B 9 1 v n xs) (hg : w.grownBy w' v.ownBlock) : RdY w' Y bs := by
  rcases h with h | ⟨g, o, cap, cs, fr, e, h1, h2, h3, h4⟩
  · exact .inl h
  · refine .inr ⟨g, o, cap, cs, fr, e, h1, ?_, h3, h4⟩
    rw [hg.block g (Array.getElem?_eq_some_iff.1 h2).1 (fun k => ?_)]
    · exact h2
    · rcases hr.2 with ⟨rfl, _⟩ | ⟨g', cap', cur, rfl, hB, hb, _⟩
      · cases k
      · cases k
        rw [hb] at h2; cases h2
/-- What stands in a region that adds to two rows. -/
structure RG (m : Nat) (w3 : World) (gN k : Nat) (s : ByteArray) (Y : Value) (bs : List UInt8) (r1 : Value) (n1 : Nat) (xs1 : List Value) (r2 : Value) (n2 : Nat) (xs2 : List Value) (w : World) : Prop where
  n : w.ownsRow m 9 1 r1 n1 xs1
  v : w.ownsRow m 9 1 r2 n2 xs2
  ne : ∀ g, r1.ownBlock = some g → r2.ownBlock ≠ some g
  b : Below m w3 w
  l : m ≤ w.heap.size
  c : w.cell? ⟨gN, k, none⟩ = some (.string s)
  g : gN < m
  y : RdY w Y bs
def S28 (gN k : Nat) (s : ByteArray) (Y : Value) (bs : List UInt8) (w : World) : Prop := w.cell? ⟨gN, k, none⟩ = some (.string s) ∧ RdY w Y bs ∧ gN < w.heap.size
section
variable {m : Nat} {w3 : World} {gN k : Nat} {s : ByteArray} {Y : Value} {bs : List UInt8} {r1 : Value} {n1 : Nat} {xs1 : List Value} {r2 : Value} {n2 : Nat} {xs2 : List Value} {w : World}
theorem RG.held (h : RG m w3 gN k s Y bs r1 n1 xs1 r2 n2 xs2 w) : S28 gN k s Y bs w := ⟨h.c, h.y, Nat.lt_of_lt_of_le h.g h.l⟩
theorem RG.below (h : RG m w3 gN k s Y bs r1 n1 xs1 r2 n2 xs2 w) {w1 : World} (hb : Below w.heap.size w w1) : RG m w3 gN k s Y bs r1 n1 xs1 r2 n2 xs2 w1 :=
  ⟨row_below h.n hb, row_below h.v hb, h.ne, h.b.trans (hb.mono h.l), Nat.le_trans h.l hb.size, bel_cell hb h.c, h.g, h.y.kept (KeptY.below hb)⟩
theorem RG.alloc (h : RG m w3 gN k s Y bs r1 n1 xs1 r2 n2 xs2 w) (o : Obj) : RG m w3 gN k s Y bs r1 n1 xs1 r2 n2 xs2 (w.alloc o) := h.below ((Below.refl _ _).alloc (Nat.le_refl _) o)
theorem RG.drew (h : RG m w3 gN k s Y bs r1 n1 xs1 r2 n2 xs2 w) : RG m w3 gN k s Y bs r1 n1 xs1 r2 n2 xs2 w.drew := h.below (below_drewN (Below.refl _ _) 1)
theorem RG.no1 (h : RG m w3 gN k s Y bs r1 n1 xs1 r2 n2 xs2 w) : r1.ownBlock ≠ some w.heap.size := fun e => Nat.lt_irrefl _ (h.n.lt _ e).2
theorem RG.no2 (h : RG m w3 gN k s Y bs r1 n1 xs1 r2 n2 xs2 w) : r2.ownBlock ≠ some w.heap.size := fun e => Nat.lt_irrefl _ (h.v.lt _ e).2
theorem RG.app1 (h : RG m w3 gN k s Y bs r1 n1 xs1 r2 n2 xs2 w) {w' : World} {r : Value} {n : Nat} {xs : List Value} (ho : w'.ownsRow m 9 1 r n xs) (hg : w.grownBy w' r1.ownBlock) (ha : r.ownBlock = r1.ownBlock ∨ r.ownBlock = some w.heap.size) : RG m w3 gN k s Y bs r n xs r2 n2 xs2 w' := by
  refine ⟨ho, row_kept h.v hg (fun g e e2 => h.ne g e2 e), fun g e => ?_, h.b.trans ⟨hg.os, hg.tape, hg.output, hg.size, fun j hj => hg.block j (Nat.lt_of_lt_of_le hj h.l) (fun e => by have := (h.n.lt j e.symm).1; omega)⟩, Nat.le_trans h.l hg.size, grown_cell hg h.c (fun e => by have := (h.n.lt _ e).1; have := h.g; dsimp only at *; omega), h.g, h.y.app h.n hg⟩
  rcases ha with ha | ha
  · exact h.ne g (ha ▸ e)
  · rw [ha] at e; cases e; exact h.no2
theorem RG.app2 (h : RG m w3 gN k s Y bs r1 n1 xs1 r2 n2 xs2 w) {w' : World} {r : Value} {n : Nat} {xs : List Value} (ho : w'.ownsRow m 9 1 r n xs) (hg : w.grownBy w' r2.ownBlock) (ha : r.ownBlock = r2.ownBlock ∨ r.ownBlock = some w.heap.size) : RG m w3 gN k s Y bs r1 n1 xs1 r n xs w' := by
  refine ⟨row_kept h.n hg (fun g e e2 => h.ne g e e2), ho, fun g e e2 => ?_, h.b.trans ⟨hg.os, hg.tape, hg.output, hg.size, fun j hj => hg.block j (Nat.lt_of_lt_of_le hj h.l) (fun e => by have := (h.v.lt j e.symm).1; omega)⟩, Nat.le_trans h.l hg.size, grown_cell hg h.c (fun e => by have := (h.v.lt _ e).1; have := h.g; dsimp only at *; omega), h.g, h.y.app h.v hg⟩
  rcases ha with ha | ha
  · exact h.ne g e (ha ▸ e2)
  · rw [ha] at e2; cases e2; exact h.no1 e
end
theorem new_cell (w : World) (s : ByteArray) : (w.alloc (.cells #[.string s] 9)).cell? ⟨w.heap.size, 0, none⟩ = some (.string s) := by
  have := (Blk.new w 9 #[.string s]).cell 0
  rw [this]; rfl
theorem rows_next {xs : List (List UInt8)} {k : Nat} {x : List UInt8} (h : xs[k]? = some x) : (xs.take (k + 1)).map Proofs.encStr = (xs.take k).map Proofs.encStr ++ [.string ⟨x.toArray⟩] := by
  rw [List.take_add_one, h, List.map_append]; rfl
def LoJ (B d : Nat) (F : List Fl) (wz wy : World) : Prop := Fr B wz wy ∧ ∃ x, DiskOk wy B d x ∧ x.sure = F
theorem crash_fine (B d : Nat) (x : FS) (n : Nat) (F : List Fl) (w : World) (h : DiskOk w B d x) (hn : n ≤ x.T.length) (hF : crashF x.sure x.T n 0 = F) :
    Calls Tryd.prog 22 #[.pointer (some ⟨d, 0, none⟩), .int .i64 n, .int .i64 0] w (OkSaid B d (fun x' => x' = ⟨F, F, []⟩) w) := by
  have hl := h.1.st.1
  have hcb : ¬ crashBad x.T.length n 0 := by unfold crashBad; omega
  refine Calls.mono (crash_ok B d x n 0 (by omega) (by omega) (by omega) (by omega) w h) fun y w' h => h.ok (if_neg hcb) ?_
  intro x' hx
  rw [if_neg hcb, Int.toNat_natCast, show ((0 : Int).toNat) = 0 from rfl, hF] at hx
  exact hx
end Go.Proofs.YtgocmfjijoibkaaDoor
