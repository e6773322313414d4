/- The document's list. -/
import Derived.Test.YtfbbkeekpkbjhaaDoorT2
import Derived.Test.YtfbbkeekpkbjhaaDoorS3
import Derived.Deep.RegionHeld3
namespace Go.Proofs.YtfbbkeekpkbjhaaDoor
open Go.RowKit
open Go.Shelf
/-- A slice of the document's events, to be read. -/
def RdE (w : World) (v : Value) (L : List Ev) : Prop :=
  (v = .slice none 0 0 ∧ L = []) ∨ ∃ g o cap, v = .slice (some ⟨g, o, none⟩) L.length cap ∧ L.length ≤ cap ∧ g < w.heap.size ∧
    ∀ i, i < L.length → w.cell? ⟨g, o + i * 3, none⟩ = some (.int .i64 (L.getD i ⟨0, 0, 0⟩).t) ∧ w.cell? ⟨g, o + i * 3 + 1, none⟩ = some (.int .i64 (L.getD i ⟨0, 0, 0⟩).k) ∧ w.cell? ⟨g, o + i * 3 + 2, none⟩ = some (.int .i64 (L.getD i ⟨0, 0, 0⟩).d)
theorem RdE.below {w w' : World} {v : Value} {L : List Ev} (h : RdE w v L) (k : Below w.heap.size w w') : RdE w' v L := by
  rcases h with h | ⟨g, o, cap, e, hc, hg, hh⟩
  · exact .inl h
  · refine .inr ⟨g, o, cap, e, hc, Nat.lt_of_lt_of_le hg k.size, fun i hi => ?_⟩
    obtain ⟨a, b, c⟩ := hh i hi
    exact ⟨(k.cell (p := ⟨g, o + i * 3, none⟩) hg).trans a, (k.cell (p := ⟨g, o + i * 3 + 1, none⟩) hg).trans b, (k.cell (p := ⟨g, o + i * 3 + 2, none⟩) hg).trans c⟩
theorem RdE.of_owns {w : World} {B n : Nat} {t : TypeId} {v : Value} {L : List Ev} (h : w.ownsRow B t 3 v n (cellsE L)) (hl : L.length = n) : RdE w v L := by
  subst hl
  rcases h.2 with ⟨e, c⟩ | ⟨g, cap, cur, e, hB, hb, h1, h2, h3, h4⟩
  · exact .inl ⟨e, List.length_eq_zero_iff.1 c⟩
  · have hb' : Blk w g t cur := hb
    refine .inr ⟨g, 0, cap, e, h1, hb'.lt, fun i hi => ?_⟩
    obtain ⟨a, b, c⟩ := cellsE_at L i hi
    rw [← h4] at a b c
    rw [List.getElem?_take_of_lt (by omega), Array.getElem?_toList] at a b c
    rw [Nat.zero_add]
    exact ⟨by rw [hb'.cell, a], by rw [hb'.cell, b], by rw [hb'.cell, c]⟩
theorem RdE.take {w : World} {g o n cap : Nat} {L : List Ev} (h : RdE w (.slice (some ⟨g, o, none⟩) n cap) L) {i : Nat} (hi : i ≤ n) : RdE w (.slice (some ⟨g, o, none⟩) i cap) (L.take i) := by
  rcases h with ⟨e, _⟩ | ⟨g', o', cap', e, hc, hg, hh⟩
  · cases e
  · simp only [Value.slice.injEq, Option.some.injEq, Addr.mk.injEq, and_true] at e
    obtain ⟨⟨rfl, rfl⟩, rfl, rfl⟩ := e
    have hl : (L.take i).length = i := by rw [List.length_take]; omega
    refine .inr ⟨g, o, cap, by rw [hl], by omega, hg, fun j hj => ?_⟩
    rw [hl] at hj
    have : (L.take i).getD j ⟨0, 0, 0⟩ = L.getD j ⟨0, 0, 0⟩ := by rw [List.getD_eq_getElem?_getD, List.getElem?_take_of_lt hj, ← List.getD_eq_getElem?_getD]
    rw [this]
    exact hh j (by omega)
theorem RdE.drop {w : World} {g o n cap : Nat} {L : List Ev} (h : RdE w (.slice (some ⟨g, o, none⟩) n cap) L) {i : Nat} (hi : i ≤ n) : RdE w (.slice (some ⟨g, o + i * 3, none⟩) (n - i) (cap - i)) (L.drop i) := by
  rcases h with ⟨e, _⟩ | ⟨g', o', cap', e, hc, hg, hh⟩
  · cases e
  · simp only [Value.slice.injEq, Option.some.injEq, Addr.mk.injEq, and_true] at e
    obtain ⟨⟨rfl, rfl⟩, rfl, rfl⟩ := e
    have hl : (L.drop i).length = L.length - i := List.length_drop
    refine .inr ⟨g, o + i * 3, cap - i, by rw [hl], by omega, hg, fun j hj => ?_⟩
    rw [hl] at hj
    have : (L.drop i).getD j ⟨0, 0, 0⟩ = L.getD (i + j) ⟨0, 0, 0⟩ := by rw [List.getD_eq_getElem?_getD, List.getElem?_drop, ← List.getD_eq_getElem?_getD]
    rw [this, show o + i * 3 + j * 3 = o + (i + j) * 3 by omega]
    exact hh (i + j) (by omega)
theorem RdE.news {w : World} {g o n cap : Nat} {L : List Ev} (h : RdE w (.slice (some ⟨g, o, none⟩) n cap) L) : n = L.length ∧ ∀ j u, (cellsE L)[j]? = some u → w.cell? ((⟨g, o, none⟩ : Addr).add j) = some u := by
  rcases h with ⟨e, _⟩ | ⟨g', o', cap', e, hc, hg, hh⟩
  · cases e
  · simp only [Value.slice.injEq, Option.some.injEq, Addr.mk.injEq, and_true] at e
    obtain ⟨⟨rfl, rfl⟩, rfl, rfl⟩ := e
    refine ⟨rfl, fun j u hu => ?_⟩
    have hj := (List.getElem?_eq_some_iff.1 hu).1
    rw [cellsE_len] at hj
    obtain ⟨a, b, c⟩ := cellsE_at L (j / 3) (by omega)
    obtain ⟨a', b', c'⟩ := hh (j / 3) (by omega)
    have hadd : ((⟨g, o, none⟩ : Addr).add j) = ⟨g, o + j, none⟩ := by unfold Addr.add; split <;> simp_all
    rw [hadd]
    have h3 : j = j / 3 * 3 ∨ j = j / 3 * 3 + 1 ∨ j = j / 3 * 3 + 2 := by omega
    rcases h3 with e | e | e
    · rw [← e] at a a'; rw [a', ← a]; exact hu
    · rw [Nat.add_assoc, ← e] at b'; rw [← e] at b; rw [b', ← b]; exact hu
    · rw [Nat.add_assoc, ← e] at c'; rw [← e] at c; rw [c', ← c]; exact hu
theorem cellsE_one (E : List Ev) : ∀ u ∈ cellsE E, u.oneCell' = true := by
  intro u hu
  unfold cellsE at hu
  obtain ⟨e, _, h2⟩ := List.mem_flatMap.1 hu
  simp [encE3] at h2
  rcases h2 with rfl | rfl | rfl <;> rfl
theorem info43 : (Tryd.prog.info? 43).map (fun i => (i.zero, i.size, i.bytes)) = some (some (.agg #[.int .i64 0, .int .i64 0, .int .i64 0]), 3, 24) := by kernel_rfl
theorem step_append_e {w : World} {ops : Array Oper} {o : Oper} {a : Act} {K : Act → World → Prop} {Q : Exit → Act → World → Prop} {F : Prop} (hgd : o.guard = none) (s x : Operand)
    (ho : o.op = .call { callee := .builtin .append, args := #[s, x], argTypes := #[38, 38] }) (B : Nat) (v u : Value) (E0 E : List Ev)
    (hs : a.eval s = v) (hx : a.eval x = u) (hown : w.ownsRow B 43 3 v E0.length (cellsE E0)) (hP : RdE w u E) (hb : E0.length + E.length ≤ 1048576) (hB : B ≤ w.heap.size)
    (h : ∀ v' w', w'.ownsRow B 43 3 v' (E0 ++ E).length (cellsE (E0 ++ E)) → w.grownBy w' v.ownBlock → (v'.ownBlock = v.ownBlock ∨ v'.ownBlock = some w.heap.size) → K (a.put o.dst v') w') :
    if Region.wanted o (yielded ops a.tmps) = true then Oper.wp Tryd.prog o a w K Q else F := by
  obtain ⟨i0, hi0, hz0, hz1, hz2⟩ := info_parts info43
  have hw : Region.wanted o (yielded ops a.tmps) = true := by simp [Region.wanted, hgd]
  rw [if_pos hw]
  have hcap : (E0 ++ E).length = E0.length + E.length := List.length_append
  rcases hP with ⟨e, hE⟩ | ⟨g, o', cap, e, hc, hg, hh⟩
  · subst hE
    subst e
    have hrun := run_append_owned_none (P := Tryd.prog) (w := w) B 38 o.type 43 i0 3 Tryd.underlying38 hi0 v E0.length (cellsE E0) hown
    unfold Oper.wp
    simp [execOp, ho, resolve, invoke, builtin, hs, hx, hrun, Result.andThen]
    exact h v w (by simpa using hown) (World.grownBy.refl w _) (.inl rfl)
  · subst e
    have hn := RdE.news (.inr ⟨g, o', cap, rfl, hc, hg, hh⟩ : RdE w (.slice (some ⟨g, o', none⟩) E.length cap) E)
    obtain ⟨v', w', hr, h2, h3, _, h5⟩ := run_append_own_at (P := Tryd.prog) w B 38 o.type 43 i0 (.agg #[.int .i64 0, .int .i64 0, .int .i64 0]) 3 24 Tryd.underlying38 hi0 hz0 hz1 hz2 rfl (by decide) v E0.length (cellsE E0) hown ⟨g, o', none⟩ E.length cap (cellsE E) (cellsE_len E) hn.2 (cellsE_one E) (by simp only [maxLen]; omega) (by omega) hB
    unfold Oper.wp execOp
    simp only [ho, resolve, invoke, builtin, Sem.run_bind, Sem.run_pure, Result.andThen_ok, List.map_toArray, List.map_cons, List.map_nil, hs, hx, hr]
    refine h v' w' ?_ h3 h5
    rw [hcap, show cellsE (E0 ++ E) = cellsE E0 ++ cellsE E by unfold cellsE; simp]
    exact h2
end Go.Proofs.YtfbbkeekpkbjhaaDoor
