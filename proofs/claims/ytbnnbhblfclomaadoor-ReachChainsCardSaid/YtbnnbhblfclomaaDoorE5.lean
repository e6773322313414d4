/- Appends of ints. -/
import Derived.Test.YtbnnbhblfclomaaDoorE4
namespace Go.Proofs.YtbnnbhblfclomaaDoor
open Go.RowKit
set_option linter.unusedVariables false
open Go.Shelf
def cellsI (L : List Int) : List Value := L.map (Value.int .i64)
theorem cellsI_len (L : List Int) : (cellsI L).length = L.length * 1 := by simp [cellsI]
theorem cellsI_one (L : List Int) : ∀ u ∈ cellsI L, u.oneCell' = true := by
  intro u hu
  obtain ⟨x, _, rfl⟩ := List.mem_map.1 hu
  rfl
theorem RdI.of_owns {w : World} {B n m : Nat} {t : TypeId} {v : Value} {L : List Int} (h : w.ownsRow B t 1 v n (cellsI L)) (hl : L.length = n) (hm : w.heap.size ≤ m) : RdI w v m L := by
  subst hl
  rcases h.2 with ⟨e, c⟩ | ⟨g, cap, cur, e, hB, hb, h1, h2, h3, h4⟩
  · exact .inl ⟨none, 0, e, fun _ => rfl, List.length_eq_zero_iff.1 c⟩
  · have hb' : Blk w g t cur := hb
    refine .inr ⟨g, 0, cap, e, by have := hb'.lt; omega, fun i hi => ?_⟩
    have e0 : (cellsI L)[i]? = some (.int .i64 (L.getD i 0)) := by
      simp [cellsI, List.getD_eq_getElem?_getD, List.getElem?_eq_getElem hi]
    rw [← h4, List.getElem?_take_of_lt (by omega), Array.getElem?_toList] at e0
    rw [Nat.zero_add, hb'.cell, e0]
theorem RdI.take {w : World} {A : Option Addr} {n cap m : Nat} {L : List Int} (h : RdI w (.slice A n cap) m L) {i : Nat} (hi : i ≤ n) : RdI w (.slice A i cap) m (L.take i) := by
  rcases h with ⟨A', cap', e, hA, rfl⟩ | ⟨g, o, cap', e, hg, hh⟩
  · cases e
    exact .inl ⟨A, cap, by rw [show i = 0 by omega], hA, by simp⟩
  · cases e
    have hl : (L.take i).length = i := by rw [List.length_take]; omega
    refine .inr ⟨g, o, cap, by rw [hl], hg, fun j hj => ?_⟩
    rw [hl] at hj
    have : (L.take i).getD j 0 = L.getD j 0 := by rw [List.getD_eq_getElem?_getD, List.getElem?_take_of_lt hj, ← List.getD_eq_getElem?_getD]
    rw [this]
    exact hh j (by omega)
theorem RdI.drop' {w : World} {g o n cap m : Nat} {L : List Int} (h : RdI w (.slice (some ⟨g, o, none⟩) n cap) m L) (hnc : n ≤ cap) {i : Nat} (hi : i ≤ n) : RdI w (.slice (if cap = i then some ⟨g, o, none⟩ else some ⟨g, o + i, none⟩) (n - i) (cap - i)) m (L.drop i) := by
  rcases h with ⟨A', cap', e, hA, rfl⟩ | ⟨g', o', cap', e, hg, hh⟩
  · cases e
    obtain rfl : i = 0 := by omega
    refine .inl ⟨_, _, rfl, fun e => ?_, by simp⟩
    split at e <;> cases e
  · simp only [Value.slice.injEq, Option.some.injEq, Addr.mk.injEq, and_true] at e
    obtain ⟨⟨rfl, rfl⟩, rfl, rfl⟩ := e
    have hl : (L.drop i).length = L.length - i := List.length_drop
    by_cases hc : cap = i
    · rw [if_pos hc]
      exact .inr ⟨g, o, cap - i, by rw [hl], hg, fun j hj => by omega⟩
    · rw [if_neg hc]
      refine .inr ⟨g, o + i, cap - i, by rw [hl], hg, fun j hj => ?_⟩
      rw [hl] at hj
      have : (L.drop i).getD j 0 = L.getD (i + j) 0 := by rw [List.getD_eq_getElem?_getD, List.getElem?_drop, ← List.getD_eq_getElem?_getD]
      rw [this, show o + i + j = o + (i + j) by omega]
      exact hh (i + j) (by omega)
theorem RdI.news {w : World} {v : Value} {m : Nat} {L : List Int} (h : RdI w v m L) : (v = .slice none 0 0 ∧ L = []) ∨ ∃ a cap, v = .slice (some a) L.length cap ∧ ∀ j u, (cellsI L)[j]? = some u → w.cell? (a.add j) = some u := by
  rcases h with ⟨A, cap, rfl, hA, rfl⟩ | ⟨g, o, cap, rfl, hg, hh⟩
  · cases A with
    | none => rw [hA rfl]; exact .inl ⟨rfl, rfl⟩
    | some a => exact .inr ⟨a, cap, rfl, fun j u hu => by simp [cellsI] at hu⟩
  · refine .inr ⟨_, cap, rfl, fun j u hu => ?_⟩
    have hj := (List.getElem?_eq_some_iff.1 hu).1
    rw [cellsI_len, Nat.mul_one] at hj
    have hadd : ((⟨g, o, none⟩ : Addr).add j) = ⟨g, o + j, none⟩ := by unfold Addr.add; split <;> simp_all
    rw [hadd, hh j hj, ← hu]
    simp [cellsI, List.getD_eq_getElem?_getD, List.getElem?_eq_getElem hj]
theorem RdI.one {w : World} {q : Nat} {x : Int} {m : Nat} (h : Blk w q 3 #[.int .i64 x]) (hm : w.heap.size ≤ m) : RdI w (.slice (some ⟨q, 0, none⟩) 1 1) m [x] :=
  .inr ⟨q, 0, 1, rfl, by have := h.lt; omega, fun i hi => by
    obtain rfl : i = 0 := by simpa using hi
    rw [h.cell]; rfl⟩
theorem RdI.of_ints {w : World} {A : Option Addr} {n cap : Nat} {L : List Int} (h : Ints w A n L) (hz : A = none → cap = 0) : RdI w (.slice A n cap) w.heap.size L := by
  obtain ⟨h1, h2, h3, h4⟩ := h
  subst h1
  by_cases hn : L.length = 0
  · exact .inl ⟨A, cap, by rw [hn], hz, List.length_eq_zero_iff.1 hn⟩
  · obtain ⟨⟨g, o, s⟩, rfl, hl, hc⟩ := h4 (by omega)
    have hs : s = none := by simpa [Addr.add] using World.cell?_spot (hc 0 (by omega))
    subst hs
    refine .inr ⟨g, o, cap, rfl, hl, fun i hi => ?_⟩
    have hadd : ((⟨g, o, none⟩ : Addr).add i) = ⟨g, o + i, none⟩ := by unfold Addr.add; split <;> simp_all
    rw [← hadd]; exact hc i hi
theorem owns_mono1 {w : World} {B C n : Nat} {t : TypeId} {v : Value} {xs : List Value} (h : w.ownsRow B t 1 v n xs) (k : C ≤ B) : w.ownsRow C t 1 v n xs := by
  refine ⟨h.1, h.2.imp id ?_⟩
  rintro ⟨g, cap, cur, e, hB, r⟩
  exact ⟨g, cap, cur, e, Nat.le_trans k hB, r⟩
theorem step_append_i {w : World} {ops : Array Oper} {o : Oper} {a : Act} {K : Act → World → Prop} {Q : Exit → Act → World → Prop} {F : Prop} (hgd : o.guard = none) (s x : Operand) (t : TypeId) (ht : Tryd.prog.underlying t = some (.slice 3))
    (ho : o.op = .call { callee := .builtin .append, args := #[s, x], argTypes := #[t, t] }) (B : Nat) (v u : Value) (m : Nat) (E0 E : List Int)
    (hs : a.eval s = v) (hx : a.eval x = u) (hown : w.ownsRow B 3 1 v E0.length (cellsI E0)) (hP : RdI w u m E) (hb : E0.length + E.length ≤ 1048576) (hB : B ≤ w.heap.size)
    (h : ∀ v' w', w'.ownsRow B 3 1 v' (E0 ++ E).length (cellsI (E0 ++ E)) → w.grownBy w' v.ownBlock → (v'.ownBlock = v.ownBlock ∨ v'.ownBlock = some w.heap.size) → K (a.put o.dst v') w') :
    if Region.wanted o (yielded ops a.tmps) = true then Oper.wp Tryd.prog o a w K Q else F := by
  obtain ⟨i0, hi0, hz0, hz1, hz2⟩ := info_parts info3
  have hw : Region.wanted o (yielded ops a.tmps) = true := by simp [Region.wanted, hgd]
  rw [if_pos hw]
  have hcap : (E0 ++ E).length = E0.length + E.length := List.length_append
  rcases hP.news with ⟨e, hE⟩ | ⟨ad, cap, e, hh⟩
  · subst hE
    subst e
    have hrun := run_append_owned_none (P := Tryd.prog) (w := w) B t o.type 3 i0 1 ht hi0 v E0.length (cellsI E0) hown
    unfold Oper.wp
    simp [execOp, ho, resolve, invoke, builtin, hs, hx, hrun, Result.andThen]
    exact h v w (by simpa using hown) (World.grownBy.refl w _) (.inl rfl)
  · subst e
    obtain ⟨v', w', hr, h2, h3, _, h5⟩ := run_append_own_at (P := Tryd.prog) w B t o.type 3 i0 (.int .i64 0) 1 8 ht hi0 hz0 hz1 hz2 rfl (by decide) v E0.length (cellsI E0) hown ad E.length cap (cellsI E) (cellsI_len E) hh (cellsI_one E) (by simp only [maxLen]; omega) (by omega) hB
    unfold Oper.wp execOp
    simp only [ho, resolve, invoke, builtin, Sem.run_bind, Sem.run_pure, Result.andThen_ok, List.map_toArray, List.map_cons, List.map_nil, hs, hx, hr]
    refine h v' w' ?_ h3 h5
    rw [hcap, show cellsI (E0 ++ E) = cellsI E0 ++ cellsI E by unfold cellsI; simp]
    exact h2
end Go.Proofs.YtbnnbhblfclomaaDoor
