/- A number laid at its place. -/
import Derived.Test.YtjffciejoahegaaDoorE5
import Derived.Test.YtjffciejoahegaaDoorAdmit
namespace Go.Proofs.YtjffciejoahegaaDoor
open Go.RowKit
set_option linter.unusedVariables false
theorem bel_cell {w w' : World} {p : Addr} {v : Value} (h : Below w.heap.size w w') (c : w.cell? p = some v) : w'.cell? p = some v := (h.cell (World.block_lt_of_cell? w p c)).trans c
theorem getD_mem {L : List Int} {k : Nat} (h : k < L.length) : L.getD k 0 ∈ L := by
  rw [List.getD_eq_getElem?_getD, List.getElem?_eq_getElem h]; exact List.getElem_mem _
theorem up_lt {L : List Int} (h : L.Pairwise (· < ·)) {i j : Nat} (hij : i < j) (hj : j < L.length) : L.getD i 0 < L.getD j 0 := by
  rw [List.getD_eq_getElem?_getD, List.getD_eq_getElem?_getD, List.getElem?_eq_getElem hj, List.getElem?_eq_getElem (by omega)]
  exact List.pairwise_iff_getElem.1 h i j (by omega) hj hij
theorem mem_getD {L : List Int} {x : Int} (h : x ∈ L) : ∃ k, k < L.length ∧ L.getD k 0 = x := by
  obtain ⟨k, hk, e⟩ := List.getElem_of_mem h
  exact ⟨k, hk, by rw [List.getD_eq_getElem?_getD, List.getElem?_eq_getElem hk]; exact e⟩
/-- A number laid at its place. -/
theorem up_ins {L s : List Int} {k : Nat} {x : Int} (h : Up L s) (hk : k ≤ L.length) (h1 : ∀ j, j < k → L.getD j 0 < x) (h2 : k < L.length → ¬ L.getD k 0 < x ∧ ¬ L.getD k 0 = x) : Up (L.take k ++ [x] ++ L.drop k) (s ++ [x]) := by
  have ht : ∀ a ∈ L.take k, a < x := by
    intro a ha
    obtain ⟨j, hj, e⟩ := mem_getD ha
    rw [List.length_take] at hj
    rw [List.getD_eq_getElem?_getD, List.getElem?_take_of_lt (by omega), ← List.getD_eq_getElem?_getD] at e
    rw [← e]; exact h1 j (by omega)
  have hd : ∀ a ∈ L.drop k, x < a := by
    intro a ha
    obtain ⟨j, hj, e⟩ := mem_getD ha
    rw [List.length_drop] at hj
    rw [List.getD_eq_getElem?_getD, List.getElem?_drop, ← List.getD_eq_getElem?_getD] at e
    rw [← e]
    obtain ⟨a1, a2⟩ := h2 (by omega)
    by_cases hj0 : j = 0
    · subst hj0; rw [Nat.add_zero]; omega
    · have := up_lt h.1 (show k < k + j by omega) (by omega); omega
  refine ⟨?_, fun y => ?_⟩
  · rw [List.append_assoc]
    refine List.pairwise_append.2 ⟨h.1.sublist (List.take_sublist _ _), List.pairwise_cons.2 ⟨hd, h.1.sublist (List.drop_sublist _ _)⟩, fun a ha b hb => ?_⟩
    rcases List.mem_cons.1 hb with rfl | hb
    · exact ht a ha
    · have := ht a ha; have := hd b hb; omega
  · have e : y ∈ L ↔ y ∈ L.take k ∨ y ∈ L.drop k := by rw [← List.mem_append, List.take_append_drop]
    rw [List.mem_append, List.mem_append, List.mem_append, ← h.2 y, e, List.mem_singleton]
    constructor
    · rintro ((h | h) | h)
      · exact .inl (.inl h)
      · exact .inr h
      · exact .inl (.inr h)
    · rintro ((h | h) | h)
      · exact .inl (.inl h)
      · exact .inr h
      · exact .inl (.inr h)
theorem up_same {L s : List Int} {k : Nat} {x : Int} (h : Up L s) (hk : k < L.length) (e : L.getD k 0 = x) : Up L (s ++ [x]) := by
  refine ⟨h.1, fun y => ?_⟩
  rw [List.mem_append, List.mem_singleton, ← h.2 y]
  refine ⟨.inl, fun hy => hy.elim id fun hy => ?_⟩
  subst hy; rw [← e]; exact getD_mem hk
end Go.Proofs.YtjffciejoahegaaDoor
