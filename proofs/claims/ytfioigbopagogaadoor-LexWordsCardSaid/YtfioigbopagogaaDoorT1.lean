/- Texts that came in: how they are read. -/
import Derived.Test.YtfioigbopagogaaDoorA2
import Derived.Test.YtfioigbopagogaaDoorP4
namespace Go.Proofs.YtfioigbopagogaaDoor
open Go.RowKit
set_option linter.unusedVariables false
/-- Texts that came in, to be read. -/
def RdT (w : World) (v : Value) (m : Nat) (L : List ByteArray) : Prop :=
  (∃ A cap, v = .slice A 0 cap ∧ L = []) ∨ ∃ g o cap, v = .slice (some ⟨g, o, none⟩) L.length cap ∧ g < m ∧ ∀ i, i < L.length → w.cell? ⟨g, o + i, none⟩ = some (.string (L.getD i ByteArray.empty))
theorem RdT.below {w w1 : World} {v : Value} {n B : Nat} {L : List ByteArray} (h : RdT w v n L) (hb : Below B w w1) (hn : n ≤ B) : RdT w1 v n L := by
  rcases h with h | ⟨g, o, cap, e, hg, hc⟩
  · exact .inl h
  · exact .inr ⟨g, o, cap, e, hg, fun i hi => (hb.cell (p := ⟨g, o + i, none⟩) (by simp; omega)).trans (hc i hi)⟩
theorem RdT.wider {w : World} {v : Value} {n m : Nat} {L : List ByteArray} (h : RdT w v n L) (hn : n ≤ m) : RdT w v m L := by
  rcases h with h | ⟨g, o, cap, e, hg, hc⟩
  · exact .inl h
  · exact .inr ⟨g, o, cap, e, by omega, hc⟩
theorem RdT.form {w : World} {v : Value} {n : Nat} {L : List ByteArray} (h : RdT w v n L) : ∃ A cap, v = .slice A L.length cap := by
  rcases h with ⟨A, cap, rfl, rfl⟩ | ⟨g, o, cap, e, hg, hc⟩
  · exact ⟨_, _, rfl⟩
  · exact ⟨_, _, e⟩
theorem RdT.cell {w : World} {A : Option Addr} {c n : Nat} {L : List ByteArray} (h : RdT w (.slice A L.length c) n L) {i : Nat} (hi : i < L.length) : ∃ g o, A = some ⟨g, o, none⟩ ∧ w.cell? ⟨g, o + i, none⟩ = some (.string (L.getD i ByteArray.empty)) := by
  rcases h with ⟨_, _, _, rfl⟩ | ⟨g, o, cap, e, hg, hc⟩
  · simp at hi
  · cases e; exact ⟨g, o, rfl, hc i hi⟩
theorem RdL.cell {w : World} {A : Option Addr} {c n : Nat} {L : List Ln} (h : RdL w (.slice A L.length c) n L) {i : Nat} (hi : i < L.length) : ∃ g, A = some ⟨g, 0, none⟩ ∧ LnAt w g (i * 2) (L.getD i ln0) := by
  rcases h with ⟨_, rfl⟩ | ⟨g, cap, e, _, hg, hc⟩
  · simp at hi
  · cases e; exact ⟨g, rfl, hc i hi⟩
theorem byte_at (s : ByteArray) (i : Nat) (h : i < s.size) : s.data.toList.take (i + 1) = s.data.toList.take i ++ [s[i]] := by
  have h' : i < s.data.toList.length := by rw [sz_len]; exact h
  rw [List.take_add_one, List.getElem?_eq_getElem h']; rfl
theorem byte_is (c d : UInt8) : ((c.toNat : Int) == (d.toNat : Int)) = decide (c = d) := by
  by_cases h : c = d
  · subst h; simp
  · rw [decide_eq_false h]
    have : ¬ c.toNat = d.toNat := fun e => h (UInt8.toNat.inj e)
    simp; omega
def datas (L : List ByteArray) : List (List UInt8) := L.map (·.data.toList)
theorem datas_take {L : List ByteArray} {i : Nat} (h : i < L.length) : (datas L).take (i + 1) = (datas L).take i ++ [(L.getD i ByteArray.empty).data.toList] := by
  unfold datas
  rw [List.take_add_one, List.getElem?_map, List.getElem?_eq_getElem h, List.getD_eq_getElem?_getD, List.getElem?_eq_getElem h]; rfl
theorem datas_len (L : List ByteArray) : (datas L).length = L.length := by simp [datas]
theorem sF_snoc (ls : List (List UInt8)) (l : List UInt8) : sF (ls ++ [l]) = sF ls ++ (l ++ [10]) := by simp [sF]
theorem tF_snoc (ls : List (List UInt8)) (l : List UInt8) : tF (ls ++ [l]) = tF ls ++ (plainX l ++ [10, 32, 10, 35, 32, 120, 10]) := by simp [tF]
theorem items_le : ∀ (ls : List (List UInt8)) (i d : Nat), ∀ x ∈ itemsF i d ls, i ≤ x.1 ∧ x.1 ≤ i + d * ls.length
  | [], i, d, x, h => by cases h
  | l :: r, i, d, x, h => by
    have hm : d * (r.length + 1) = d * r.length + d := by rw [Nat.mul_succ]
    rw [itemsF] at h
    rw [List.length_cons, hm]
    split at h
    · have := items_le r (i + d) d x h; omega
    · rcases List.mem_cons.1 h with rfl | h
      · exact ⟨Nat.le_refl _, by simp⟩
      · have := items_le r (i + d) d x h; omega
end Go.Proofs.YtfioigbopagogaaDoor
