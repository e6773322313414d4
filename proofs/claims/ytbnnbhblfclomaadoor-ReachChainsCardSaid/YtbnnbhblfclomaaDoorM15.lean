/- The marking of places: what 'marked' computes. -/
import Derived.Test.YtbnnbhblfclomaaDoorS15
import Derived.Deep.LoopGhost
namespace Go.Proofs.YtbnnbhblfclomaaDoor
open Go.RowKit
set_option linter.unusedSimpArgs false
set_option linter.unusedVariables false
def boolsA (n : Nat) (s : Nat → Bool) : Array Value := ((List.range n).map fun (x : Nat) => Value.bool (s x)).toArray
theorem boolsA_size (n : Nat) (s : Nat → Bool) : (boolsA n s).size = n := by unfold boolsA; simp
theorem boolsA_get {n x : Nat} (s : Nat → Bool) (h : x < n) : (boolsA n s)[x]? = some (.bool (s x)) := by unfold boolsA; simp [h]
theorem boolsA_set (n x : Nat) (s : Nat → Bool) : (boolsA n s).setIfInBounds x (.bool true) = boolsA n (updB s x) := by
  apply Array.ext_getElem?
  intro i
  by_cases hi : i < n
  · rw [boolsA_get _ hi]
    by_cases c : i = x
    · subst c
      rw [Array.getElem?_setIfInBounds_self_of_lt (by rw [boolsA_size]; exact hi), updB_self]
    · rw [Array.getElem?_setIfInBounds_ne (Ne.symm c), boolsA_get _ hi, updB_ne _ c]
  · rw [Array.getElem?_eq_none (by rw [Array.size_setIfInBounds, boolsA_size]; omega), Array.getElem?_eq_none (by rw [boolsA_size]; omega)]
theorem boolsA_made (n : Nat) : madeCells #[Value.bool false] n = boolsA n (fun _ => false) := by
  apply Array.ext_getElem?
  intro i
  by_cases hi : i < n
  · rw [boolsA_get _ hi]; simp [madeCells, hi, Nat.mod_one]
  · rw [Array.getElem?_eq_none (by rw [size_madeCells]; omega), Array.getElem?_eq_none (by rw [boolsA_size]; omega)]
theorem info4 : (Tryd.prog.info? 4).map (fun i => (i.zero, i.size, i.bytes)) = some (some (.bool false), 1, 1) := by kernel_rfl
theorem owns_cut {w : World} {B g n cap m : Nat} {xs : List Value} (h : w.ownsRow B 3 1 (.slice (some ⟨g, 0, none⟩) n cap) n xs) (hm : m ≤ n) : w.ownsRow B 3 1 (.slice (some ⟨g, 0, none⟩) m cap) m (xs.take m) := by
  have hl := h.1
  rcases h.2 with ⟨h', _⟩ | ⟨g', cap', cur, h', hb, hg, hnc, hcm, hcs, htake⟩
  · simp at h'
  · simp only [Value.slice.injEq, Option.some.injEq, Addr.mk.injEq, and_true, true_and] at h'
    obtain ⟨rfl, rfl⟩ := h'
    refine ⟨by rw [List.length_take]; omega, .inr ⟨g, cap, cur, rfl, hb, hg, by omega, hcm, hcs, ?_⟩⟩
    rw [← htake, List.take_take, Nat.mul_one, Nat.mul_one, Nat.min_eq_left (by omega)]
theorem nats_take (l : List Nat) (m : Nat) : (nats l).take m = nats (l.take m) := by unfold nats; rw [List.map_take]
theorem nats_append (l m : List Nat) : nats (l ++ m) = nats l ++ nats m := by unfold nats; simp
theorem nats_one (l : List Nat) : ∀ u ∈ nats l, u.oneCell' = true := by
  intro u hu
  unfold nats at hu
  obtain ⟨x, _, rfl⟩ := List.mem_map.1 hu
  rfl
theorem nats_of {l : List Nat} {j : Nat} {u : Value} (h : (nats l)[j]? = some u) : ∃ x, l[j]? = some x ∧ u = .int .i64 (x : Int) := by
  unfold nats at h
  rw [List.getElem?_map, Option.map_eq_some_iff] at h
  obtain ⟨x, h1, h2⟩ := h
  exact ⟨x, h1, h2.symm⟩
theorem add_lit0 (g o j : Nat) : (⟨g, o, none⟩ : Addr).add j = ⟨g, o + j, none⟩ := by unfold Addr.add; split <;> simp_all
/-- The value that reads as a list, and what append takes of it. -/
theorem Reads.news {w : World} {g o : Nat} {l : List Nat} (hc : ∀ (j x : Nat), l[j]? = some x → w.cell? ⟨g, o + j, none⟩ = some (.int .i64 (x : Int))) : ∀ j u, (nats l)[j]? = some u → w.cell? ((⟨g, o, none⟩ : Addr).add j) = some u := by
  intro j u hu
  obtain ⟨x, h1, rfl⟩ := nats_of hu
  rw [add_lit0]
  exact hc j x h1
end Go.Proofs.YtbnnbhblfclomaaDoor
