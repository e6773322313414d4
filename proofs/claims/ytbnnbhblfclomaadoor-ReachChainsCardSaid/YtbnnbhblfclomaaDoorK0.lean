/- Slices of numbers as arrays. -/
import Derived.Test.YtbnnbhblfclomaaDoorF1
namespace Go.Proofs.YtbnnbhblfclomaaDoor
open Go.RowKit
set_option linter.unusedSimpArgs false
set_option linter.unusedVariables false
def natsA (n : Nat) (f : Nat → Nat) : Array Value := ((List.range n).map fun (x : Nat) => Value.int .i64 (f x : Int)).toArray
theorem natsA_size (n : Nat) (f : Nat → Nat) : (natsA n f).size = n := by unfold natsA; simp
theorem natsA_get {n x : Nat} (f : Nat → Nat) (h : x < n) : (natsA n f)[x]? = some (.int .i64 (f x : Int)) := by unfold natsA; simp [h]
theorem natsA_set (n x v : Nat) (f : Nat → Nat) : (natsA n f).setIfInBounds x (.int .i64 (v : Int)) = natsA n (updN f x v) := by
  apply Array.ext_getElem?
  intro i
  by_cases hi : i < n
  · rw [natsA_get _ hi]
    by_cases c : i = x
    · subst c
      rw [Array.getElem?_setIfInBounds_self_of_lt (by rw [natsA_size]; exact hi), updN_self]
    · rw [Array.getElem?_setIfInBounds_ne (Ne.symm c), natsA_get _ hi, updN_ne _ _ c]
  · rw [Array.getElem?_eq_none (by rw [Array.size_setIfInBounds, natsA_size]; omega), Array.getElem?_eq_none (by rw [natsA_size]; omega)]
theorem natsA_made (n : Nat) : madeCells #[Value.int .i64 0] n = natsA n (fun _ => 0) := by
  apply Array.ext_getElem?
  intro i
  by_cases hi : i < n
  · rw [natsA_get _ hi]; simp [madeCells, hi, Nat.mod_one]
  · rw [Array.getElem?_eq_none (by rw [size_madeCells]; omega), Array.getElem?_eq_none (by rw [natsA_size]; omega)]
theorem natsA_congr {n : Nat} {f g : Nat → Nat} (h : ∀ x, x < n → f x = g x) : natsA n f = natsA n g := by
  apply Array.ext_getElem?
  intro i
  by_cases hi : i < n
  · rw [natsA_get _ hi, natsA_get _ hi, h i hi]
  · rw [Array.getElem?_eq_none (by rw [natsA_size]; omega), Array.getElem?_eq_none (by rw [natsA_size]; omega)]
theorem make_walk (n : Nat) (hn : n ≤ 4096) (W : World) : (Instr.makeSlice 26 (.int .i64 (n : Int)) (.int .i64 (n : Int))).run Tryd.prog W = .ok (.slice (some ⟨W.heap.size, 0, none⟩) n n) (W.alloc (.cells (natsA n (fun _ => 0)) 3)) := by
  obtain ⟨j0, hj0, hy0, hy1, hy2⟩ := info_parts info3
  have h := run_make (P := Tryd.prog) W 26 3 j0 (.int .i64 0) Tryd.underlying26 hj0 hy0 .i64 .i64 n n (by omega) (Int.le_refl _) (by rw [hy2]; omega) (by omega)
  rw [hy1] at h
  rw [← natsA_made]
  simpa [Value.cells] using h
end Go.Proofs.YtbnnbhblfclomaaDoor
