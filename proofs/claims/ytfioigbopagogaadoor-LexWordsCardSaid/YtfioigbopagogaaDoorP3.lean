/- LexLong's text, in plain lists. -/
import Derived.Test.YtfioigbopagogaaDoorP2
namespace Go.Proofs.YtfioigbopagogaaDoor
open Go.RowKit
set_option linter.unusedVariables false
instance (b : List UInt8) : Decidable (Bl b) := by unfold Bl; infer_instance
/-- So many lines of one byte a. -/
def aheadF : Nat → List UInt8
  | 0 => []
  | n + 1 => 97 :: 10 :: aheadF n
theorem aheadF_len (n : Nat) : (aheadF n).length = 2 * n := by
  induction n with
  | zero => rfl
  | succ n ih => simp [aheadF, ih]; omega
theorem aheadF_snoc (n : Nat) : aheadF (n + 1) = aheadF n ++ [97, 10] := by
  induction n with
  | zero => rfl
  | succ n ih =>
    show 97 :: 10 :: aheadF (n + 1) = (97 :: 10 :: aheadF n) ++ [97, 10]
    rw [ih]; rfl
theorem pcs_ahead (n : Nat) (y : List UInt8) : pcs 10 (aheadF n ++ y) = List.replicate n [97] ++ pcs 10 y := by
  induction n with
  | zero => rfl
  | succ n ih =>
    have := pcs_app (d := 10) (x := [97]) (y := aheadF n ++ y) rfl
    rw [aheadF, List.cons_append, List.cons_append, List.replicate_succ, List.cons_append, ← ih]
    exact this
theorem said97 : saidF [97] = [97] := by decide
theorem ends97 : endsF [97] = false ∧ stripF [97] = [97] := by decide
theorem lines_ahead (n i : Nat) (r : List (List UInt8)) (out : List (Nat × List UInt8)) : linesS i none (List.replicate n [97] ++ r) out = linesS (i + n) none r (out ++ (List.range n).map fun j => (i + j, [97])) := by
  induction n generalizing i out with
  | zero => simp
  | succ n ih =>
    rw [List.replicate_succ, List.cons_append, linesS_none]
    unfold contF
    rw [ends97.1, ends97.2, if_neg (by simp), said97, if_neg (by simp), if_neg (by simp), ih (i + 1)]
    rw [show i + 1 + n = i + (n + 1) by omega]
    congr 1
    rw [List.range_succ_eq_map, List.map_cons, List.map_map, List.append_assoc]
    congr 1
    simp only [List.cons_append, List.nil_append, Nat.add_zero]
    congr 1
    refine List.map_congr_left fun j _ => ?_
    simp only [Function.comp]
    rw [show i + 1 + j = i + (j + 1) by omega]
theorem saidEmpty : saidF [] = [] := by decide
theorem endsEmpty : endsF [] = false ∧ stripF [] = [] := by decide
/-- A line of so many bytes b, with blanks and a comment. -/
def bigF (k : Nat) : List UInt8 := [32, 32] ++ List.replicate k 98 ++ [32, 59, 32, 109, 111, 114, 101]
theorem said_big (k : Nat) (hk : 0 < k) : saidF (bigF k) = List.replicate k 98 := by
  have hc : (Lib.cut (bigF k) [59]).1 = [32, 32] ++ List.replicate k 98 ++ [32] := by
    have h : bigF k = ([32, 32] ++ List.replicate k 98 ++ [32]) ++ 59 :: [32, 109, 111, 114, 101] := by simp [bigF]
    rw [h]
    refine cut_app ?_
    simp [List.count_replicate]
  have ht : Lib.trimS (List.replicate k 98) blanks = List.replicate k 98 := by
    refine trim_self (fun c r h => ?_) (fun c r h => ?_)
    · have : c ∈ List.replicate k (98 : UInt8) := by rw [h]; exact List.mem_cons_self
      rw [(List.mem_replicate.1 this).2]; decide
    · have : c ∈ (List.replicate k (98 : UInt8)).reverse := by rw [h]; exact List.mem_cons_self
      rw [(List.mem_replicate.1 (List.mem_reverse.1 this)).2]; decide
  have hp : Lib.hasPrefix (Lib.trimS (bigF k) blanks) [35] = false := by
    obtain ⟨j, rfl⟩ : ∃ j, k = j + 1 := ⟨k - 1, by omega⟩
    have h : bigF (j + 1) = [32, 32] ++ (98 :: (List.replicate j 98 ++ [32, 59, 32, 109, 111, 114, 101])) ++ [] := by simp [bigF, List.replicate_succ]
    rw [h, trim_bl (by decide) (by decide)]
    have h2 : ∀ y : List UInt8, Lib.hasPrefix (Lib.trimS (98 :: y) blanks) [35] = false := fun y => by
      unfold Lib.trimS Lib.hasPrefix
      rw [trimR]
      rcases dropWhile_bl_end (y := y.reverse) (b := []) (fun c hc => by cases hc) with h | h
      all_goals
        rw [List.reverse_cons]
        have hne : ∀ z : List UInt8, ∃ u, ((z ++ [98]).dropWhile isB).reverse = 98 :: u := fun z => by
          induction z with
          | nil => exact ⟨[], by decide⟩
          | cons c r ih =>
            by_cases hc : isB c = true
            · rw [List.cons_append, List.dropWhile_cons_of_pos hc]; exact ih
            · rw [List.cons_append, List.dropWhile_cons_of_neg hc, List.reverse_cons, List.reverse_append]; exact ⟨r.reverse ++ [c], by simp⟩
        obtain ⟨u, hu⟩ := hne y.reverse
        rw [hu, trimL, List.dropWhile_cons_of_neg (by decide)]
        rfl
    exact h2 _
  unfold saidF
  rw [hp, if_neg (by simp), hc, trim_bl (by decide) (by decide), ht]
theorem long_lines (a k : Nat) (hk : 0 < k) : linesS 1 none (pcs 10 (aheadF a ++ bigF k ++ [10])) [] =
    if 4096 < k then ⟨[], a + 1, 2⟩ else ⟨(List.range a).map (fun j => (1 + j, [97])) ++ [(a + 1, List.replicate k 98)], 0, 0⟩ := by
  have h10 : (bigF k).count 10 = 0 := by simp [bigF, List.count_replicate]
  have h92 : (bigF k).count 92 = 0 := by simp [bigF, List.count_replicate]
  rw [List.append_assoc, pcs_ahead, show bigF k ++ [10] = bigF k ++ 10 :: [] from rfl, pcs_app h10, lines_ahead, linesS_none]
  unfold contF
  rw [(ends_no h92).1, (ends_no h92).2, if_neg (by simp), said_big k hk, if_neg (by intro h; have := congrArg List.length h; simp at this; omega), List.length_replicate, Nat.add_comm 1 a]
  split
  · rfl
  · rw [show pcs 10 ([] : List UInt8) = [[]] from rfl, linesS_none]
    unfold contF
    rw [endsEmpty.1, endsEmpty.2, if_neg (by simp), saidEmpty, if_pos rfl]
    rfl
end Go.Proofs.YtfioigbopagogaaDoor
