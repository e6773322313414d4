/- Blanks, and what is cut, in plain lists. -/
import Derived.Test.YtfioigbopagogaaDoorP1
namespace Go.Proofs.YtfioigbopagogaaDoor
open Go.RowKit
set_option linter.unusedVariables false
def isB (c : UInt8) : Bool := blanks.contains c
def Bl (b : List UInt8) : Prop := ∀ c ∈ b, isB c = true
theorem dropWhile_bl {b y : List UInt8} (hb : Bl b) : (b ++ y).dropWhile isB = y.dropWhile isB := by
  induction b with
  | nil => rfl
  | cons c r ih =>
    rw [List.cons_append, List.dropWhile_cons_of_pos (hb c List.mem_cons_self), ih fun d hd => hb d (List.mem_cons_of_mem _ hd)]
theorem trimL (l : List UInt8) : Lib.trimLeftS l blanks = l.dropWhile isB := rfl
theorem trimR (l : List UInt8) : Lib.trimRightS l blanks = (l.reverse.dropWhile isB).reverse := rfl
theorem Bl.reverse {b : List UInt8} (hb : Bl b) : Bl b.reverse := fun c hc => hb c (List.mem_reverse.1 hc)
theorem trimR_app {b y : List UInt8} (hb : Bl b) : Lib.trimRightS (y ++ b) blanks = Lib.trimRightS y blanks := by
  rw [trimR, trimR, List.reverse_append, dropWhile_bl hb.reverse]
theorem dropWhile_bl_end {b y : List UInt8} (hb : Bl b) : ((y ++ b).dropWhile isB = [] ∧ y.dropWhile isB = []) ∨ (y ++ b).dropWhile isB = y.dropWhile isB ++ b := by
  induction y with
  | nil =>
    left
    refine ⟨?_, rfl⟩
    have := dropWhile_bl (b := b) (y := []) hb
    simpa using this
  | cons c r ih =>
    by_cases hc : isB c = true
    · rw [List.cons_append, List.dropWhile_cons_of_pos hc, List.dropWhile_cons_of_pos hc]; exact ih
    · right
      rw [List.cons_append, List.dropWhile_cons_of_neg hc, List.dropWhile_cons_of_neg hc, List.cons_append]
theorem trim_bl {b1 b2 x : List UInt8} (h1 : Bl b1) (h2 : Bl b2) : Lib.trimS (b1 ++ x ++ b2) blanks = Lib.trimS x blanks := by
  unfold Lib.trimS
  rw [trimR_app h2, trimR, trimR, trimL, trimL, List.reverse_append]
  rcases dropWhile_bl_end (y := x.reverse) h1.reverse with ⟨e1, e2⟩ | e
  · rw [e1, e2]
  · rw [e, List.reverse_append, List.reverse_reverse, dropWhile_bl h1]
theorem trim_none {x : List UInt8} (h : Bl x) : Lib.trimS x blanks = [] := by
  have := trim_bl (b1 := x) (b2 := []) (x := []) h (fun c hc => by cases hc)
  simpa [Lib.trimS, Lib.trimLeftS, Lib.trimRightS] using this
/-- A text that begins and ends with no blank. -/
theorem trim_self {x : List UInt8} (h1 : ∀ c r, x = c :: r → isB c = false) (h2 : ∀ c r, x.reverse = c :: r → isB c = false) : Lib.trimS x blanks = x := by
  have e : Lib.trimRightS x blanks = x := by
    rw [trimR]
    cases hx : x.reverse with
    | nil => have := congrArg List.reverse hx; simp at this; subst this; rfl
    | cons c r => rw [List.dropWhile_cons_of_neg (by rw [h2 c r hx]; simp), ← hx, List.reverse_reverse]
  unfold Lib.trimS
  rw [e, trimL]
  cases x with
  | nil => rfl
  | cons c r => rw [List.dropWhile_cons_of_neg (by rw [h1 c r rfl]; simp)]
/-- Without a byte d nothing is cut; at the first one all before it is left. -/
theorem cut_none {x : List UInt8} {d : UInt8} (h : x.count d = 0) : (Lib.cut x [d]).1 = x := by
  have hi : Lib.index x [d] = -1 := by
    have hge := Lib.index_ge x [d]
    by_cases e : Lib.index x [d] = -1
    · exact e
    · obtain ⟨j, hj⟩ : ∃ j : Nat, Lib.index x [d] = j := ⟨(Lib.index x [d]).toNat, by omega⟩
      have := Lib.count_hit (s := x) (sub := [d]) (by simp) hj
      rw [Lib.count_one] at this; omega
  unfold Lib.cut
  rw [hi, if_neg (by omega)]
theorem index_app {x y : List UInt8} {d : UInt8} (h : x.count d = 0) : Lib.index (x ++ d :: y) [d] = (x.length : Int) := by
  induction x with
  | nil => rw [List.nil_append, Lib.index]; simp [List.isPrefixOf]
  | cons c r ih =>
    have hc : c ≠ d := fun e => by subst e; simp at h
    rw [List.count_cons_of_ne (by simpa using hc)] at h
    have hp : ([d] : List UInt8).isPrefixOf (c :: (r ++ d :: y)) = false := by simp [List.isPrefixOf, Ne.symm hc]
    have hix : Lib.index (c :: (r ++ d :: y)) [d] = if Lib.index (r ++ d :: y) [d] == -1 then -1 else Lib.index (r ++ d :: y) [d] + 1 := by rw [Lib.index, hp]; simp
    rw [List.cons_append, hix, ih h, if_neg (fun e => by have := beq_iff_eq.1 e; omega), List.length_cons]; push_cast; omega
theorem cut_app {x y : List UInt8} {d : UInt8} (h : x.count d = 0) : (Lib.cut (x ++ d :: y) [d]).1 = x := by
  unfold Lib.cut
  rw [index_app h, if_pos (by omega)]
  simp
theorem pcs_app {d : UInt8} {x y : List UInt8} (h : x.count d = 0) : pcs d (x ++ d :: y) = x :: pcs d y := by
  induction x with
  | nil => exact pcs_eq d y
  | cons c r ih =>
    have hc : c ≠ d := fun e => by subst e; simp at h
    rw [List.count_cons_of_ne (by simpa using hc)] at h
    rw [List.cons_append, pcs_ne hc (ih h)]
theorem pcs_none {d : UInt8} {x : List UInt8} (h : x.count d = 0) : pcs d x = [x] := by
  induction x with
  | nil => rfl
  | cons c r ih =>
    have hc : c ≠ d := fun e => by subst e; simp at h
    rw [List.count_cons_of_ne (by simpa using hc)] at h
    rw [pcs_ne hc (ih h)]
theorem ends_no {x : List UInt8} (h : x.count 92 = 0) : endsF x = false ∧ stripF x = x := by
  have h1 : endsF x = false := by
    unfold endsF Lib.hasSuffix
    by_cases e : ([92] : List UInt8).isSuffixOf x = true
    · obtain ⟨t, ht⟩ := List.isSuffixOf_iff_suffix.1 e
      rw [← ht] at h; simp at h
    · exact Bool.eq_false_iff.2 e
  refine ⟨h1, ?_⟩
  unfold stripF Lib.trimSuffix
  unfold endsF at h1
  rw [h1]; rfl
theorem ends_yes (x : List UInt8) : endsF (x ++ [92]) = true ∧ stripF (x ++ [92]) = x := by
  have h1 : Lib.hasSuffix (x ++ [92]) [92] = true := by unfold Lib.hasSuffix; exact List.isSuffixOf_iff_suffix.2 ⟨x, rfl⟩
  refine ⟨h1, ?_⟩
  unfold stripF Lib.trimSuffix
  rw [h1]; simp
end Go.Proofs.YtfioigbopagogaaDoor
