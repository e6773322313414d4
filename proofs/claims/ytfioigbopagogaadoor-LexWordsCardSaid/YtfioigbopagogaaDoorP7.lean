/- The words, in plain lists. -/
import Derived.Test.YtfioigbopagogaaDoorP6
import Derived.Lib.IndexAny
namespace Go.Proofs.YtfioigbopagogaaDoor
open Go.RowKit
set_option linter.unusedVariables false
/-- The words, w begun. -/
def wordsG (w : List UInt8) : List UInt8 → List (List UInt8)
  | [] => if w = [] then [] else [w]
  | c :: r => if isB c = true then (if w = [] then wordsG [] r else w :: wordsG [] r) else wordsG (w ++ [c]) r
theorem wordsG_blank : ∀ (b w : List UInt8), Bl b → wordsG w b = if w = [] then [] else [w]
  | [], w, h => rfl
  | c :: r, w, h => by
    have hr : Bl r := fun d hd => h d (List.mem_cons_of_mem _ hd)
    rw [wordsG, if_pos (h c List.mem_cons_self), wordsG_blank r [] hr, if_pos rfl]
theorem wordsG_app {b : List UInt8} (hb : Bl b) : ∀ x w, wordsG w (x ++ b) = wordsG w x
  | [], w => by rw [List.nil_append, wordsG_blank b w hb]; rfl
  | c :: r, w => by
    rw [List.cons_append, wordsG, wordsG, wordsG_app hb r [], wordsG_app hb r]
theorem wordsG_bl : ∀ (b x : List UInt8), Bl b → wordsG [] (b ++ x) = wordsG [] x
  | [], x, h => rfl
  | c :: r, x, h => by
    rw [List.cons_append, wordsG, if_pos (h c List.mem_cons_self), if_pos rfl, wordsG_bl r x fun d hd => h d (List.mem_cons_of_mem _ hd)]
theorem words_trim (x : List UInt8) : wordsG [] (Lib.trimS x blanks) = wordsG [] x := by
  obtain ⟨b1, b2, h1, h2, hx⟩ := trim_dec x
  conv => rhs; rw [hx, wordsG_app h2, wordsG_bl _ _ h1]
theorem wordsG_run : ∀ (u w y : List UInt8), (∀ c ∈ u, isB c = false) → wordsG w (u ++ y) = wordsG (w ++ u) y
  | [], w, y, h => by rw [List.append_nil, List.nil_append]
  | c :: r, w, y, h => by
    rw [List.cons_append, wordsG, if_neg (by rw [h c List.mem_cons_self]; simp), wordsG_run r (w ++ [c]) y fun d hd => h d (List.mem_cons_of_mem _ hd), List.append_assoc]; rfl
theorem idx_split : ∀ x : List UInt8, (Lib.indexAny x blanks = -1 ∧ ∀ c ∈ x, isB c = false) ∨ ∃ u c v, x = u ++ c :: v ∧ (∀ d ∈ u, isB d = false) ∧ isB c = true ∧ Lib.indexAny x blanks = u.length
  | [] => .inl ⟨rfl, fun c h => (nomatch h)⟩
  | c :: r => by
    by_cases hc : isB c = true
    · exact .inr ⟨[], c, r, rfl, fun d h => (nomatch h), hc, by rw [Lib.indexAny, if_pos (show blanks.contains c = true from hc)]; rfl⟩
    · have hc' : ¬ (blanks.contains c = true) := hc
      rcases idx_split r with ⟨h1, h2⟩ | ⟨u, d, v, h1, h2, h3, h4⟩
      · left
        refine ⟨by rw [Lib.indexAny, if_neg hc', h1]; rfl, fun d hd => ?_⟩
        rcases List.mem_cons.1 hd with rfl | hd
        · exact Bool.eq_false_iff.2 hc
        · exact h2 d hd
      · right
        refine ⟨c :: u, d, v, by rw [h1]; rfl, fun e he => ?_, h3, ?_⟩
        · rcases List.mem_cons.1 he with rfl | he
          · exact Bool.eq_false_iff.2 hc
          · exact h2 e he
        · rw [Lib.indexAny, if_neg hc', h4, if_neg (by first | (simp; done) | (simp; omega))]
          simp
/-- A text that begins with no blank: where its first word ends. -/
theorem words_step {c : UInt8} {r : List UInt8} (hc : isB c = false) :
    (Lib.indexAny (c :: r) blanks = -1 ∧ wordsG [] (c :: r) = [c :: r]) ∨ ∃ n : Nat, Lib.indexAny (c :: r) blanks = n ∧ 0 < n ∧ n < (c :: r).length ∧ wordsG [] (c :: r) = (c :: r).take n :: wordsG [] ((c :: r).drop n) := by
  rcases idx_split (c :: r) with ⟨h1, h2⟩ | ⟨u, d, v, h1, h2, h3, h4⟩
  · left
    have := wordsG_run (c :: r) [] [] h2
    rw [List.append_nil, List.nil_append] at this
    exact ⟨h1, by rw [this, wordsG, if_neg (by simp)]⟩
  · right
    have hu : u ≠ [] := by
      rintro rfl
      rw [List.nil_append] at h1
      cases h1
      rw [hc] at h3; cases h3
    refine ⟨u.length, h4, List.length_pos_iff.2 hu, by rw [h1]; simp, ?_⟩
    rw [h1, wordsG_run u [] (d :: v) h2, List.nil_append, wordsG, if_pos h3, if_neg hu, List.take_left' rfl, List.drop_left' rfl, wordsG, if_pos h3, if_pos rfl]
theorem words_len : ∀ (x w : List UInt8), (wordsG w x).length ≤ x.length + 1
  | [], w => by rw [wordsG]; split <;> simp
  | c :: r, w => by
    have h1 := words_len r []
    have h2 := words_len r (w ++ [c])
    rw [wordsG]
    split
    · split
      · simp; omega
      · simp; omega
    · simp; omega
end Go.Proofs.YtfioigbopagogaaDoor
