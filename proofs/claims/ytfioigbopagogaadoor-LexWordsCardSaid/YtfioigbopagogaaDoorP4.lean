/- LexPlain's texts, in plain lists. -/
import Derived.Test.YtfioigbopagogaaDoorP3
namespace Go.Proofs.YtfioigbopagogaaDoor
open Go.RowKit
set_option linter.unusedVariables false
theorem trim_len (x : List UInt8) : (Lib.trimS x blanks).length ≤ x.length := by
  have h : ∀ l : List UInt8, (l.dropWhile isB).length ≤ l.length := fun l => (List.dropWhile_sublist _).length_le
  unfold Lib.trimS
  rw [trimL, trimR]
  refine Nat.le_trans (h _) ?_
  rw [List.length_reverse]
  refine Nat.le_trans (h _) ?_
  rw [List.length_reverse]; exact Nat.le_refl _
theorem cut_len (x : List UInt8) : (Lib.cut x [59]).1.length ≤ x.length := by
  unfold Lib.cut; split
  · simp; omega
  · exact Nat.le_refl _
theorem said_len (x : List UInt8) : (saidF x).length ≤ x.length := by
  unfold saidF; split
  · simp
  · exact Nat.le_trans (trim_len _) (cut_len x)
/-- A line with blanks, and itself as a comment. -/
def plainX (l : List UInt8) : List UInt8 := [32, 9] ++ l ++ [32, 13, 59] ++ l
theorem drop_head (l y : List UInt8) : (l.dropWhile isB = [] ∧ Bl l) ∨ ∃ c u, l.dropWhile isB = c :: u ∧ isB c = false ∧ (l ++ y).dropWhile isB = c :: (u ++ y) := by
  induction l with
  | nil => exact .inl ⟨rfl, fun c hc => by cases hc⟩
  | cons c r ih =>
    by_cases hc : isB c = true
    · rw [List.cons_append, List.dropWhile_cons_of_pos hc, List.dropWhile_cons_of_pos hc]
      rcases ih with ⟨h1, h2⟩ | h
      · exact .inl ⟨h1, fun d hd => by rcases List.mem_cons.1 hd with rfl | hd; exact hc; exact h2 d hd⟩
      · exact .inr h
    · rw [List.cons_append, List.dropWhile_cons_of_neg hc, List.dropWhile_cons_of_neg hc]
      exact .inr ⟨c, r, rfl, by simpa using hc, rfl⟩
theorem takeW {l : List UInt8} : Bl (l.takeWhile isB) := by
  induction l with
  | nil => intro c hc; cases hc
  | cons c r ih =>
    intro d hd
    rw [List.takeWhile_cons] at hd
    split at hd
    · rename_i hc
      rcases List.mem_cons.1 hd with rfl | hd
      · exact hc
      · exact ih d hd
    · cases hd
/-- The first byte that is no blank is the first of the trimmed text. -/
theorem trim_head (l : List UInt8) : (Bl l ∧ Lib.trimS l blanks = []) ∨ ∃ c u v, l.dropWhile isB = c :: u ∧ isB c = false ∧ Lib.trimS l blanks = c :: v := by
  rcases drop_head l [] with ⟨_, h⟩ | ⟨c, u, h1, h2, _⟩
  · exact .inl ⟨h, trim_none h⟩
  · right
    refine ⟨c, u, ?_⟩
    -- l = b ++ c :: u
    have hl : l = l.takeWhile isB ++ c :: u := by rw [← h1]; exact (List.takeWhile_append_dropWhile).symm
    have hb : Bl (l.takeWhile isB) := takeW
    have e : Lib.trimS l blanks = Lib.trimS (c :: u) blanks := by
      conv => lhs; rw [hl]
      have := trim_bl (b1 := l.takeWhile isB) (b2 := []) (x := c :: u) hb (fun c hc => by cases hc)
      simpa using this
    have hne : ∀ z : List UInt8, ∃ v, ((z ++ [c]).dropWhile isB).reverse = c :: v := fun z => by
      induction z with
      | nil => exact ⟨[], by rw [List.nil_append, List.dropWhile_cons_of_neg (by rw [h2]; simp)]; rfl⟩
      | cons d r ih =>
        by_cases hd : isB d = true
        · rw [List.cons_append, List.dropWhile_cons_of_pos hd]; exact ih
        · rw [List.cons_append, List.dropWhile_cons_of_neg hd, List.reverse_cons, List.reverse_append]; exact ⟨r.reverse ++ [d], by simp⟩
    obtain ⟨v, hv⟩ := hne u.reverse
    refine ⟨v, h1, h2, ?_⟩
    rw [e]
    unfold Lib.trimS
    rw [trimR, List.reverse_cons, hv, trimL, List.dropWhile_cons_of_neg (by rw [h2]; simp)]
theorem pre35 (l : List UInt8) : Lib.hasPrefix (Lib.trimS l blanks) [35] = true ↔ ∃ u, l.dropWhile isB = 35 :: u := by
  rcases trim_head l with ⟨h, e⟩ | ⟨c, u, v, h1, h2, e⟩
  · rw [e]
    have : l.dropWhile isB = [] := by have := dropWhile_bl (b := l) (y := []) h; simpa using this
    rw [this]
    simp [Lib.hasPrefix]
  · rw [e, h1]
    simp only [Lib.hasPrefix, List.isPrefixOf, Bool.and_true, beq_iff_eq, List.cons.injEq]
    constructor
    · intro h; exact ⟨u, h.symm, rfl⟩
    · rintro ⟨_, h, _⟩; exact h.symm
theorem first_cut (l : List UInt8) (h : 0 < l.count 59) : ∃ a b, l = a ++ 59 :: b ∧ a.count 59 = 0 := by
  induction l with
  | nil => simp at h
  | cons c r ih =>
    by_cases hc : c = 59
    · subst hc; exact ⟨[], r, rfl, rfl⟩
    · rw [List.count_cons_of_ne (by simpa using hc)] at h
      obtain ⟨a, b, e, h0⟩ := ih h
      exact ⟨c :: a, b, by rw [e]; rfl, by rw [List.count_cons_of_ne (by simpa using hc)]; exact h0⟩
theorem said_plain (l : List UInt8) : saidF (plainX l) = saidF l := by
  have hX : plainX l = [32, 9] ++ (l ++ [32, 13, 59] ++ l) := by simp [plainX]
  have hdw : (plainX l).dropWhile isB = (l ++ ([32, 13, 59] ++ l)).dropWhile isB := by
    rw [hX, dropWhile_bl (by decide), List.append_assoc]
  have hp : Lib.hasPrefix (Lib.trimS (plainX l) blanks) [35] = true ↔ Lib.hasPrefix (Lib.trimS l blanks) [35] = true := by
    rw [pre35, pre35, hdw]
    rcases drop_head l ([32, 13, 59] ++ l) with ⟨h1, h2⟩ | ⟨c, u, h1, h2, h3⟩
    · have h4 : (l ++ ([32, 13, 59] ++ l)).dropWhile isB = 59 :: l := by
        rw [dropWhile_bl h2, show ([32, 13, 59] : List UInt8) ++ l = [32, 13] ++ 59 :: l from rfl, dropWhile_bl (by decide), List.dropWhile_cons_of_neg (by decide)]
      rw [h4, h1]; simp
    · rw [h3, h1]
      constructor
      · rintro ⟨w, hw⟩; cases hw; exact ⟨_, rfl⟩
      · rintro ⟨w, hw⟩; cases hw; exact ⟨_, rfl⟩
  have hcut : Lib.trimS (Lib.cut (plainX l) [59]).1 blanks = Lib.trimS (Lib.cut l [59]).1 blanks := by
    by_cases h0 : l.count 59 = 0
    · have e : plainX l = ([32, 9] ++ l ++ [32, 13]) ++ 59 :: l := by simp [plainX]
      rw [cut_none h0, e, cut_app (by simp [h0]), trim_bl (by decide) (by decide)]
    · obtain ⟨a, b, e, ha⟩ := first_cut l (by omega)
      have e2 : plainX l = ([32, 9] ++ a) ++ 59 :: (b ++ [32, 13, 59] ++ l) := by
        unfold plainX
        conv => lhs; lhs; lhs; rw [e]
        simp
      rw [e2, cut_app (by simp [ha])]
      conv => rhs; rw [e, cut_app ha]
      have := trim_bl (b1 := [32, 9]) (b2 := []) (x := a) (by decide) (by decide)
      simpa using this
  unfold saidF
  rw [hcut]
  by_cases h : Lib.hasPrefix (Lib.trimS l blanks) [35] = true
  · rw [if_pos h, if_pos (hp.2 h)]
  · rw [if_neg h, if_neg (fun h' => h (hp.1 h'))]
/-- The lines that say something, by their numbers: the first's, the way from one to the next. -/
def itemsF : Nat → Nat → List (List UInt8) → List (Nat × List UInt8)
  | _, _, [] => []
  | i, d, l :: r => if saidF l = [] then itemsF (i + d) d r else (i, saidF l) :: itemsF (i + d) d r
def Good (l : List UInt8) : Prop := l.count 10 = 0 ∧ l.count 92 = 0 ∧ l.length ≤ 2000
theorem linesS_good {l : List UInt8} (h : Good l) (i : Nat) (r : List (List UInt8)) (out : List (Nat × List UInt8)) : linesS i none (l :: r) out = linesS (i + 1) none r (out ++ if saidF l = [] then [] else [(i, saidF l)]) := by
  rw [linesS_none]
  unfold contF
  rw [(ends_no h.2.1).1, (ends_no h.2.1).2, if_neg (by simp)]
  by_cases hs : saidF l = []
  · rw [if_pos hs, if_pos hs, List.append_nil]
  · rw [if_neg hs, if_neg hs, if_neg (by have := said_len l; have := h.2.2; omega)]
theorem lines_last (i : Nat) (out : List (Nat × List UInt8)) : linesS i none [[]] out = ⟨out, 0, 0⟩ := by
  rw [linesS_none]; unfold contF
  rw [endsEmpty.1, endsEmpty.2, if_neg (by simp), saidEmpty, if_pos rfl]; rfl
theorem lines_items : ∀ (ls : List (List UInt8)) (i : Nat) (out : List (Nat × List UInt8)), (∀ l ∈ ls, Good l) → linesS i none (ls ++ [[]]) out = ⟨out ++ itemsF i 1 ls, 0, 0⟩
  | [], i, out, _ => by rw [List.nil_append, lines_last, itemsF, List.append_nil]
  | l :: r, i, out, h => by
    rw [List.cons_append, linesS_good (h l List.mem_cons_self), lines_items r _ _ (fun x hx => h x (List.mem_cons_of_mem _ hx)), itemsF]
    split <;> simp
def threeF (l : List UInt8) : List (List UInt8) := [plainX l, [32], [35, 32, 120]]
theorem lines_items3 : ∀ (ls : List (List UInt8)) (i : Nat) (out : List (Nat × List UInt8)), (∀ l ∈ ls, Good l ∧ l.length ≤ 100) → linesS i none (ls.flatMap threeF ++ [[]]) out = ⟨out ++ itemsF i 3 ls, 0, 0⟩
  | [], i, out, _ => by rw [List.flatMap_nil, List.nil_append, lines_last, itemsF, List.append_nil]
  | l :: r, i, out, h => by
    have hl := h l List.mem_cons_self
    have hX : Good (plainX l) := ⟨by simp [plainX, hl.1.1], by simp [plainX, hl.1.2.1], by simp [plainX]; omega⟩
    have h32 : saidF [32] = [] := by decide
    have h35 : saidF [35, 32, 120] = [] := by decide
    have e : (l :: r).flatMap threeF ++ [[]] = plainX l :: [32] :: [35, 32, 120] :: (r.flatMap threeF ++ [[]]) := by simp [threeF]
    rw [e, linesS_good hX, linesS_good ⟨by decide, by decide, by decide⟩, linesS_good ⟨by decide, by decide, by decide⟩, h32, h35, if_pos rfl, if_pos rfl, lines_items3 r _ _ (fun x hx => h x (List.mem_cons_of_mem _ hx)), said_plain, itemsF]
    split <;> simp
theorem items3 : ∀ (ls : List (List UInt8)) (i : Nat), 1 ≤ i → itemsF (3 * i - 2) 3 ls = (itemsF i 1 ls).map fun x => (3 * x.1 - 2, x.2)
  | [], i, _ => rfl
  | l :: r, i, h => by
    rw [itemsF, itemsF, show 3 * i - 2 + 3 = 3 * (i + 1) - 2 by omega, items3 r (i + 1) (by omega)]
    split <;> simp
def sF (ls : List (List UInt8)) : List UInt8 := ls.flatMap fun l => l ++ [10]
def tF (ls : List (List UInt8)) : List UInt8 := ls.flatMap fun l => plainX l ++ [10, 32, 10, 35, 32, 120, 10]
theorem pcs_sF : ∀ ls : List (List UInt8), (∀ l ∈ ls, Good l) → pcs 10 (sF ls) = ls ++ [[]]
  | [], _ => rfl
  | l :: r, h => by
    have e : sF (l :: r) = l ++ 10 :: sF r := by simp [sF]
    rw [e, pcs_app (h l List.mem_cons_self).1, pcs_sF r (fun x hx => h x (List.mem_cons_of_mem _ hx))]; rfl
theorem pcs_tF : ∀ ls : List (List UInt8), (∀ l ∈ ls, Good l) → pcs 10 (tF ls) = ls.flatMap threeF ++ [[]]
  | [], _ => rfl
  | l :: r, h => by
    have hl := h l List.mem_cons_self
    have e : tF (l :: r) = plainX l ++ 10 :: ([32] ++ 10 :: ([35, 32, 120] ++ 10 :: tF r)) := by simp [tF]
    rw [e, pcs_app (by simp [plainX, hl.1]), pcs_app (by decide), pcs_app (by decide), pcs_tF r (fun x hx => h x (List.mem_cons_of_mem _ hx))]
    simp [threeF]
theorem sF_len : ∀ (ls : List (List UInt8)), (∀ l ∈ ls, l.length ≤ 100) → (sF ls).length ≤ 101 * ls.length
  | [], _ => Nat.le_refl _
  | l :: r, h => by
    have e : sF (l :: r) = l ++ 10 :: sF r := by simp [sF]
    have h1 := h l List.mem_cons_self
    have h2 := sF_len r (fun x hx => h x (List.mem_cons_of_mem _ hx))
    rw [e]; simp; omega
theorem tF_len : ∀ (ls : List (List UInt8)), (∀ l ∈ ls, l.length ≤ 100) → (tF ls).length ≤ 212 * ls.length
  | [], _ => Nat.le_refl _
  | l :: r, h => by
    have e : tF (l :: r) = plainX l ++ [10, 32, 10, 35, 32, 120, 10] ++ tF r := by simp [tF]
    have h1 := h l List.mem_cons_self
    have h2 := tF_len r (fun x hx => h x (List.mem_cons_of_mem _ hx))
    rw [e]; simp [plainX]; omega
/-- LexPlain's law. -/
theorem plain_lines (ls : List (List UInt8)) (h : ∀ l ∈ ls, Good l ∧ l.length ≤ 100) (hn : ls.length ≤ 40) :
    linesF (sF ls) = ⟨itemsF 1 1 ls, 0, 0⟩ ∧ linesF (tF ls) = ⟨(itemsF 1 1 ls).map fun x => (3 * x.1 - 2, x.2), 0, 0⟩ := by
  have h1 := sF_len ls fun l hl => (h l hl).2
  have h2 := tF_len ls fun l hl => (h l hl).2
  unfold linesF
  rw [if_neg (by omega), if_neg (by omega), pcs_sF ls (fun l hl => (h l hl).1), pcs_tF ls (fun l hl => (h l hl).1), lines_items ls 1 [] (fun l hl => (h l hl).1), lines_items3 ls 1 [] h, ← items3 ls 1 (Nat.le_refl _)]
  exact ⟨rfl, rfl⟩
end Go.Proofs.YtfioigbopagogaaDoor
