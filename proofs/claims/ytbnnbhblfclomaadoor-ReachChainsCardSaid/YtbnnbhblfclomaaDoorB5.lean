/- Masters, in plain lists. -/
import Derived.Test.YtbnnbhblfclomaaDoorB1
namespace Go.Proofs.YtbnnbhblfclomaaDoor
open Go.RowKit
set_option linter.unusedSimpArgs false
set_option linter.unusedVariables false
/-- From a thing to those on which it hangs. -/
def ED (D : List Dp) : Ways := D.map fun d => (d.of_.toNat, d.on.toNat)
theorem mem_ED {D : List Dp} {a b : Nat} : (a, b) ∈ ED D ↔ ∃ d, d ∈ D ∧ d.of_.toNat = a ∧ d.on.toNat = b := by
  unfold ED
  rw [List.mem_map]
  constructor
  · rintro ⟨d, hd, e⟩; cases e; exact ⟨d, hd, rfl, rfl⟩
  · rintro ⟨d, hd, rfl, rfl⟩; exact ⟨d, hd, rfl⟩
/-- Those that were taken, those that wait, those that were seen. -/
structure MB (E : Ways) (f n : Nat) (Pd Wt : List Nat) (seen : Nat → Bool) : Prop where
  a : ∀ y, seen y = true → Plus E f y ∧ y < n
  b : ∀ x, x ∈ Pd ++ Wt → x = f ∨ seen x = true
  c : ∀ y, seen y = true → y ∈ Pd ++ Wt
  d : ∀ x, x ∈ Pd → ∀ y, (x, y) ∈ E → seen y = true
  e : f ∈ Pd ++ Wt
  k : Pd.length + Wt.length = 1 + cnt n seen
theorem cnt_none (n : Nat) : cnt n (fun _ => false) = 0 := by unfold cnt; simp
theorem MB.start (E : Ways) (f n : Nat) : MB E f n [] [f] (fun _ => false) :=
  ⟨fun y h => (nomatch h), fun x h => .inl (by simpa using h), fun y h => (nomatch h), fun x h => (nomatch h), by simp, by rw [cnt_none]; rfl⟩
theorem MB.push {E : Ways} {f n : Nat} {Pd Wt : List Nat} {seen : Nat → Bool} {x y : Nat} (h : MB E f n Pd (x :: Wt) seen) (he : (x, y) ∈ E) (hy : y < n) (hs : seen y = false) : MB E f n Pd (x :: (Wt ++ [y])) (updB seen y) := by
  have hx : Plus E f y := by
    rcases h.b x (by simp) with rfl | hx
    · exact ⟨y, he, .refl _⟩
    · exact (h.a x hx).1.tail he
  have e : Pd ++ x :: (Wt ++ [y]) = (Pd ++ x :: Wt) ++ [y] := by simp
  refine ⟨fun z hz => ?_, fun z hz => ?_, fun z hz => ?_, fun z hz w hw => ?_, ?_, ?_⟩
  · rcases (updB_iff _ _ _).1 hz with rfl | hz
    · exact ⟨hx, hy⟩
    · exact h.a z hz
  · rw [e] at hz
    rcases List.mem_append.1 hz with hz | hz
    · rcases h.b z hz with e | e
      · exact .inl e
      · exact .inr ((updB_iff _ _ _).2 (.inr e))
    · rw [List.mem_singleton.1 hz]; exact .inr (updB_self _ _)
  · rw [e]
    rcases (updB_iff _ _ _).1 hz with rfl | hz
    · exact List.mem_append_right _ (List.mem_singleton.2 rfl)
    · exact List.mem_append_left _ (h.c z hz)
  · exact (updB_iff _ _ _).2 (.inr (h.d z hz w hw))
  · rw [e]; exact List.mem_append_left _ h.e
  · have := h.k
    rw [cnt_add_one seen hy hs]
    simp at this ⊢; omega
theorem MB.pop {E : Ways} {f n : Nat} {Pd Wt : List Nat} {seen : Nat → Bool} {x : Nat} (h : MB E f n Pd (x :: Wt) seen) (hd : ∀ y, (x, y) ∈ E → seen y = true) : MB E f n (Pd ++ [x]) Wt seen := by
  have e : Pd ++ [x] ++ Wt = Pd ++ x :: Wt := by simp
  refine ⟨h.a, by rw [e]; exact h.b, by rw [e]; exact h.c, fun z hz y hy => ?_, by rw [e]; exact h.e, by have := h.k; simp at this ⊢; omega⟩
  rcases List.mem_append.1 hz with hz | hz
  · exact h.d z hz y hy
  · rw [List.mem_singleton.1 hz] at hy; exact hd y hy
theorem MB.done {E : Ways} {f n : Nat} {Pd : List Nat} {seen : Nat → Bool} (h : MB E f n Pd [] seen) : ∀ y, seen y = true ↔ Plus E f y := by
  have key : ∀ {b y}, Rch E b y → seen b = true → seen y = true := fun r => by
    induction r with
    | refl => exact id
    | tail _ e ih => exact fun hb => h.d _ (by have := h.c _ (ih hb); simpa using this) _ e
  intro y
  constructor
  · exact fun hy => (h.a y hy).1
  · rintro ⟨b, e, r⟩
    have hf := h.e
    rw [List.append_nil] at hf
    exact key r (h.d f hf b e)
theorem MB.len {E : Ways} {f n : Nat} {Pd Wt : List Nat} {seen : Nat → Bool} (h : MB E f n Pd Wt seen) : Pd.length + Wt.length ≤ n + 1 := by
  have := h.k
  have := cnt_le n seen; omega
/-- What Masters says. -/
def mastersE (D : List Dp) (n of_ : Int) : Int := if n < 0 ∨ 1024 < n then 2 else checkE D n of_
def mastersL (D : List Dp) (n of_ : Int) : List Nat := if mastersE D n of_ = 0 then (List.range n.toNat).filter (rounds (ED D) of_.toNat (n.toNat + 1)) else []
theorem check_range {D : List Dp} {n of_ : Int} (hl : D.length ≤ 4096) (h : checkE D n of_ = 0) : (0 ≤ of_ ∧ of_ < n) ∧ ∀ d, d ∈ D → (0 ≤ d.on ∧ d.on < n) ∧ 0 ≤ d.of_ ∧ d.of_ < n := by
  unfold checkE at h
  rw [if_neg (by omega)] at h
  split at h
  · cases h
  · rename_i hh
    have h1 : (decide (of_ < 0) || (decide (n ≤ of_) || D.any (awayD n))) = false := Bool.eq_false_iff.2 hh
    rw [Bool.or_eq_false_iff, Bool.or_eq_false_iff] at h1
    obtain ⟨a, b, c⟩ := h1
    have a := of_decide_eq_false a
    have b := of_decide_eq_false b
    refine ⟨by omega, fun d hd => ?_⟩
    have hc : awayD n d = false := by
      refine Bool.eq_false_iff.2 fun hc => ?_
      have : D.any (awayD n) = true := List.any_eq_true.2 ⟨d, hd, hc⟩
      rw [c] at this; cases this
    unfold awayD at hc
    rw [Bool.or_eq_false_iff, Bool.or_eq_false_iff, Bool.or_eq_false_iff] at hc
    obtain ⟨e1, e2, e3, e4⟩ := hc
    have e1 := of_decide_eq_false e1
    have e2 := of_decide_eq_false e2
    have e3 := of_decide_eq_false e3
    have e4 := of_decide_eq_false e4
    omega
theorem ED_bound {D : List Dp} {n : Nat} (h : ∀ d, d ∈ D → (0 ≤ d.on ∧ d.on < (n : Int)) ∧ 0 ≤ d.of_ ∧ d.of_ < (n : Int)) : ∀ e, e ∈ ED D → e.1 < n ∧ e.2 < n := by
  rintro ⟨a, b⟩ he
  obtain ⟨d, hd, rfl, rfl⟩ := mem_ED.1 he
  have := h d hd
  exact ⟨by dsimp only; omega, by dsimp only; omega⟩
theorem seen_rounds {D : List Dp} {f n : Nat} {seen : Nat → Bool} (hb : ∀ e, e ∈ ED D → e.1 < n ∧ e.2 < n) (h : ∀ y, seen y = true ↔ Plus (ED D) f y) : seen = rounds (ED D) f (n + 1) := by
  funext y
  apply Bool.eq_iff_iff.2
  rw [h y, rounds_all (ED D) f n (fun e he => (hb e he).2) y]
end Go.Proofs.YtbnnbhblfclomaaDoor
