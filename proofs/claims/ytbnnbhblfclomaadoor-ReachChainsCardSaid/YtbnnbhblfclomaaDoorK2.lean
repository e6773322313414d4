/- The free places. -/
import Derived.Test.YtbnnbhblfclomaaDoorK1
namespace Go.Proofs.YtbnnbhblfclomaaDoor
open Go.RowKit
set_option linter.unusedSimpArgs false
set_option linter.unusedVariables false
theorem sorted_len (n : Nat) : ∀ (l : List Nat) (b : Nat), l.Pairwise (· < ·) → (∀ y ∈ l, b ≤ y ∧ y < n) → l.length ≤ n - b
  | [], _, _, _ => Nat.zero_le _
  | a :: r, b, h, hm => by
    obtain ⟨h1, h2⟩ := List.pairwise_cons.1 h
    have := hm a List.mem_cons_self
    have := sorted_len n r (a + 1) h2 (fun y hy => ⟨h1 y hy, (hm y (List.mem_cons_of_mem _ hy)).2⟩)
    simp; omega
theorem FRow.pop {w : World} {B g o cap x : Nat} {r : List Nat} (h : FRow w B (.slice (some ⟨g, o, none⟩) (r.length + 1) cap) (x :: r)) :
    w.cell? ⟨g, o, none⟩ = some (.int .i64 (x : Int)) ∧ r.length + 1 ≤ cap ∧ cap ≤ maxLen ∧ FRow w B (.slice (some (if cap = 1 then ⟨g, o, none⟩ else ⟨g, o + 1, none⟩)) r.length (cap - 1)) r := by
  obtain ⟨A, c, h0, h1, h2, h3⟩ := h
  simp only [Value.slice.injEq] at h0
  obtain ⟨rfl, _, rfl⟩ := h0
  rw [List.length_cons] at h1
  rcases h3 with ⟨h3, _⟩ | ⟨g', o', cs, h4, hb, hc, hs, hcell⟩
  · cases h3
  · simp only [Option.some.injEq, Addr.mk.injEq, and_true] at h4
    obtain ⟨rfl, rfl⟩ := h4
    refine ⟨by rw [hc.cell]; have := hcell 0 x rfl; simpa using this, h1, h2, ?_⟩
    by_cases c1 : cap = 1
    · subst c1
      have : r = [] := List.eq_nil_of_length_eq_zero (by omega)
      subst this
      rw [if_pos rfl]
      exact ⟨_, 0, rfl, Nat.le_refl _, Nat.zero_le _, .inr ⟨g, o, cs, rfl, hb, hc, by omega, fun j x hj => by simp at hj⟩⟩
    · rw [if_neg c1]
      refine ⟨_, cap - 1, rfl, by omega, by omega, .inr ⟨g, o + 1, cs, rfl, hb, hc, by omega, fun j y hj => ?_⟩⟩
      have := hcell (j + 1) y (by simpa using hj)
      rw [show o + 1 + j = o + (j + 1) by omega]; exact this
theorem FRow.form {w : World} {B x : Nat} {v : Value} {r : List Nat} (h : FRow w B v (x :: r)) : ∃ g o cap, v = .slice (some ⟨g, o, none⟩) (r.length + 1) cap ∧ B ≤ g ∧ g < w.heap.size := by
  obtain ⟨A, cap, rfl, h1, h2, h3⟩ := h
  rcases h3 with ⟨rfl, h3⟩ | ⟨g, o, cs, rfl, hb, hc, _⟩
  · simp at h1; omega
  · exact ⟨g, o, cap, rfl, hb, hc.lt⟩
theorem FRow.len0 {w : World} {B : Nat} {v : Value} (h : FRow w B v []) : ∃ A cap, v = .slice A 0 cap := by
  obtain ⟨A, cap, rfl, _⟩ := h
  exact ⟨A, cap, rfl⟩
end Go.Proofs.YtbnnbhblfclomaaDoor
