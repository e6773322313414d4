/- Lists of files. -/
import Derived.Test.YtgocmfjijoibkaaDoorY1
namespace Go.Proofs.YtgocmfjijoibkaaDoor
open Go.RowKit
set_option linter.unusedSimpArgs false
set_option linter.unusedVariables false
open Go.Maps Go.WideMaps
theorem lt_tri (x y : List UInt8) : x < y ∨ x = y ∨ y < x := by
  by_cases h : x < y
  · exact .inl h
  · by_cases k : y < x
    · exact .inr (.inr k)
    · exact .inr (.inl (List.le_antisymm (List.not_lt.1 k) (List.not_lt.1 h)))
theorem lt_irr {x : List UInt8} (h : x < x) : False := List.lt_irrefl x h
theorem lt_tr {x y z : List UInt8} (h : x < y) (k : y < z) : x < z := List.lt_trans h k
/-- The document's lists: without a name; with a file. -/
def withoutF (F : List Fl) (n : List UInt8) : List Fl := F.filter fun f => decide (f.1 ≠ n)
def insF (f : Fl) : List Fl → List Fl
  | [] => [f]
  | g :: r => if f.1 < g.1 then f :: g :: r else g :: insF f r
def withF (F : List Fl) (f : Fl) : List Fl := insF f (withoutF F f.1)
theorem lookF_without (n x : List UInt8) : ∀ F : List Fl, lookF (withoutF F n) x = if x = n then none else lookF F x
  | [] => by unfold withoutF; simp [lookF]
  | f :: r => by
    have ih := lookF_without n x r
    unfold withoutF at ih ⊢
    rw [List.filter_cons]
    by_cases h : f.1 = n
    · rw [if_neg (by simp [h]), ih, lookF]
      by_cases hx : x = n
      · rw [if_pos hx, if_pos hx]
      · rw [if_neg hx, if_neg hx, if_neg (fun e => hx (e.symm.trans h))]
    · rw [if_pos (by simp [h]), lookF, lookF, ih]
      by_cases hx : x = n
      · rw [if_pos hx, if_pos hx, if_neg (fun e => h (e.trans hx))]
      · rw [if_neg hx, if_neg hx]
theorem lookF_ins (f : Fl) (x : List UInt8) : ∀ F : List Fl, (∀ g ∈ F, g.1 ≠ f.1) → lookF (insF f F) x = if x = f.1 then some f.2 else lookF F x
  | [], _ => by
    rw [insF]
    show (if f.1 = x then some f.2 else none) = (if x = f.1 then some f.2 else none)
    by_cases h : x = f.1
    · rw [if_pos h.symm, if_pos h]
    · rw [if_neg (fun e => h e.symm), if_neg h]
  | g :: r, hg => by
    have ih := lookF_ins f x r fun q hq => hg q (List.mem_cons_of_mem _ hq)
    rw [insF]
    split
    · rw [lookF]
      by_cases h : x = f.1
      · rw [if_pos h.symm, if_pos h]
      · rw [if_neg (fun e => h e.symm), if_neg h]
    · rw [lookF, ih, lookF]
      by_cases h : x = f.1
      · rw [if_pos h, if_pos h, if_neg (fun e => hg g List.mem_cons_self (e.trans h))]
      · rw [if_neg h, if_neg h]
theorem without_ne (F : List Fl) (n : List UInt8) : ∀ g ∈ withoutF F n, g.1 ≠ n := fun g hg => by
  unfold withoutF at hg
  have := (List.mem_filter.1 hg).2
  simpa using this
theorem lookF_with (F : List Fl) (f : Fl) (x : List UInt8) : lookF (withF F f) x = if x = f.1 then some f.2 else lookF F x := by
  unfold withF
  rw [lookF_ins f x _ (without_ne F f.1), lookF_without]
  by_cases h : x = f.1
  · rw [if_pos h, if_pos h]
  · rw [if_neg h, if_neg h, if_neg h]
theorem Asc.without {F : List Fl} (h : Asc F) (n : List UInt8) : Asc (withoutF F n) := List.Pairwise.filter _ h
theorem mem_ins {f g : Fl} : ∀ {F : List Fl}, g ∈ insF f F ↔ g = f ∨ g ∈ F
  | [] => by rw [insF]; simp
  | q :: r => by
    rw [insF]
    split
    · simp
    · rw [List.mem_cons, mem_ins, List.mem_cons]
      constructor
      · rintro (h | h | h)
        · exact .inr (.inl h)
        · exact .inl h
        · exact .inr (.inr h)
      · rintro (h | h | h)
        · exact .inr (.inl h)
        · exact .inl h
        · exact .inr (.inr h)
theorem Asc.ins {f : Fl} : ∀ {F : List Fl}, Asc F → (∀ g ∈ F, g.1 ≠ f.1) → Asc (insF f F)
  | [], _, _ => by rw [insF]; exact List.pairwise_singleton _ _
  | g :: r, h, hg => by
    obtain ⟨h1, h2⟩ := List.pairwise_cons.1 h
    rw [insF]
    split
    · rename_i hl
      refine List.pairwise_cons.2 ⟨fun q hq => ?_, h⟩
      rcases List.mem_cons.1 hq with rfl | hq
      · exact hl
      · exact lt_tr hl (h1 q hq)
    · rename_i hl
      refine List.pairwise_cons.2 ⟨fun q hq => ?_, Asc.ins h2 fun q hq => hg q (List.mem_cons_of_mem _ hq)⟩
      rcases mem_ins.1 hq with rfl | hq
      · rcases lt_tri q.1 g.1 with h | h | h
        · exact absurd h hl
        · exact absurd h.symm (hg g List.mem_cons_self)
        · exact h
      · exact h1 q hq
theorem Asc.with {F : List Fl} (h : Asc F) (f : Fl) : Asc (withF F f) := Asc.ins (h.without f.1) (without_ne F f.1)
theorem ins_len (f : Fl) : ∀ F : List Fl, (insF f F).length = F.length + 1
  | [] => rfl
  | g :: r => by rw [insF]; split <;> simp [ins_len f r]
theorem look_mem {F : List Fl} {n bs : List UInt8} (h : lookF F n = some bs) : (n, bs) ∈ F := by
  induction F with
  | nil => cases h
  | cons f r ih =>
    rw [lookF] at h
    split at h
    · rename_i e
      cases h; cases e
      exact List.mem_cons_self
    · exact List.mem_cons_of_mem _ (ih h)
theorem look_none {F : List Fl} {n : List UInt8} (h : lookF F n = none) : ∀ g ∈ F, g.1 ≠ n := by
  induction F with
  | nil => intro g hg; cases hg
  | cons f r ih =>
    rw [lookF] at h
    split at h
    · cases h
    · rename_i e
      intro g hg
      rcases List.mem_cons.1 hg with rfl | hg
      · exact e
      · exact ih h g hg
theorem without_len {F : List Fl} (hA : Asc F) (n : List UInt8) : (withoutF F n).length + (if (lookF F n).isSome = true then 1 else 0) = F.length := by
  induction F with
  | nil => rfl
  | cons f r ih =>
    obtain ⟨h1, h2⟩ := List.pairwise_cons.1 hA
    have ih := ih h2
    unfold withoutF at ih ⊢
    rw [List.filter_cons, lookF]
    by_cases h : f.1 = n
    · rw [if_neg (by simp [h]), if_pos h]
      have hn : lookF r n = none := by
        cases hl : lookF r n with
        | none => rfl
        | some bs =>
          have := h1 _ (look_mem hl)
          rw [h] at this
          exact absurd this (fun h => lt_irr h)
      rw [hn] at ih
      simp at ih ⊢
      exact ih
    · rw [if_pos (by simp [h]), if_neg h]
      simp at ih ⊢
      omega
theorem with_len {F : List Fl} (hA : Asc F) (f : Fl) : (withF F f).length = if (lookF F f.1).isSome = true then F.length else F.length + 1 := by
  have := without_len hA f.1
  unfold withF
  rw [ins_len]
  split at this <;> rename_i h <;> simp [h] <;> omega
end Go.Proofs.YtgocmfjijoibkaaDoor
