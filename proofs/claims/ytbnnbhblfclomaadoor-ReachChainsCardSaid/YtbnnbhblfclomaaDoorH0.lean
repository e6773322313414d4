/- Hosts, in plain lists. -/
import Derived.Test.YtbnnbhblfclomaaDoorG
namespace Go.Proofs.YtbnnbhblfclomaaDoor
open Go.RowKit
set_option linter.unusedVariables false
/-- A host's parents; whether it failed. -/
def Par (LL : List (List Int)) (i : Nat) : List Int := LL.getD i []
def fl (fs : List Bool) (i : Nat) : Bool := fs.getD i false
/-- Up, down, or unreachable. -/
def stI (LL : List (List Int)) (fs : List Bool) (i : Nat) : Nat := if fl fs i = true then (if (Par LL i = [] ∨ (Par LL i).any (fun p => !fl fs p.toNat) = true) then 2 else 3) else 0
theorem stI_zero (LL : List (List Int)) (fs : List Bool) (i : Nat) : (stI LL fs i = 0) ↔ fl fs i = false := by
  unfold stI
  cases fl fs i
  · simp
  · simp; split <;> decide
/-- All ways, from a parent to its child. -/
def EW (LL : List (List Int)) : Ways := (List.range LL.length).flatMap fun i => (Par LL i).map fun p => (p.toNat, i)
theorem mem_EW {LL : List (List Int)} {a b : Nat} : (a, b) ∈ EW LL ↔ b < LL.length ∧ ∃ p, p ∈ Par LL b ∧ p.toNat = a := by
  unfold EW
  rw [List.mem_flatMap]
  constructor
  · rintro ⟨i, hi, h⟩
    obtain ⟨p, hp, e⟩ := List.mem_map.1 h
    cases e
    exact ⟨List.mem_range.1 hi, p, hp, rfl⟩
  · rintro ⟨hb, p, hp, rfl⟩
    exact ⟨b, List.mem_range.2 hb, List.mem_map.2 ⟨p, hp, rfl⟩⟩
theorem Rch.sub {E F : Ways} (h : ∀ e, e ∈ E → e ∈ F) {x y : Nat} (k : Rch E x y) : Rch F x y := by
  induction k with
  | refl => exact .refl _
  | tail _ e ih => exact .tail ih (h _ e)
theorem Acyc.same {E F : Ways} (h : ∀ a b, (a, b) ∈ E ↔ (a, b) ∈ F) : Acyc E ↔ Acyc F := by
  have key : ∀ {E F : Ways}, (∀ a b, (a, b) ∈ E ↔ (a, b) ∈ F) → Acyc E → Acyc F := fun h hE x hc => by
    obtain ⟨y, e, r⟩ := hc
    exact hE x ⟨y, (h _ _).2 e, r.sub fun e' he => (h e'.1 e'.2).2 he⟩
  exact ⟨key h, key fun a b => (h a b).symm⟩
def Ranged (LL : List (List Int)) : Prop := ∀ i, i < LL.length → ∀ p, p ∈ Par LL i → 0 ≤ p ∧ p < (LL.length : Int)
def HostsIs (LL : List (List Int)) (fs : List Bool) (e : Int) (L : List Int) : Prop :=
  ((1024 < LL.length ∨ 1024 < fs.length) ∧ e = 2 ∧ L = []) ∨
  (¬ (1024 < LL.length ∨ 1024 < fs.length) ∧ ((LL.length ≠ fs.length ∧ e = 1 ∧ L = []) ∨ (LL.length = fs.length ∧
    ((¬ Ranged LL ∧ e = 5 ∧ L = []) ∨ (Ranged LL ∧ ((¬ Acyc (EW LL) ∧ e = 9 ∧ L = []) ∨ (Acyc (EW LL) ∧ e = 0 ∧ L = (List.range LL.length).map (fun i => (stI LL fs i : Int)))))))))
theorem HostsIs.one {LL : List (List Int)} {fs : List Bool} {e f : Int} {L M : List Int} (h : HostsIs LL fs e L) (k : HostsIs LL fs f M) : e = f ∧ L = M := by
  unfold HostsIs at h k
  rcases h with ⟨h1, rfl, rfl⟩ | ⟨h1, ⟨h2, rfl, rfl⟩ | ⟨h2, ⟨h3, rfl, rfl⟩ | ⟨h3, ⟨h4, rfl, rfl⟩ | ⟨h4, rfl, rfl⟩⟩⟩⟩ <;>
  rcases k with ⟨k1, rfl, rfl⟩ | ⟨k1, ⟨k2, rfl, rfl⟩ | ⟨k2, ⟨k3, rfl, rfl⟩ | ⟨k3, ⟨k4, rfl, rfl⟩ | ⟨k4, rfl, rfl⟩⟩⟩⟩ <;>
  first | exact ⟨rfl, rfl⟩ | exact absurd h1 k1 | exact absurd k1 h1 | exact absurd h2 k2 | exact absurd k2 h2 | exact absurd h3 k3 | exact absurd k3 h3 | exact absurd h4 k4 | exact absurd k4 h4
/-- The ways behind i hosts, and k of the parents U of the next one. -/
def WIs (LL : List (List Int)) (i : Nat) (U : List Int) (E : Ways) : Prop := ∀ a b, (a, b) ∈ E ↔ (b < i ∧ ∃ p, p ∈ Par LL b ∧ p.toNat = a) ∨ (b = i ∧ ∃ p, p ∈ U ∧ p.toNat = a)
theorem WIs.snoc {LL : List (List Int)} {i : Nat} {U : List Int} {E : Ways} (h : WIs LL i U E) (p : Int) : WIs LL i (U ++ [p]) (E ++ [(p.toNat, i)]) := by
  intro a b
  rw [List.mem_append, h a b, List.mem_singleton]
  constructor
  · rintro ((h1 | ⟨h1, q, h2, h3⟩) | h1)
    · exact .inl h1
    · exact .inr ⟨h1, q, List.mem_append_left _ h2, h3⟩
    · cases h1; exact .inr ⟨rfl, p, List.mem_append_right _ (List.mem_singleton.2 rfl), rfl⟩
  · rintro (h1 | ⟨h1, q, h2, h3⟩)
    · exact .inl (.inl h1)
    · rcases List.mem_append.1 h2 with h2 | h2
      · exact .inl (.inr ⟨h1, q, h2, h3⟩)
      · cases List.mem_singleton.1 h2; subst h1; subst h3; exact .inr rfl
theorem WIs.next {LL : List (List Int)} {i : Nat} {U : List Int} {E : Ways} (h : WIs LL i U E) (hU : ∀ p, p ∈ U ↔ p ∈ Par LL i) : WIs LL (i + 1) [] E := by
  intro a b
  rw [h a b]
  constructor
  · rintro (⟨h1, h2⟩ | ⟨rfl, p, h2, h3⟩)
    · exact .inl ⟨by omega, h2⟩
    · exact .inl ⟨by omega, p, (hU p).1 h2, h3⟩
  · rintro (⟨h1, p, h2, h3⟩ | ⟨_, p, h2, _⟩)
    · by_cases hb : b = i
      · subst hb; exact .inr ⟨rfl, p, (hU p).2 h2, h3⟩
      · exact .inl ⟨by omega, p, h2, h3⟩
    · cases h2
theorem WIs.zero (LL : List (List Int)) : WIs LL 0 [] [] := by
  intro a b
  constructor
  · intro h; cases h
  · rintro (⟨h, _⟩ | ⟨_, p, h, _⟩)
    · omega
    · cases h
theorem WIs.all {LL : List (List Int)} {E : Ways} (h : WIs LL LL.length [] E) : ∀ a b, (a, b) ∈ E ↔ (a, b) ∈ EW LL := by
  intro a b
  rw [h a b, mem_EW]
  constructor
  · rintro (h | ⟨_, p, h, _⟩)
    · exact h
    · cases h
  · exact .inl
theorem WIs.bound {LL : List (List Int)} {E : Ways} (h : WIs LL LL.length [] E) (hr : Ranged LL) : ∀ e, e ∈ E → e.1 < LL.length ∧ e.2 < LL.length := by
  rintro ⟨a, b⟩ he
  obtain ⟨hb, p, hp, rfl⟩ := mem_EW.1 ((h.all a b).1 he)
  have := hr b hb p hp
  exact ⟨by dsimp only; omega, hb⟩
/-- What is so far: of the places that were gone over. -/
def stP (LL : List (List Int)) (fs : List Bool) (o : List Nat) (j : Nat) : Nat := if j ∈ o then stI LL fs j else 0
theorem stP_snoc (LL : List (List Int)) (fs : List Bool) (o : List Nat) (x j : Nat) : stP LL fs (o ++ [x]) j = if j = x then stI LL fs x else stP LL fs o j := by
  unfold stP
  by_cases h : j = x
  · subst h; simp
  · rw [if_neg h]
    by_cases h2 : j ∈ o
    · rw [if_pos h2, if_pos (List.mem_append_left _ h2)]
    · rw [if_neg h2, if_neg]
      intro h3
      rcases List.mem_append.1 h3 with h3 | h3
      · exact h2 h3
      · exact h (List.mem_singleton.1 h3)
theorem stP_any {LL : List (List Int)} {fs : List Bool} {o : List Nat} {x : Nat} (h : ∀ p, p ∈ Par LL x → p.toNat ∈ o) : (Par LL x).any (fun p => ((stP LL fs o p.toNat : Nat) : Int) == 0) = (Par LL x).any (fun p => !fl fs p.toNat) := by
  apply Bool.eq_iff_iff.2
  rw [List.any_eq_true, List.any_eq_true]
  constructor
  all_goals
    rintro ⟨p, hp, h1⟩
    refine ⟨p, hp, ?_⟩
    have hm := h p hp
    unfold stP at *
    rw [if_pos hm] at *
    have hz := stI_zero LL fs p.toNat
    revert h1
    cases hf : fl fs p.toNat
    · simp [hz.2 hf]
    · have : ¬ stI LL fs p.toNat = 0 := fun e => by have := hz.1 e; rw [hf] at this; cases this
      simp [this]
theorem gre_prev {E : Ways} {n : Nat} {o : List Nat} (h : Gre E n o) {k : Nat} (hk : k < o.length) {a : Nat} (he : (a, o.getD k 0) ∈ E) : a ∈ o.take k := by
  induction h with
  | nil => simp at hk
  | @snoc o x h f m ih =>
    by_cases hko : k < o.length
    · have e1 : (o ++ [x]).getD k 0 = o.getD k 0 := by rw [List.getD_eq_getElem?_getD, List.getD_eq_getElem?_getD, List.getElem?_append_left hko]
      rw [e1] at he
      rw [List.take_append_of_le_length (by omega)]
      exact ih hko he
    · have hke : k = o.length := by simp at hk; omega
      subst hke
      have e1 : (o ++ [x]).getD o.length 0 = x := by rw [List.getD_eq_getElem?_getD, List.getElem?_append_right (Nat.le_refl _)]; simp
      rw [e1] at he
      rw [List.take_left' rfl]
      exact f.2.2 a he
theorem stP_all {LL : List (List Int)} {fs : List Bool} {o : List Nat} (h : ∀ x, x < LL.length → x ∈ o) : ∀ x, x < LL.length → stP LL fs o x = stI LL fs x := fun x hx => by unfold stP; rw [if_pos (h x hx)]
theorem stP_up {LL : List (List Int)} {fs : List Bool} {o : List Nat} {x : Nat} (h : fl fs x = false) : ∀ j, stP LL fs (o ++ [x]) j = stP LL fs o j := fun j => by
  rw [stP_snoc]
  by_cases hj : j = x
  · subst hj
    rw [if_pos rfl, (stI_zero LL fs j).2 h]
    unfold stP
    split
    · exact ((stI_zero LL fs j).2 h).symm
    · rfl
  · rw [if_neg hj]
theorem stP_down {LL : List (List Int)} {fs : List Bool} {o : List Nat} {x : Nat} {v : Nat} (h : stI LL fs x = v) : ∀ j, stP LL fs (o ++ [x]) j = updN (stP LL fs o) x v j := fun j => by
  rw [stP_snoc]
  by_cases hj : j = x
  · subst hj; rw [if_pos rfl, updN_self, h]
  · rw [if_neg hj, updN_ne _ _ hj]
theorem take_succ_nat {o : List Nat} {k : Nat} (h : k < o.length) : o.take (k + 1) = o.take k ++ [o.getD k 0] := by
  rw [List.take_add_one, List.getElem?_eq_getElem h, List.getD_eq_getElem?_getD, List.getElem?_eq_getElem h]; rfl
theorem take_succ_int {o : List Int} {k : Nat} (h : k < o.length) : o.take (k + 1) = o.take k ++ [o.getD k 0] := by
  rw [List.take_add_one, List.getElem?_eq_getElem h, List.getD_eq_getElem?_getD, List.getElem?_eq_getElem h]; rfl
end Go.Proofs.YtbnnbhblfclomaaDoor
