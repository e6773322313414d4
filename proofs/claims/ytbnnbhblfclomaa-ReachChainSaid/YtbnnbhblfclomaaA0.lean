/- Away, in plain lists. -/
import Derived.Test.YtbnnbhblfclomaaR3
namespace Go.Proofs.Ytbnnbhblfclomaa
open Go.RowKit
set_option linter.unusedSimpArgs false
set_option linter.unusedVariables false
theorem fl_set {fs : List Bool} {k : Nat} (hk : k < fs.length) (j : Nat) : fl (fs.set k true) j = (fl fs j || decide (j = k)) := by
  unfold fl
  rw [List.getD_eq_getElem?_getD, List.getD_eq_getElem?_getD, List.getElem?_set]
  by_cases h : k = j
  · subst h; rw [if_pos rfl, if_pos hk]; simp
  · rw [if_neg h, decide_eq_false (fun e => h e.symm), Bool.or_false]
theorem st_worse {LL : List (List Int)} {fs : List Bool} {k : Nat} (hk : k < fs.length) (i : Nat) :
    (stI LL fs i ≠ 0 → stI LL (fs.set k true) i ≠ 0) ∧ (stI LL fs i = 3 → stI LL (fs.set k true) i = 3) := by
  have h1 : fl fs i = true → fl (fs.set k true) i = true := fun h => by rw [fl_set hk, h]; rfl
  refine ⟨fun h => ?_, fun h => ?_⟩
  · have hf : fl fs i = true := by
      cases hfi : fl fs i
      · exact absurd ((stI_zero LL fs i).2 hfi) h
      · rfl
    intro h0
    have := (stI_zero LL (fs.set k true) i).1 h0
    rw [h1 hf] at this; cases this
  · unfold stI at h
    split at h
    · rename_i hf
      split at h
      · cases h
      · rename_i hn
        unfold stI
        rw [if_pos (h1 hf), if_neg]
        rintro (e | e)
        · exact hn (.inl e)
        · refine hn (.inr ?_)
          rw [List.any_eq_true] at e ⊢
          obtain ⟨p, hp, hq⟩ := e
          refine ⟨p, hp, ?_⟩
          rw [fl_set hk] at hq
          revert hq
          cases fl fs p.toNat <;> simp
    · cases h
theorem HostsIs.err {LL : List (List Int)} {fs : List Bool} {e : Int} {L : List Int} (h : HostsIs LL fs e L) (he : e ≠ 0) : L = [] := by
  rcases h with ⟨_, _, h⟩ | ⟨_, ⟨_, _, h⟩ | ⟨_, ⟨_, _, h⟩ | ⟨_, ⟨_, _, h⟩ | ⟨_, h, _⟩⟩⟩⟩
  · exact h
  · exact h
  · exact h
  · exact h
  · exact absurd h he
theorem HostsIs.zero {LL : List (List Int)} {fs : List Bool} {L : List Int} (h : HostsIs LL fs 0 L) : LL.length = fs.length ∧ LL.length ≤ 1024 ∧ Ranged LL ∧ Acyc (EW LL) ∧ L = (List.range LL.length).map (fun i => (stI LL fs i : Int)) := by
  rcases h with ⟨_, h, _⟩ | ⟨h0, ⟨_, h, _⟩ | ⟨h1, ⟨_, h, _⟩ | ⟨h2, ⟨_, h, _⟩ | ⟨h3, _, h⟩⟩⟩⟩
  · cases h
  · cases h
  · cases h
  · cases h
  · exact ⟨h1, by omega, h2, h3, h⟩
theorem hosts_ok {LL : List (List Int)} {fs : List Bool} (h1 : LL.length = fs.length) (h2 : LL.length ≤ 1024) (h3 : Ranged LL) (h4 : Acyc (EW LL)) : HostsIs LL fs 0 ((List.range LL.length).map (fun i => (stI LL fs i : Int))) :=
  .inr ⟨by omega, .inr ⟨h1, .inr ⟨h3, .inr ⟨h4, rfl, rfl⟩⟩⟩⟩
theorem st_get {LL : List (List Int)} {fs : List Bool} {n p : Nat} (hp : p < n) : ((List.range n).map (fun i => (stI LL fs i : Int))).getD p 0 = (stI LL fs p : Int) := by
  simp [List.getD_eq_getElem?_getD, hp]
theorem any_succ {fs : List Bool} {l : List Int} {j : Nat} (h : j < l.length) : (l.take (j + 1)).any (fun p => !fl fs p.toNat) = ((l.take j).any (fun p => !fl fs p.toNat) || !fl fs (l.getD j 0).toNat) := by
  rw [take_succ_int h, List.any_append]; simp
def cellsB (fs : List Bool) : List Value := fs.map Value.bool
theorem cellsB_len (fs : List Bool) : (cellsB fs).length = fs.length * 1 := by simp [cellsB]
theorem cellsB_one (fs : List Bool) : ∀ u ∈ cellsB fs, u.oneCell' = true := by
  intro u hu
  obtain ⟨x, _, rfl⟩ := List.mem_map.1 hu
  rfl
end Go.Proofs.Ytbnnbhblfclomaa
