/- Loop and Clone, walked. -/
import Derived.Test.YtbnnbhblfclomaaDoorM15
import Derived.WalkSpells
namespace Go.Proofs.YtbnnbhblfclomaaDoor
open Go.RowKit
set_option linter.unusedSimpArgs false
set_option linter.unusedVariables false
theorem owns_low {w : World} {B B' : Nat} {v : Value} {n : Nat} {xs : List Value} (h : w.ownsRow B' 3 1 v n xs) (hB : B ≤ B') : w.ownsRow B 3 1 v n xs := by
  rcases h.2 with h0 | ⟨g, cap, cur, e, hb, hr⟩
  · exact ⟨h.1, .inl h0⟩
  · exact ⟨h.1, .inr ⟨g, cap, cur, e, by omega, hr⟩⟩
set_option maxRecDepth 100000 in
theorem chkF_ok {n : Nat} {E : Ways} (hE : ∀ e, e ∈ E → e.1 < n ∧ e.2 < n) (hn : n ≤ 4096) (hm : E.length ≤ 1048576) : chkF n (castE E) = 0 := by
  unfold chkF
  rw [if_neg (by rw [castE_len]; omega), if_neg]
  intro h
  obtain ⟨e, he, ha⟩ := List.any_eq_true.1 h
  unfold castE at he
  obtain ⟨p, hp, rfl⟩ := List.mem_map.1 he
  have := hE p hp
  unfold away at ha
  simp only [Bool.or_eq_true, decide_eq_true_eq] at ha
  omega
theorem chkF_zero {n : Int} {L : List (Int × Int)} (h : chkF n L = 0) : ∃ (N : Nat) (E : Ways), n = N ∧ L = castE E ∧ (∀ e, e ∈ E → e.1 < N ∧ e.2 < N) ∧ N ≤ 4096 ∧ E.length ≤ 1048576 := by
  unfold chkF at h
  by_cases c : n < 0 ∨ 4096 < n ∨ 1048576 < L.length
  · rw [if_pos c] at h; cases h
  · rw [if_neg c] at h
    by_cases d : L.any (away n) = true
    · rw [if_pos d] at h; cases h
    · have hall : ∀ e, e ∈ L → 0 ≤ e.1 ∧ e.1 < n ∧ 0 ≤ e.2 ∧ e.2 < n := by
        intro e he
        have : away n e = false := by
          cases hh : away n e with
          | false => rfl
          | true => exact absurd (List.any_eq_true.2 ⟨e, he, hh⟩) d
        unfold away at this
        simp only [Bool.or_eq_false_iff, decide_eq_false_iff_not] at this
        omega
      refine ⟨n.toNat, L.map (fun e => (e.1.toNat, e.2.toNat)), by omega, ?_, ?_, by omega, by rw [List.length_map]; omega⟩
      · unfold castE
        rw [List.map_map]
        apply List.ext_getElem?
        intro i
        rw [List.getElem?_map]
        cases hi : L[i]? with
        | none => rfl
        | some e =>
          have := hall e (List.mem_of_getElem? hi)
          simp only [Option.map_some, Function.comp]
          congr 1
          exact Prod.ext (by simp; omega) (by simp; omega)
      · intro e he
        obtain ⟨p, hp, rfl⟩ := List.mem_map.1 he
        have := hall p hp
        simp only
        omega
theorem errI_zero : errI 0 = .nilIface := rfl
end Go.Proofs.YtbnnbhblfclomaaDoor
