/- Events and how they are held against each other, walked. -/
import Derived.Test.YtfbbkeekpkbjhaaDoorBase
import Derived.Deep.QuietTactic
import Derived.BigQuiet
import Derived.StillTailTactics
namespace Go.Proofs.YtfbbkeekpkbjhaaDoor
open Go.RowKit
/-- An event: when, of what kind, of what. -/
structure Ev where
  t : Int
  k : Int
  d : Int
def evV (e : Ev) : Array Value := #[.int .i64 e.t, .int .i64 e.k, .int .i64 e.d]
def cmpI (a b : Int) : Int := if a < b then -1 else if b < a then 1 else 0
def dueF (a b : Ev) : Int := if cmpI a.t b.t ≠ 0 then cmpI a.t b.t else if cmpI a.k b.k ≠ 0 then cmpI a.k b.k else cmpI a.d b.d
theorem nan_walk (a : Int) (w : World) : Calls Tryd.prog 45 #[.int .i64 a] w fun e w' => e = .returned (.bool false) ∧ w' = w := by
  have b : (a != a) = false := by simp
  go_enter Tryd.func45, Tryd.ntmps45
  go_wp2
  go_ret
  exact ⟨rfl, rfl⟩
theorem cmp_walk (a b : Int) (w : World) : Calls Tryd.prog 38 #[.int .i64 a, .int .i64 b] w fun e w' => e = .returned (.int .i64 (cmpI a b)) ∧ w' = w := by
  have NA := Lib.hid (fun w => nan_walk a w)
  have NB := Lib.hid (fun w => nan_walk b w)
  unfold cmpI
  by_cases h : a < b
  · rw [if_pos h]
    have d0 : decide (a < b) = true := decide_eq_true h
    go_enter Tryd.func38, Tryd.ntmps38
    go_wp2_with (fail)
    refine (NA.out _).mono ?_
    rintro e w1 ⟨rfl, rfl⟩
    go_wp2_with (fail)
    refine (NB.out _).mono ?_
    rintro e w1 ⟨rfl, rfl⟩
    go_wp2
    go_ret
    exact ⟨rfl, rfl⟩
  · rw [if_neg h]
    have d0 : decide (a < b) = false := decide_eq_false h
    by_cases h2 : b < a
    · rw [if_pos h2]
      have d1 : decide (b < a) = true := decide_eq_true h2
      go_enter Tryd.func38, Tryd.ntmps38
      go_wp2_with (fail)
      refine (NA.out _).mono ?_
      rintro e w1 ⟨rfl, rfl⟩
      go_wp2_with (fail)
      refine (NB.out _).mono ?_
      rintro e w1 ⟨rfl, rfl⟩
      go_wp2
      go_ret
      exact ⟨rfl, rfl⟩
    · rw [if_neg h2]
      have d1 : decide (b < a) = false := decide_eq_false h2
      go_enter Tryd.func38, Tryd.ntmps38
      go_wp2_with (fail)
      refine (NA.out _).mono ?_
      rintro e w1 ⟨rfl, rfl⟩
      go_wp2_with (fail)
      refine (NB.out _).mono ?_
      rintro e w1 ⟨rfl, rfl⟩
      go_wp2
      go_ret
      exact ⟨rfl, rfl⟩
def orF (a b c : Int) : Int := if a ≠ 0 then a else if b ≠ 0 then b else c
theorem or_walk (g : Nat) (a b c : Int) (w : World) (hb : Blk w g 3 #[.int .i64 a, .int .i64 b, .int .i64 c]) : Calls Tryd.prog 37 #[.slice (some ⟨g, 0, none⟩) 3 3] w fun e w' => e = .returned (.int .i64 (orF a b c)) ∧ w' = w := by
  have c0 : w.cell? ⟨g, 0, none⟩ = some (.int .i64 a) := by rw [hb.cell]; rfl
  have c1 : w.cell? ⟨g, 1, none⟩ = some (.int .i64 b) := by rw [hb.cell]; rfl
  have c2 : w.cell? ⟨g, 2, none⟩ = some (.int .i64 c) := by rw [hb.cell]; rfl
  clear hb
  go_enter Tryd.func37, Tryd.ntmps37
  go_upto_region 3 with (fail)
  go_loopw [8] (fun i wr => wr = w ∧ (i = .int .i64 0 ∨ (i = .int .i64 1 ∧ a = 0) ∨ (i = .int .i64 2 ∧ a = 0 ∧ b = 0) ∨ (i = .int .i64 3 ∧ a = 0 ∧ b = 0 ∧ c = 0))) (fun i _ => 3 - (intOf i).toNat)
  case atStart => exact ⟨rfl, Or.inl rfl⟩
  case round =>
    obtain ⟨rfl, rfl | ⟨rfl, h0⟩ | ⟨rfl, h0, h1⟩ | ⟨rfl, h0, h1, h2⟩⟩ := hrel
    · by_cases ha : a = 0
      · have n0 : (a != 0) = false := by simp [ha]
        go_wp2
        go_roundw
        case rel => exact ⟨by first | trivial | rfl, Or.inr (Or.inl ⟨by go_num, ha⟩)⟩
        case measure => simp [intOf]
      · have n0 : (a != 0) = true := bne_iff_ne.2 ha
        have e : orF a b c = a := by unfold orF; exact if_pos ha
        have E := Lib.hid e
        clear e
        go_wp2
        go_ret
        exact ⟨ret_int E.out.symm, rfl⟩
    · by_cases hb : b = 0
      · have n0 : (b != 0) = false := by simp [hb]
        go_wp2
        go_roundw
        case rel => exact ⟨by first | trivial | rfl, Or.inr (Or.inr (Or.inl ⟨by go_num, h0, hb⟩))⟩
        case measure => simp [intOf]
      · have n0 : (b != 0) = true := bne_iff_ne.2 hb
        have e : orF a b c = b := by unfold orF; rw [if_neg (by simp [h0]), if_pos hb]
        have E := Lib.hid e
        clear e
        go_wp2
        go_ret
        exact ⟨ret_int E.out.symm, rfl⟩
    · by_cases hc : c = 0
      · have n0 : (c != 0) = false := by simp [hc]
        go_wp2
        go_roundw
        case rel => exact ⟨by first | trivial | rfl, Or.inr (Or.inr (Or.inr ⟨by go_num, h0, h1, hc⟩))⟩
        case measure => simp [intOf]
      · have n0 : (c != 0) = true := bne_iff_ne.2 hc
        have e : orF a b c = c := by unfold orF; rw [if_neg (by simp [h0]), if_neg (by simp [h1])]
        have E := Lib.hid e
        clear e
        go_wp2
        go_ret
        exact ⟨ret_int E.out.symm, rfl⟩
    · have e : orF a b c = 0 := by unfold orF; rw [if_neg (by simp [h0]), if_neg (by simp [h1]), h2]
      have E := Lib.hid e
      clear e
      go_wp2
      go_ret
      exact ⟨ret_int E.out.symm, rfl⟩
end Go.Proofs.YtfbbkeekpkbjhaaDoor
