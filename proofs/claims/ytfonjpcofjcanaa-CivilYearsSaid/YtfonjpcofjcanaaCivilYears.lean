/- For every year y, the law CivilYears answers true: a year has 365 days, or 366 if it is a leap year, and the months' lengths are together as many. No condition. -/
import Derived.Test.YtfonjpcofjcanaaRows
import Derived.Test.YtfonjpcofjcanaaWalks
import Derived.ProofKit
import Derived.OpenShut
import Derived.ShutString
import Derived.ChangeOld
import Derived.SizedLaws
import Derived.Lib.SmallJoins
namespace Go.Proofs.Ytfonjpcofjcanaa
section
open Go.RowKit
set_option maxHeartbeats 1000000 in
theorem years_walk (n : Int) (w : World) : Calls Try.prog 5 #[.int .i64 n] w fun e w' => e = .returned (.bool true) ∧ Below w.heap.size w w' := by
  obtain ⟨k1, k2⟩ := tmod_bd n 137438953472 (by decide)
  go_enter Try.func5, Try.ntmps5
  go_upto_region 2 with (fail)
  generalize n.tmod 137438953472 = y at *
  have hd1 := fun w => days_walk y 1 1 w ⟨by omega, by omega⟩ ⟨by decide, by decide, by decide, by have := lenC_bd y 1; omega⟩
  have hd2 := fun w => days_walk (y + 1) 1 1 w ⟨by omega, by omega⟩ ⟨by decide, by decide, by decide, by have := lenC_bd (y + 1) 1; omega⟩
  have hyl := year_len y
  have hbd : -110000000000000 ≤ daysC y 1 1 ∧ daysC y 1 1 ≤ 110000000000000 := by
    unfold daysC cumA cumM; simp only [show (1 : Int) < 3 ↔ True by decide, if_true]; omega
  have hbd2 : -120000000000000 ≤ daysC (y + 1) 1 1 ∧ daysC (y + 1) 1 1 ≤ 120000000000000 := by split at hyl <;> omega
  have HD1 := Lib.hid hd1; clear hd1
  have HD2 := Lib.hid hd2; clear hd2
  have HYL := Lib.hid hyl; clear hyl
  generalize daysC y 1 1 = A at *
  generalize daysC (y + 1) 1 1 = B at *
  obtain ⟨b1, b2⟩ := hbd
  obtain ⟨b3, b4⟩ := hbd2
  go_wp2_with (fail)
  refine (HD1.out _).mono ?_
  rintro e w1 ⟨rfl, hb1⟩
  go_wp2_with (fail)
  refine (HD2.out _).mono ?_
  rintro e w2 ⟨rfl, hb2⟩
  have hb := below_trans hb1 hb2
  clear hb1 hb2
  go_wp2_with (fail)
  obtain ⟨wo, rfl⟩ : ∃ wo : World, wo = w2 := ⟨_, rfl⟩
  go_loop [8, 9, 10, 11] (fun s m a b => ∃ k : Nat, k ≤ 12 ∧ m = .int .i64 (k + 1) ∧ s = .int .i64 (sumL y k)) (fun s m a b => (13 - intOf m).toNat)
  case atStart => exact ⟨0, by omega, rfl, rfl⟩
  case round =>
    obtain ⟨k, hk, rfl, rfl⟩ := hrel
    have hs := sumL_bd y k
    have hs1 := hs.1
    have hs2 := hs.2
    clear hs
    have hl := lenC_bd y (k + 1)
    have hl1 := hl.1
    have hl2 := hl.2
    clear hl
    by_cases hlt : k < 12
    · go_wp2_with (go_at_call 10; refine (length_walk _ _ _ (by omega) (by omega) (by omega) (by omega)).mono ?_; rintro e w' ⟨rfl, rfl⟩)
      go_round
      case rel => exact ⟨k + 1, by omega, by go_num, rfl⟩
      case measure => simp [intOf]; omega
    · obtain rfl : k = 12 := by omega
      have h12 := sumL_12 y
      have HYL2 := HYL.out
      by_cases hlp : leapC y = true
      · rw [if_pos hlp] at h12 HYL2
        have t1 : (B - A == 366) = true := beq_iff_eq.2 HYL2
        have t2 : (sumL y 12 == 366) = true := beq_iff_eq.2 h12
        clear h12 HYL2
        go_wp2_with (first | (go_at_call 14; refine (leap_walk _ _).mono ?_; rintro e w' ⟨rfl, rfl⟩) | (go_at_call 7; refine (sure_walk _).mono ?_; rintro e w4 ⟨rfl, hb4⟩))
        go_ret
        exact ⟨rfl, below_trans hb hb4⟩
      · rw [if_neg hlp] at h12 HYL2
        have hlp' : leapC y = false := by simpa using hlp
        have t1 : (B - A == 365) = true := beq_iff_eq.2 HYL2
        have t2 : (sumL y 12 == 365) = true := beq_iff_eq.2 h12
        clear h12 HYL2 hlp
        go_wp2_with (first | (go_at_call 14; refine (leap_walk _ _).mono ?_; rintro e w' ⟨rfl, rfl⟩) | (go_at_call 7; refine (sure_walk _).mono ?_; rintro e w4 ⟨rfl, hb4⟩))
        go_ret
        exact ⟨rfl, below_trans hb hb4⟩
end
section
open Go.ChangeShapes Go.WideShapes Go.ChangeAt Go.RowKit Go.Joins
set_option linter.unusedVariables false

theorem civilYears_own : ownKnob Try.prog.godebug = none := by kernel_rfl
set_option maxRecDepth 100000 in
theorem civilYears_lifted (os : Os) (started : os.Started) (H : Type) (enc : TypeId × Value → H) :
    ReturnsInHanded {} Try.checked os 5 .any (Rows.civilYearsSpec.pre6 enc Try.prog Try.f5 Rows.civilYearsRow.domain false) (Rows.civilYearsSpec.post enc Try.prog Try.f5 false true false false) := by
  refine returnsInHanded_of_change_sized (C := Try.checked) civilYears_own started (by kernel_rfl) Try.func5
    (ChangeSpec.witness6 (enc := enc) (C := Try.checked) false ⟨#[], #[.int .i64 0], []⟩ 8 (by kernel_rfl) (by kernel_rfl) (by kernel_rfl) (by kernel_rfl)) ?_
  intro W base args ds gs before hval0 hW hcnd hsz0 _
  have hval : ∀ (j : Nat) t v, Try.f5.params[j]? = some t → args[j]? = some v → Value.okWide Try.prog W .any base t v := hval0
  have hW' := hW
  obtain ⟨p, q, hA0, hV, rfl, hfz, hnd⟩ := hW
  have hA : DataW.TrodAll enc Try.prog W 0 (fun _ => true) true Try.f5.params.toList args.toList ds p := hA0
  rw [Try.params5] at hA hval
  obtain ⟨v0, vs0, d0, ds0, p0, q0, hargs, rfl, rfl, h0, r0⟩ := trodAll_cons hA
  obtain ⟨rfl, rfl, rfl⟩ := trodAll_nil r0
  obtain rfl : args = #[v0] := by cases args; simp_all
  obtain ⟨rfl, rfl⟩ := trodVars_none hV
  obtain ⟨a0, rfl, rfl, rfl, w0⟩ := open_int Try.underlying3 (hval 0 3 v0 rfl rfl) h0
  clear hA0 hval0 hsz0
  refine (years_walk a0 W).mono fun e W' ⟨he, bel⟩ => ?_
  subst he
  exact ⟨_, rfl, _, _, _, [], _, [], hW', trodAll_mk1 (shut_bool Try.underlying4 _), (trodAll_cons_mk (shut_int Try.underlying3 w0) trodAll_mk0), rfl, bel.frame _, fun h => by cases h⟩
theorem civilYears_holds : Rows.CivilYearsSaid :=
  OpenClaim.holds_of_wide 5 Try.f5 rfl rfl rfl rfl rfl rfl rfl ⟨rfl, rfl, rfl, rfl, rfl⟩ rfl rfl rfl rfl rfl (by kernel_rfl) Try.func5 (by kernel_rfl)
    (of_decide_eq_true (by kernel_rfl)) (by unfold Func.isWrapper; first | (rw [if_pos (by decide +kernel)]; kernel_rfl) | (rw [if_neg (by decide +kernel)]; exact ⟨rfl, rfl⟩))
    (fun os started H enc _ => civilYears_lifted os started H enc)
#print axioms civilYears_holds
end
end Go.Proofs.Ytfonjpcofjcanaa
