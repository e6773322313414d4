/- The walks of the functions of package civil, each against whole numbers. -/
import Derived.Test.YtfonjpcofjcanaaDoorProg
import Derived.WalkKit
import Derived.Below
import Derived.Lib.Hide
import Derived.Deep.DeepCutAuto
import Derived.Deep.QuietTactic
import Derived.BigQuiet
import Derived.KernelRfl
import Derived.Deep.RegionHeld3
import Derived.Laws.StructEq
import Derived.Test.YtfonjpcofjcanaaDoorMath
namespace Go.Proofs.YtfonjpcofjcanaaDoor
open Go.RowKit
theorem ret_int {k : IntKind} {a b : Int} (h : a = b) : Ending.returned (.int k a) = .returned (.int k b) := by rw [h]
set_option maxHeartbeats 400000 in
theorem mod_walk (a c : Int) (w : World) (hc : 0 < c) (hc' : c < 1000000000) :
    Calls Tryd.prog 20 #[.int .i64 a, .int .i64 c] w fun e w' => e = .returned (.int .i64 (a % c)) ∧ w = w' := by
  have h0 : (c == 0) = false := beq_eq_false_iff_ne.mpr (by omega)
  have H := Lib.hid (mod_eq a c hc hc')
  go_enter Tryd.func20, Tryd.ntmps20
  go_wp2
  go_ret
  exact ⟨ret_int H.out, rfl⟩
set_option maxHeartbeats 1000000 in
set_option maxRecDepth 100000 in
theorem of_walk (n : Int) (w : World) (h1 : -70368744177664 ≤ n) (h2 : n ≤ 70368744177664) :
    Calls Tryd.prog 12 #[.int .i64 n] w fun e w' => e = .returned (.tuple #[.agg #[.int .i64 (ofI n).1, .int .i64 (ofI n).2.1, .int .i64 (ofI n).2.2], .nilIface]) ∧ Below w.heap.size w w' := by
  obtain ⟨z, hz⟩ : ∃ z, z = n + 719468 := ⟨_, rfl⟩
  have hz1 : -70368743458196 ≤ z := by omega
  have hz2 : z ≤ 70368744897132 := by omega
  have HZ := Lib.hid hz; clear hz
  have d1 : decide (n < -70368744177664) = false := decide_eq_false (by omega)
  have d2 : decide (70368744177664 < n) = false := decide_eq_false (by omega)
  go_enter Tryd.func12, Tryd.ntmps12
  go_upto_region 5 with (go_at_call 20; refine (mod_walk _ _ _ (by omega) (by omega)).mono ?_; rintro e w' ⟨rfl, rfl⟩)
  have ht0 : 0 ≤ (n + 719468) % 146097 := by omega
  have ht1 : (n + 719468) % 146097 < 146097 := by omega
  have hq : ((n + 719468) - (n + 719468) % 146097) % 146097 = 0 := by omega
  have hera : ((n + 719468) - (n + 719468) % 146097) / 146097 = (n + 719468) / 146097 := by omega
  obtain ⟨t, hT⟩ : ∃ t, t = (n + 719468) % 146097 := ⟨_, rfl⟩
  rw [← hT] at ht0 ht1 hq hera ⊢
  have HT := Lib.hid hT; clear hT
  have HE := Lib.hid hera; clear hera
  have HQ := Lib.hid hq; clear hq
  go_upto_region 6 with (fail)
  obtain ⟨hy1, hy2, hy3, hy4⟩ := yoe_all t ht0 ht1
  have hy5 := cumY_step (yoeI t) hy2 hy3
  rw [show (t - t / 1460 + t / 36524 - t / 146096) / 365 = yoeI t from rfl]
  obtain ⟨y, hY⟩ : ∃ y, y = yoeI t := ⟨_, rfl⟩
  rw [← hY] at hy1 hy2 hy3 hy4 hy5 ⊢
  have HY := Lib.hid hY; clear hY
  go_upto_region 7 with (fail)
  rw [show t - (365 * y + y / 4 - y / 100) = t - cumY y from rfl]
  have hd1 : 0 ≤ t - cumY y := by omega
  have hd2 : t - cumY y ≤ 365 := by omega
  obtain ⟨d, hD⟩ : ∃ d, d = t - cumY y := ⟨_, rfl⟩
  rw [← hD] at hd1 hd2 ⊢
  have HD := Lib.hid hD; clear hD
  go_upto_region 8 with (fail)
  obtain ⟨g1, g2, g3, g4⟩ := mp_all d hd1 hd2
  rw [show (5 * d + 2) / 153 = mpI d from rfl]
  obtain ⟨m, hM⟩ : ∃ m, m = mpI d := ⟨_, rfl⟩
  rw [← hM] at g1 g2 g3 g4 ⊢
  have HM := Lib.hid hM; clear hM
  have hqq : (n + 719468 - t).tdiv 146097 = (n + 719468) / 146097 := by rw [tdivD HQ.out, HE.out]
  clear hy1 hy4 hy5 g3 g4
  go_upto_region 9 with (fail)
  have hfin : ofI n = (if m > 9 then (n + 719468) / 146097 * 400 + y + 1 else (n + 719468) / 146097 * 400 + y, if m > 9 then m + 3 - 12 else m + 3, d - (153 * m + 2) / 5 + 1) := by
    unfold ofI
    dsimp only [yrI, dyI]
    rw [← HT.out, ← HY.out, ← HD.out, ← HM.out, show (153 * m + 2) / 5 = cumM m from rfl]
    by_cases hm : m > 9
    · rw [if_pos hm, if_pos hm, if_pos hm, if_pos hm, show 400 * ((n + 719468) / 146097) + y + 1 = (n + 719468) / 146097 * 400 + y + 1 by omega, show m - 9 = m + 3 - 12 by omega]
    · rw [if_neg hm, if_neg hm, if_neg hm, if_neg hm, show 400 * ((n + 719468) / 146097) + y = (n + 719468) / 146097 * 400 + y by omega]
  have HF := Lib.hid hfin; clear hfin
  by_cases hm : 12 < m + 3
  · have hm' : decide (12 < m + 3) = true := decide_eq_true hm
    go_wp2
    refine bodyPost_ret (v := .tuple #[.agg #[.int .i64 ((n + 719468) / 146097 * 400 + y + 1), .int .i64 (m + 3 - 12), .int .i64 (d - (153 * m + 2) / 5 + 1)], .nilIface]) (by simp [results, Tryd.results12, go_sem]) rfl ⟨?_, ?_⟩
    · rw [HF.out, if_pos (by omega), if_pos (by omega)]
    · exact ((Below.refl _ _).alloc (Nat.le_refl _) _).alloc (by simp) _
  · have hm' : decide (12 < m + 3) = false := decide_eq_false hm
    go_wp2
    refine bodyPost_ret (v := .tuple #[.agg #[.int .i64 ((n + 719468) / 146097 * 400 + y), .int .i64 (m + 3), .int .i64 (d - (153 * m + 2) / 5 + 1)], .nilIface]) (by simp [results, Tryd.results12, go_sem]) rfl ⟨?_, ?_⟩
    · rw [HF.out, if_neg (by omega), if_neg (by omega)]
    · exact ((Below.refl _ _).alloc (Nat.le_refl _) _).alloc (by simp) _
set_option maxHeartbeats 400000 in
theorem of_bad (n : Int) (w : World) (h : n < -70368744177664 ∨ 70368744177664 < n) :
    Calls Tryd.prog 12 #[.int .i64 n] w fun e w' => e = .returned (.tuple #[.agg #[.int .i64 0, .int .i64 0, .int .i64 0], .iface 42 (.int .i64 1)]) ∧ Below w.heap.size w w' := by
  rcases h with h | h
  · have d1 : decide (n < -70368744177664) = true := decide_eq_true h
    go_enter Tryd.func12, Tryd.ntmps12
    go_wp2
    exact bodyPost_ret (v := .tuple #[.agg #[.int .i64 0, .int .i64 0, .int .i64 0], .iface 42 (.int .i64 1)]) (by simp [results, Tryd.results12, go_sem]) rfl ⟨rfl, (Below.refl _ _).alloc (Nat.le_refl _) _⟩
  · have d1 : decide (n < -70368744177664) = false := decide_eq_false (by omega)
    have d2 : decide (70368744177664 < n) = true := decide_eq_true h
    go_enter Tryd.func12, Tryd.ntmps12
    go_wp2
    exact bodyPost_ret (v := .tuple #[.agg #[.int .i64 0, .int .i64 0, .int .i64 0], .iface 42 (.int .i64 1)]) (by simp [results, Tryd.results12, go_sem]) rfl ⟨rfl, (Below.refl _ _).alloc (Nat.le_refl _) _⟩
theorem ret_bool {a b : Bool} (h : a = b) : Ending.returned (.bool a) = .returned (.bool b) := by rw [h]
theorem leap_walk (y : Int) (w : World) : Calls Tryd.prog 17 #[.int .i64 y] w fun e w' => e = .returned (.bool (leapC y)) ∧ w = w' := by
  have k4 := tmod0 y 4 (by decide)
  have k1 := tmod0 y 100 (by decide)
  have k400 := tmod0 y 400 (by decide)
  by_cases h4 : y % 4 = 0
  · have e4 : (Int.tmod y 4 == 0) = true := beq_iff_eq.2 (k4.2 h4)
    by_cases h1 : y % 100 = 0
    · have e1 : (Int.tmod y 100 != 0) = false := by rw [bne_eq_false_iff_eq]; exact k1.2 h1
      have H := Lib.hid (show (Int.tmod y 400 == 0) = leapC y from by
        unfold leapC; rw [Bool.eq_iff_iff, beq_iff_eq, decide_eq_true_iff, k400]
        constructor
        · intro h; exact ⟨h4, Or.inr h⟩
        · intro h; omega)
      clear k4 k1 k400 h4 h1
      go_enter Tryd.func17, Tryd.ntmps17
      go_wp2
      go_ret
      exact ⟨ret_bool H.out, rfl⟩
    · have e1 : (Int.tmod y 100 != 0) = true := by rw [bne_iff_ne]; exact fun h => h1 (k1.1 h)
      have H := Lib.hid (show true = leapC y from by unfold leapC; rw [decide_eq_true]; exact ⟨h4, Or.inl h1⟩)
      clear k4 k1 k400 h4 h1
      go_enter Tryd.func17, Tryd.ntmps17
      go_wp2
      go_ret
      exact ⟨ret_bool H.out, rfl⟩
  · have e4 : (Int.tmod y 4 == 0) = false := beq_eq_false_iff_ne.2 (fun h => h4 (k4.1 h))
    have H := Lib.hid (show false = leapC y from by unfold leapC; rw [decide_eq_false]; exact fun h => h4 h.1)
    clear k4 k1 k400 h4
    go_enter Tryd.func17, Tryd.ntmps17
    go_wp2
    go_ret
    exact ⟨ret_bool H.out, rfl⟩
theorem ret_two {k : IntKind} {a b : Int} {v : Value} (h : a = b) : Ending.returned (.tuple #[.int k a, v]) = .returned (.tuple #[.int k b, v]) := by rw [h]
set_option maxHeartbeats 400000 in
theorem length_walk (y m : Int) (w : World) (h1 : 1 ≤ m) (h2 : m ≤ 12) (hy1 : -274877906944 ≤ y) (hy2 : y ≤ 274877906944) :
    Calls Tryd.prog 16 #[.int .i64 y, .int .i64 m] w fun e w' => e = .returned (.tuple #[.int .i64 (lenC y m), .nilIface]) ∧ w = w' := by
  have a1 : decide (m < 1) = false := decide_eq_false (by omega)
  have a2 : decide (12 < m) = false := decide_eq_false (by omega)
  have a3 : decide (y < -274877906944) = false := decide_eq_false (by omega)
  have a4 : decide (274877906944 < y) = false := decide_eq_false (by omega)
  by_cases h : m = 2
  · have b2 : (m == 2) = true := beq_iff_eq.2 h
    by_cases hl : leapC y = true
    · have H := Lib.hid (show (29 : Int) = lenC y m from by unfold lenC; rw [if_pos h, if_pos hl])
      clear h
      go_enter Tryd.func16, Tryd.ntmps16
      go_wp2_with (go_at_call 17; refine (leap_walk _ _).mono ?_; rintro e w' ⟨rfl, rfl⟩)
      go_ret2
      exact ⟨ret_two H.out, rfl⟩
    · have hl' : leapC y = false := by simpa using hl
      have H := Lib.hid (show (28 : Int) = lenC y m from by unfold lenC; rw [if_pos h, if_neg hl])
      clear h hl
      go_enter Tryd.func16, Tryd.ntmps16
      go_wp2_with (go_at_call 17; refine (leap_walk _ _).mono ?_; rintro e w' ⟨rfl, rfl⟩)
      go_ret2
      exact ⟨ret_two H.out, rfl⟩
  · have b2 : (m == 2) = false := beq_eq_false_iff_ne.2 h
    by_cases g : m = 4 ∨ m = 6 ∨ m = 9 ∨ m = 11
    · have H := Lib.hid (show (30 : Int) = lenC y m from by unfold lenC; rw [if_neg h, if_pos g])
      clear h a1 a2 b2
      rcases g with rfl | rfl | rfl | rfl
      all_goals
        go_enter Tryd.func16, Tryd.ntmps16
        go_wp2
        go_ret2
        exact ⟨ret_two H.out, rfl⟩
    · have H := Lib.hid (show (31 : Int) = lenC y m from by unfold lenC; rw [if_neg h, if_neg g])
      have b4 : (m == 4) = false := beq_eq_false_iff_ne.2 (by omega)
      have b6 : (m == 6) = false := beq_eq_false_iff_ne.2 (by omega)
      have b9 : (m == 9) = false := beq_eq_false_iff_ne.2 (by omega)
      have b11 : (m == 11) = false := beq_eq_false_iff_ne.2 (by omega)
      clear h g
      go_enter Tryd.func16, Tryd.ntmps16
      go_wp2
      go_ret2
      exact ⟨ret_two H.out, rfl⟩
theorem length_bad (y m : Int) (w : World) (h : ¬ (1 ≤ m ∧ m ≤ 12 ∧ okY y)) :
    Calls Tryd.prog 16 #[.int .i64 y, .int .i64 m] w fun e w' => e = .returned (.tuple #[.int .i64 0, .iface 42 (.int .i64 1)]) ∧ w = w' := by
  unfold okY at h
  by_cases c1 : m < 1
  · have a1 : decide (m < 1) = true := decide_eq_true c1
    go_enter Tryd.func16, Tryd.ntmps16
    go_wp2
    go_ret2
    exact ⟨rfl, rfl⟩
  have a1 : decide (m < 1) = false := decide_eq_false c1
  by_cases c2 : 12 < m
  · have a2 : decide (12 < m) = true := decide_eq_true c2
    go_enter Tryd.func16, Tryd.ntmps16
    go_wp2
    go_ret2
    exact ⟨rfl, rfl⟩
  have a2 : decide (12 < m) = false := decide_eq_false c2
  by_cases c3 : y < -274877906944
  · have a3 : decide (y < -274877906944) = true := decide_eq_true c3
    go_enter Tryd.func16, Tryd.ntmps16
    go_wp2
    go_ret2
    exact ⟨rfl, rfl⟩
  have a3 : decide (y < -274877906944) = false := decide_eq_false c3
  have a4 : decide (274877906944 < y) = true := decide_eq_true (by omega)
  go_enter Tryd.func16, Tryd.ntmps16
  go_wp2
  go_ret2
  exact ⟨rfl, rfl⟩
theorem week_walk (n : Int) (w : World) : Calls Tryd.prog 13 #[.int .i64 n] w fun e w' => e = .returned (.int .i64 ((n + 4) % 7)) ∧ w = w' := by
  have h1 : 0 ≤ n % 7 := by omega
  have h2 : n % 7 < 7 := by omega
  go_enter Tryd.func13, Tryd.ntmps13
  go_wp2_with (go_at_call 20; refine (mod_walk _ _ _ (by omega) (by omega)).mono ?_; rintro e w' ⟨rfl, rfl⟩)
  go_ret
  exact ⟨rfl, rfl⟩
theorem below_drewN {B : Nat} {a w : World} (h : Below B a w) (n : Nat) : Below B a (w.drewN n) := ⟨h.os, h.tape, h.output, h.size, h.block⟩
set_option maxHeartbeats 1000000 in
theorem days_walk (y m d : Int) (w : World) (hy : okY y) (h : okC y m d) :
    Calls Tryd.prog 6 #[.agg #[.int .i64 y, .int .i64 m, .int .i64 d]] w fun e w' => e = .returned (.tuple #[.int .i64 (daysC y m d), .nilIface]) ∧ Below w.heap.size w w' := by
  obtain ⟨m1, m2, d1, d2⟩ := h
  obtain ⟨y1, y2⟩ := hy
  have hl := lenC_bd y m
  have hl1 := hl.1
  have hl2 := hl.2
  clear hl
  have e1 : decide (d < 1) = false := decide_eq_false (by omega)
  have e2 : decide (lenC y m < d) = false := decide_eq_false (by omega)
  have hd3 : d ≤ 31 := by omega
  by_cases hm : m < 3
  · have e3 : decide (m - 3 < 0) = true := decide_eq_true (by omega)
    have HF : daysC y m d = (y - 1 - (y - 1) % 400) / 400 * 146097 + (y - 1) % 400 * 365 + (y - 1) % 400 / 4 - (y - 1) % 400 / 100 + ((153 * (m - 3 + 12) + 2) / 5 + d - 1) - 719468 := by
      unfold daysC
      rw [if_pos hm, if_pos hm, cumA_eq]
      unfold cumM
      omega
    have hp0 : 0 ≤ (y - 1) % 400 := by omega
    have hp1 : (y - 1) % 400 < 400 := by omega
    have hq : (y - 1 - (y - 1) % 400).tdiv 400 = (y - 1 - (y - 1) % 400) / 400 := tdivD (by omega)
    have hq0 : -700000000 ≤ (y - 1 - (y - 1) % 400) / 400 := by omega
    have hq1 : (y - 1 - (y - 1) % 400) / 400 ≤ 700000000 := by omega
    have HQ := Lib.hid hq; clear hq
    have HF := Lib.hid HF
    go_enter Tryd.func6, Tryd.ntmps6
    go_wp2_with (go_at_call 16; refine (length_walk _ _ _ m1 m2 y1 y2).mono ?_; rintro e w' ⟨rfl, rfl⟩)
    go_quiet (fail)
    go_upto_region 9 with (go_at_call 20; refine (mod_walk _ _ _ (by omega) (by omega)).mono ?_; rintro e w' ⟨rfl, rfl⟩)
    generalize hP : (y - 1) % 400 = p at *
    have HQ2 := HQ.out
    generalize hR : (y - 1 - p) / 400 = q at *
    clear HQ hR hP
    go_wp2
    go_ret2
    exact ⟨ret_two HF.out.symm, below_drewN ((Below.refl _ _).alloc (Nat.le_refl _) _) _⟩
  · have e3 : decide (m - 3 < 0) = false := decide_eq_false (by omega)
    have HF : daysC y m d = (y - y % 400) / 400 * 146097 + y % 400 * 365 + y % 400 / 4 - y % 400 / 100 + ((153 * (m - 3) + 2) / 5 + d - 1) - 719468 := by
      unfold daysC
      rw [if_neg hm, if_neg hm, cumA_eq]
      unfold cumM
      omega
    have hp0 : 0 ≤ y % 400 := by omega
    have hp1 : y % 400 < 400 := by omega
    have hq : (y - y % 400).tdiv 400 = (y - y % 400) / 400 := tdivD (by omega)
    have hq0 : -700000000 ≤ (y - y % 400) / 400 := by omega
    have hq1 : (y - y % 400) / 400 ≤ 700000000 := by omega
    have HQ := Lib.hid hq; clear hq
    have HF := Lib.hid HF
    go_enter Tryd.func6, Tryd.ntmps6
    go_wp2_with (go_at_call 16; refine (length_walk _ _ _ m1 m2 y1 y2).mono ?_; rintro e w' ⟨rfl, rfl⟩)
    go_quiet (fail)
    go_upto_region 9 with (go_at_call 20; refine (mod_walk _ _ _ (by omega) (by omega)).mono ?_; rintro e w' ⟨rfl, rfl⟩)
    generalize hP : y % 400 = p at *
    have HQ2 := HQ.out
    generalize hR : (y - p) / 400 = q at *
    clear HQ hR hP
    go_wp2
    go_ret2
    exact ⟨ret_two HF.out.symm, below_drewN ((Below.refl _ _).alloc (Nat.le_refl _) _) _⟩
theorem bcell {W w1 : World} (hb : Below W.heap.size W w1) : (∀ b o, b < W.heap.size → w1.cell? ⟨b, o, none⟩ = W.cell? ⟨b, o, none⟩) ∧ (∀ b o, b < W.heap.size → w1.frozen? ⟨b, o, none⟩ = W.frozen? ⟨b, o, none⟩) :=
  ⟨fun b o h => hb.cell (p := ⟨b, o, none⟩) h, fun b o h => hb.frozen (p := ⟨b, o, none⟩) h⟩
theorem below_trans {w w1 w2 : World} (h : Below w.heap.size w w1) (k : Below w1.heap.size w1 w2) : Below w.heap.size w w2 := h.trans (k.mono h.size)
set_option maxHeartbeats 1000000 in
theorem sure_walk (w : World) : Calls Tryd.prog 10 #[] w fun e w' => e = .returned (.bool true) ∧ Below w.heap.size w w' := by
  have e1 : daysC 2000 3 1 = 11017 := by decide
  have e2 : ofI 0 = (1970, 1, 1) := by decide
  have hd := fun w => days_walk 2000 3 1 w (by decide) (by unfold okC; decide)
  rw [e1] at hd
  have ho := fun w => of_walk 0 w (by decide) (by decide)
  rw [e2] at ho
  dsimp only at ho
  have HD := Lib.hid hd; clear hd
  have HO := Lib.hid ho; clear ho
  clear e1 e2
  go_enter Tryd.func10, Tryd.ntmps10
  go_wp2_with (fail)
  refine (HD.out _).mono ?_
  rintro e w1 ⟨rfl, hb1⟩
  go_wp2_with (fail)
  refine (HO.out _).mono ?_
  rintro e w2 ⟨rfl, hb2⟩
  go_wp2_with (fail)
  refine (week_walk _ _).mono ?_
  rintro e w3 ⟨rfl, rfl⟩
  go_wp2
  go_ret
  exact ⟨rfl, (below_trans hb1 hb2).alloc (by have := (below_trans hb1 hb2).size; omega) _⟩
theorem below_step {w w1 w2 : World} {o : Obj} (h : Below w.heap.size w w1) (k : Below (w1.alloc o).heap.size (w1.alloc o) w2) : Below w.heap.size w w2 := below_trans (h.alloc h.size o) k
theorem rleap_walk (y : Int) (w : World) : Calls Tryd.prog 18 #[.int .i64 y] w fun e w' => e = .returned (.bool (leapC y)) ∧ w = w' := by
  have k4 := tmod0 y 4 (by decide)
  have k1 := tmod0 y 100 (by decide)
  have k400 := tmod0 y 400 (by decide)
  by_cases h400 : y % 400 = 0
  · have e4 : (Int.tmod y 400 == 0) = true := beq_iff_eq.2 (k400.2 h400)
    have H := Lib.hid (show true = leapC y from by unfold leapC; rw [decide_eq_true]; omega)
    clear k4 k1 k400 h400
    go_enter Tryd.func18, Tryd.ntmps18
    go_wp2
    go_ret
    exact ⟨ret_bool H.out, rfl⟩
  · have e400 : (Int.tmod y 400 == 0) = false := beq_eq_false_iff_ne.2 (fun h => h400 (k400.1 h))
    by_cases h4 : y % 4 = 0
    · have e4 : (Int.tmod y 4 == 0) = true := beq_iff_eq.2 (k4.2 h4)
      have H := Lib.hid (show (Int.tmod y 100 != 0) = leapC y from by
        unfold leapC; rw [Bool.eq_iff_iff, bne_iff_ne, decide_eq_true_iff, ne_eq, k1]; omega)
      clear k4 k1 k400 h4 h400
      go_enter Tryd.func18, Tryd.ntmps18
      go_wp2
      go_ret
      exact ⟨ret_bool H.out, rfl⟩
    · have e4 : (Int.tmod y 4 == 0) = false := beq_eq_false_iff_ne.2 (fun h => h4 (k4.1 h))
      have H := Lib.hid (show false = leapC y from by unfold leapC; rw [decide_eq_false]; exact fun h => h4 h.1)
      clear k4 k1 k400 h4 h400
      go_enter Tryd.func18, Tryd.ntmps18
      go_wp2
      go_ret
      exact ⟨ret_bool H.out, rfl⟩
set_option maxHeartbeats 2000000 in
theorem rlen_walk (y m : Int) (w : World) (h1 : 1 ≤ m) (h2 : m ≤ 12) :
    Calls Tryd.prog 19 #[.int .i64 y, .int .i64 m] w fun e w' => e = .returned (.int .i64 (lenC y m)) ∧ Below w.heap.size w w' := by
  by_cases hf : m = 2 ∧ leapC y = true
  · obtain ⟨rfl, hl⟩ := hf
    have H := Lib.hid (show (29 : Int) = lenC y 2 from by unfold lenC; rw [if_pos rfl, if_pos hl])
    go_enter Tryd.func19, Tryd.ntmps19
    go_wp2_with (go_at_call 18; refine (rleap_walk _ _).mono ?_; rintro e w' ⟨rfl, rfl⟩)
    go_ret
    exact ⟨ret_int H.out, Below.refl _ _⟩
  · have hm : m = 1 ∨ m = 2 ∨ m = 3 ∨ m = 4 ∨ m = 5 ∨ m = 6 ∨ m = 7 ∨ m = 8 ∨ m = 9 ∨ m = 10 ∨ m = 11 ∨ m = 12 := by omega
    rcases hm with rfl | rfl | rfl | rfl | rfl | rfl | rfl | rfl | rfl | rfl | rfl | rfl
    case inr.inl =>
      have hl : leapC y = false := by cases h : leapC y with | true => exact absurd ⟨rfl, h⟩ hf | false => rfl
      have H := Lib.hid (show (28 : Int) = lenC y 2 from by unfold lenC; rw [if_pos rfl, hl]; rfl)
      clear hf
      go_enter Tryd.func19, Tryd.ntmps19
      go_wp2_with (go_at_call 18; refine (rleap_walk _ _).mono ?_; rintro e w' ⟨rfl, rfl⟩)
      go_ret
      exact ⟨ret_int H.out, (Below.refl _ _).alloc (Nat.le_refl _) _⟩
    all_goals
      clear hf
      go_enter Tryd.func19, Tryd.ntmps19
      go_wp2_with (go_at_call 18; refine (rleap_walk _ _).mono ?_; rintro e w' ⟨rfl, rfl⟩)
      go_ret
      exact ⟨ret_int (by simp [lenC]), (Below.refl _ _).alloc (Nat.le_refl _) _⟩
def mayB (y m d : Int) : Bool := decide (okY y ∧ 1 ≤ m ∧ m ≤ 12 ∧ 1 ≤ d ∧ d ≤ lenC y m)
def S3 (w : World) (g : Nat) (a b c : Value) (W : World) : Prop := W.cell? ⟨g, 0, none⟩ = some a ∧ W.cell? ⟨g, 1, none⟩ = some b ∧ W.cell? ⟨g, 2, none⟩ = some c ∧ g < W.heap.size ∧ Below w.heap.size w W
theorem s3_drew {w W : World} {g : Nat} {a b c : Value} (h : S3 w g a b c W) : S3 w g a b c W.drew := by
  obtain ⟨h0, h1, h2, h3, h4⟩ := h
  exact ⟨by simpa using h0, by simpa using h1, by simpa using h2, by simpa using h3, h4.drew⟩
theorem s3_below {w W W' : World} {g : Nat} {a b c : Value} (hb : Below W.heap.size W W') (h : S3 w g a b c W) : S3 w g a b c W' := by
  obtain ⟨h0, h1, h2, h3, h4⟩ := h
  exact ⟨((bcell hb).1 _ _ h3).trans h0, ((bcell hb).1 _ _ h3).trans h1, ((bcell hb).1 _ _ h3).trans h2, Nat.lt_of_lt_of_le h3 hb.size, below_trans h4 hb⟩
set_option maxHeartbeats 2000000 in
theorem may_walk (y m d : Int) (w : World) :
    Calls Tryd.prog 8 #[.agg #[.int .i64 y, .int .i64 m, .int .i64 d]] w fun e w' => e = .returned (.bool (mayB y m d)) ∧ Below w.heap.size w w' := by
  by_cases c1 : -274877906944 ≤ y
  · have a1 : decide (-274877906944 ≤ y) = true := decide_eq_true c1
    by_cases c2 : y ≤ 274877906944
    · have a2 : decide (y ≤ 274877906944) = true := decide_eq_true c2
      by_cases c3 : 1 ≤ m
      · have a3 : decide (1 ≤ m) = true := decide_eq_true c3
        by_cases c4 : m ≤ 12
        · have a4 : decide (m ≤ 12) = true := decide_eq_true c4
          by_cases c5 : 1 ≤ d
          · have a5 : decide (1 ≤ d) = true := decide_eq_true c5
            have H := Lib.hid (show decide (d ≤ lenC y m) = mayB y m d from by unfold mayB okY; rw [Bool.eq_iff_iff, decide_eq_true_iff, decide_eq_true_iff]; omega)
            go_enter Tryd.func8, Tryd.ntmps8
            go_wp2
            have q0 : (w.alloc (Obj.cells #[Value.int IntKind.i64 y, Value.int IntKind.i64 m, Value.int IntKind.i64 d] 23)).cell? ⟨w.heap.size, 0, none⟩ = some (.int .i64 y) := by simp
            have q1 : (w.alloc (Obj.cells #[Value.int IntKind.i64 y, Value.int IntKind.i64 m, Value.int IntKind.i64 d] 23)).cell? ⟨w.heap.size, 1, none⟩ = some (.int .i64 m) := by simp
            have q2 : (w.alloc (Obj.cells #[Value.int IntKind.i64 y, Value.int IntKind.i64 m, Value.int IntKind.i64 d] 23)).cell? ⟨w.heap.size, 2, none⟩ = some (.int .i64 d) := by simp
            have hsz : w.heap.size < (w.alloc (Obj.cells #[Value.int IntKind.i64 y, Value.int IntKind.i64 m, Value.int IntKind.i64 d] 23)).heap.size := by simp
            have hbel : Below w.heap.size w (w.alloc (Obj.cells #[Value.int IntKind.i64 y, Value.int IntKind.i64 m, Value.int IntKind.i64 d] 23)) := (Below.refl _ _).alloc (Nat.le_refl _) _
            generalize hW : w.alloc (Obj.cells #[Value.int IntKind.i64 y, Value.int IntKind.i64 m, Value.int IntKind.i64 d] 23) = W at *
            clear hW
            go_region_held3 (fun w' => w'.cell? ⟨w.heap.size, 0, none⟩ = some (.int .i64 y) ∧ w'.cell? ⟨w.heap.size, 1, none⟩ = some (.int .i64 m) ∧ w'.cell? ⟨w.heap.size, 2, none⟩ = some (.int .i64 d) ∧ w.heap.size < w'.heap.size ∧ Below w.heap.size w w')
              (first | (refine ⟨?_, ?_, ?_, ?_, ?_⟩ <;> assumption) | exact s3_drew ⟨by assumption, by assumption, by assumption, by assumption, by assumption⟩ | exact s3_below hb (by assumption))
              (first | (go_at_call 19; refine (rlen_walk _ _ _ c3 c4).mono ?_; rintro e w' ⟨rfl, hb⟩))
            all_goals
              go_wp2
              go_ret
              exact ⟨ret_bool H.out, (show S3 w w.heap.size (.int .i64 y) (.int .i64 m) (.int .i64 d) _ from by assumption).2.2.2.2⟩
          · have a5 : decide (1 ≤ d) = false := decide_eq_false c5
            have H := Lib.hid (show false = mayB y m d from by unfold mayB okY; rw [eq_comm, decide_eq_false_iff_not]; omega)
            go_enter Tryd.func8, Tryd.ntmps8
            go_wp2
            go_quiet (fail)
            go_wp2
            go_ret
            exact ⟨ret_bool H.out, below_drewN ((Below.refl _ _).alloc (Nat.le_refl _) _) _⟩
        · have a4 : decide (m ≤ 12) = false := decide_eq_false c4
          have H := Lib.hid (show false = mayB y m d from by unfold mayB okY; rw [eq_comm, decide_eq_false_iff_not]; omega)
          go_enter Tryd.func8, Tryd.ntmps8
          go_wp2
          go_quiet (fail)
          go_wp2
          go_ret
          exact ⟨ret_bool H.out, below_drewN ((Below.refl _ _).alloc (Nat.le_refl _) _) _⟩
      · have a3 : decide (1 ≤ m) = false := decide_eq_false c3
        have H := Lib.hid (show false = mayB y m d from by unfold mayB okY; rw [eq_comm, decide_eq_false_iff_not]; omega)
        go_enter Tryd.func8, Tryd.ntmps8
        go_wp2
        go_quiet (fail)
        go_wp2
        go_ret
        exact ⟨ret_bool H.out, below_drewN ((Below.refl _ _).alloc (Nat.le_refl _) _) _⟩
    · have a2 : decide (y ≤ 274877906944) = false := decide_eq_false c2
      have H := Lib.hid (show false = mayB y m d from by unfold mayB okY; rw [eq_comm, decide_eq_false_iff_not]; omega)
      go_enter Tryd.func8, Tryd.ntmps8
      go_wp2
      go_quiet (fail)
      go_wp2
      go_ret
      exact ⟨ret_bool H.out, below_drewN ((Below.refl _ _).alloc (Nat.le_refl _) _) _⟩
  · have a1 : decide (-274877906944 ≤ y) = false := decide_eq_false c1
    have H := Lib.hid (show false = mayB y m d from by unfold mayB okY; rw [eq_comm, decide_eq_false_iff_not]; omega)
    go_enter Tryd.func8, Tryd.ntmps8
    go_wp2
    go_quiet (fail)
    go_wp2
    go_ret
    exact ⟨ret_bool H.out, below_drewN ((Below.refl _ _).alloc (Nat.le_refl _) _) _⟩
theorem give_walk (y m d : Int) (w : World) :
    Calls Tryd.prog 7 #[.agg #[.int .i64 y, .int .i64 m, .int .i64 d]] w fun e w' => e = .returned (.agg #[.int .i64 y, .int .i64 m, .int .i64 d]) ∧ Below w.heap.size w w' := by
  go_enter Tryd.func7, Tryd.ntmps7
  go_wp2
  exact bodyPost_ret (v := .agg #[.int .i64 y, .int .i64 m, .int .i64 d]) (by simp [results, Tryd.results7, go_sem]) rfl ⟨rfl, ((Below.refl _ _).alloc (Nat.le_refl _) _).alloc (by simp) _⟩
end Go.Proofs.YtfonjpcofjcanaaDoor
