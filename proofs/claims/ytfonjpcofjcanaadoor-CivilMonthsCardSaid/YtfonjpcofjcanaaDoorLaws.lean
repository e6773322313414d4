/- The laws of chapter 04's Door, walked: Days, Of and Months of any input. -/
import Derived.Test.YtfonjpcofjcanaaDoorWalks
import Derived.Test.YtfonjpcofjcanaaDoorNum
import Derived.Deep.LoopGhost
import Derived.LoopTactic
namespace Go.Proofs.YtfonjpcofjcanaaDoor
open Go.RowKit
theorem whole_pos (a c : Int) (hc : 0 < c) (h : 0 ≤ Int.tmod a c) : Int.tdiv a c = a / c ∧ Int.tmod a c = a % c := by
  have e := tmodE a c hc
  have h1 := Int.emod_lt_of_pos a hc
  have e2 : Int.tmod a c = a % c := by rw [e] at h ⊢; split at h <;> simp_all <;> omega
  refine ⟨?_, e2⟩
  have k1 := Int.mul_tdiv_add_tmod a c
  have k2 := Int.mul_ediv_add_emod a c
  exact Int.eq_of_mul_eq_mul_left (show c ≠ 0 by omega) (by omega)
theorem whole_neg (a c : Int) (hc : 0 < c) (h : Int.tmod a c < 0) : Int.tdiv a c - 1 = a / c ∧ Int.tmod a c + c = a % c := by
  have e := tmodE a c hc
  have h0 := Int.emod_nonneg a (show c ≠ 0 by omega)
  have e2 : Int.tmod a c = a % c - c := by rw [e] at h ⊢; split at h <;> simp_all <;> omega
  refine ⟨?_, by omega⟩
  have k1 := Int.mul_tdiv_add_tmod a c
  have k2 := Int.mul_ediv_add_emod a c
  refine Int.eq_of_mul_eq_mul_left (show c ≠ 0 by omega) ?_
  rw [Int.mul_sub, Int.mul_one]; omega
theorem tdiv_bd (a c : Int) : a.tdiv c ≤ a.natAbs ∧ -(a.natAbs : Int) ≤ a.tdiv c := by
  have := Int.natAbs_tdiv_le_natAbs a c
  omega
theorem month_step (y t : Int) (h1 : 1 ≤ t) (h2 : t ≤ 11) : daysC y (t + 1) 1 = daysC y t 1 + lenC y t := by
  have hl := lenC_bd y t
  obtain ⟨_, h⟩ := next_ok y t (lenC y t) ⟨h1, by omega, by omega, by omega⟩
  have e : nextC y t (lenC y t) = (y, t + 1, 1) := by unfold nextC; rw [if_pos rfl, if_neg (by omega)]
  rw [e] at h
  dsimp only at h
  rw [h]; unfold daysC; omega
theorem year_end (y : Int) : daysC (y + 1) 1 1 = daysC y 12 1 + 31 := by
  have hl : lenC y 12 = 31 := by simp [lenC]
  obtain ⟨_, h⟩ := next_ok y 12 31 ⟨by decide, by decide, by decide, by omega⟩
  have e : nextC y 12 31 = (y + 1, 1, 1) := by unfold nextC; rw [if_pos hl.symm, if_pos (by decide)]
  rw [e] at h
  dsimp only at h
  rw [h]; unfold daysC; omega
theorem year_step (y : Int) : daysC (y + 1) 1 1 = daysC y 1 1 + 365 + (if leapC y = true then 1 else 0) := by
  have h := year_len y
  split at h <;> rename_i hl <;> simp only [hl] <;> simp <;> omega
theorem days_bd (t : Int) (h0 : 0 ≤ t) (h1 : t ≤ 401) : 365 * t ≤ daysC (1970 + t) 1 1 ∧ daysC (1970 + t) 1 1 ≤ 150000 := by
  unfold daysC cumA cumM
  simp only [show (1 : Int) < 3 ↔ True by decide, if_true]
  omega
theorem mdays_bd (y t : Int) (h1 : 1 ≤ t) (h2 : t ≤ 12) : daysC y 1 1 ≤ daysC y t 1 ∧ daysC y t 1 ≤ daysC y 1 1 + 335 := by
  unfold daysC cumA cumM
  simp only [show (1 : Int) < 3 ↔ True by decide, if_true]
  split <;> omega
theorem days_far (y q r m d : Int) (h : y = 1970 + 400 * q + r) : daysC y m d = 146097 * q + daysC (1970 + r) m 1 + d - 1 := by
  unfold daysC cumA; split <;> omega
theorem days_70 : daysC 1970 1 1 = 0 := by decide
theorem days_400 : daysC 2370 1 1 = 146097 := by decide
theorem ret_22 {a b c d : Int} (h1 : a = b) (h2 : c = d) : Ending.returned (.tuple #[.int .i64 a, .int .i64 c]) = .returned (.tuple #[.int .i64 b, .int .i64 d]) := by rw [h1, h2]
set_option maxHeartbeats 1000000 in
theorem whole_walk (a c : Int) (w : World) (hc : 0 < c) (hc' : c < 1000000000) (h1 : -9223372036854775808 ≤ a) (h2 : a ≤ 9223372036854775807) (h3 : 1 < c) :
    Calls Tryd.prog 22 #[.int .i64 a, .int .i64 c] w fun e w' => e = .returned (.tuple #[.int .i64 (a / c), .int .i64 (a % c)]) ∧ ∃ n, w' = w.drewN n := by
  have e0 : (c == 0) = false := beq_eq_false_iff_ne.mpr (by omega)
  have hb := tmod_bd a c hc
  have hb1 := hb.1
  have hb2 := hb.2
  clear hb
  have q1 : -9223372036854775807 ≤ Int.tdiv a c := by
    rcases Int.lt_or_le (Int.tmod a c) 0 with h | h
    · have k := whole_neg a c hc h
      have : -4611686018427387904 ≤ a / c := by
        apply Int.le_ediv_of_mul_le hc
        have : -4611686018427387904 * c ≤ -4611686018427387904 * 2 := by omega
        omega
      omega
    · have k := whole_pos a c hc h
      have : -4611686018427387904 ≤ a / c := by
        apply Int.le_ediv_of_mul_le hc
        have : -4611686018427387904 * c ≤ -4611686018427387904 * 2 := by omega
        omega
      omega
  have q2 : Int.tdiv a c ≤ 9223372036854775807 := by
    have hu : a / c < 4611686018427387905 := by
      apply Int.ediv_lt_of_lt_mul hc
      have : 4611686018427387905 * 2 ≤ 4611686018427387905 * c := by omega
      omega
    rcases Int.lt_or_le (Int.tmod a c) 0 with h | h
    · have k := whole_neg a c hc h; omega
    · have k := whole_pos a c hc h; omega
  have w1 : wrap64 (Int.tdiv a c) = Int.tdiv a c := by unfold wrap64; omega
  by_cases ht : Int.tmod a c < 0
  · have ht' : decide (Int.tmod a c < 0) = true := decide_eq_true ht
    obtain ⟨k1, k2⟩ := whole_neg a c hc ht
    have K1 := Lib.hid k1; clear k1
    have K2 := Lib.hid k2; clear k2
    go_enter Tryd.func22, Tryd.ntmps22
    go_wp2
    go_quiet (fail)
    go_wp2
    go_ret2
    exact ⟨ret_22 K1.out K2.out, _, rfl⟩
  · have ht' : decide (Int.tmod a c < 0) = false := decide_eq_false ht
    obtain ⟨k1, k2⟩ := whole_pos a c hc (by omega)
    have K1 := Lib.hid k1; clear k1
    have K2 := Lib.hid k2; clear k2
    go_enter Tryd.func22, Tryd.ntmps22
    go_wp2
    go_quiet (fail)
    go_wp2
    go_ret2
    exact ⟨ret_22 K1.out K2.out, _, rfl⟩
theorem rweek_walk (n : Int) (w : World) (h1 : -9223372036854775808 ≤ n) (h2 : n ≤ 9223372036854775807) :
    Calls Tryd.prog 14 #[.int .i64 n] w fun e w' => e = .returned (.int .i64 ((n + 4) % 7)) ∧ ∃ k, w' = w.drewN k := by
  have k1 : 0 ≤ n % 7 := by omega
  have k2 : n % 7 < 7 := by omega
  go_enter Tryd.func14, Tryd.ntmps14
  go_wp2_with (go_at_call 22; refine (whole_walk _ _ _ (by omega) (by omega) h1 h2 (by omega)).mono ?_; rintro e w' ⟨rfl, k, rfl⟩)
  go_ret
  exact ⟨by first | rfl | exact ret_int (by omega), _, rfl⟩
set_option maxHeartbeats 2000000 in
theorem rdays_walk (y m d : Int) (w : World) (hy : okY y) (h : okC y m d) :
    Calls Tryd.prog 11 #[.agg #[.int .i64 y, .int .i64 m, .int .i64 d]] w fun e w' => e = .returned (.int .i64 (daysC y m d)) ∧ Below w.heap.size w w' := by
  obtain ⟨m1, m2, d1, d2⟩ := h
  obtain ⟨y1, y2⟩ := hy
  have d3 : d ≤ 31 := by have := lenC_bd y m; omega
  clear d2
  obtain ⟨q, hq⟩ : ∃ q, q = (y - 1970) / 400 := ⟨_, rfl⟩
  obtain ⟨r, hr⟩ : ∃ r, r = (y - 1970) % 400 := ⟨_, rfl⟩
  have r1 : 0 ≤ r := by omega
  have r2 : r < 400 := by omega
  have q1 : -700000000 ≤ q := by omega
  have q2 : q ≤ 700000000 := by omega
  have HF := Lib.hid (days_far y q r m d (by omega))
  have H70 := Lib.hid days_70
  rw [show (1970 : Int) = 1970 + 0 by rfl] at H70
  have HW := Lib.hid (fun w => whole_walk (y - 1970) 400 w (by decide) (by decide) (by omega) (by omega) (by decide))
  rw [← hq, ← hr] at HW
  clear hq hr
  go_enter Tryd.func11, Tryd.ntmps11
  go_wp2_with (fail)
  refine (HW.out _).mono ?_
  rintro e w1 ⟨rfl, k, rfl⟩
  go_wp2_with (fail)
  generalize hwo : (w.alloc (Obj.cells #[Value.int IntKind.i64 y, Value.int IntKind.i64 m, Value.int IntKind.i64 d] 23)).drewN k = wo
  have b0 : Below w.heap.size w wo := by rw [← hwo]; exact below_drewN ((Below.refl _ _).alloc (Nat.le_refl _) _) _
  have c1 : wo.cell? ⟨w.heap.size, 1, none⟩ = some (.int .i64 m) := by rw [← hwo]; simp
  have c2 : wo.cell? ⟨w.heap.size, 2, none⟩ = some (.int .i64 d) := by rw [← hwo]; simp
  have z0 : w.heap.size < wo.heap.size := by rw [← hwo]; simp
  clear hwo
  go_loop [5, 6] (fun n k => ∃ t : Int, 0 ≤ t ∧ t ≤ r ∧ k = .int .i64 (1970 + t) ∧ n = .int .i64 (146097 * q + daysC (1970 + t) 1 1)) (fun _ k => (1970 + r - intOf k).toNat)
  case atStart => exact ⟨0, by omega, by omega, rfl, by rw [H70.out, Int.add_zero]⟩
  case round =>
    obtain ⟨t, t1, t2, rfl, rfl⟩ := hrel
    have hb := days_bd t t1 (by omega)
    have hb1 := hb.1
    have hb2 := hb.2
    clear hb
    by_cases hlt : t < r
    · have HS := Lib.hid (year_step (1970 + t))
      by_cases hl : leapC (1970 + t) = true
      · go_wp2_with (go_at_call 18; refine (rleap_walk _ _).mono ?_; rintro e w' ⟨rfl, rfl⟩)
        go_round
        case rel => exact ⟨t + 1, by omega, by omega, by go_num, by rw [show 1970 + (t + 1) = 1970 + t + 1 by omega, HS.out, if_pos hl]; go_num⟩
        case measure => simp [intOf]; omega
      · have hl' : leapC (1970 + t) = false := by simpa using hl
        go_wp2_with (go_at_call 18; refine (rleap_walk _ _).mono ?_; rintro e w' ⟨rfl, rfl⟩)
        go_round
        case rel => exact ⟨t + 1, by omega, by omega, by go_num, by rw [show 1970 + (t + 1) = 1970 + t + 1 by omega, HS.out, if_neg hl]; go_num⟩
        case measure => simp [intOf]; omega
    · obtain rfl : t = r := by omega
      go_wp2_with (fail)
      go_loopw [5, 7] (fun n k wr => ∃ u : Int, 1 ≤ u ∧ u ≤ m ∧ k = .int .i64 u ∧ n = .int .i64 (146097 * q + daysC (1970 + t) u 1) ∧ wr.cell? ⟨w.heap.size, 1, none⟩ = some (.int .i64 m) ∧ wr.cell? ⟨w.heap.size, 2, none⟩ = some (.int .i64 d) ∧ w.heap.size < wr.heap.size ∧ Below w.heap.size w wr) (fun _ k _ => (m - intOf k).toNat)
      case atStart => exact ⟨1, by omega, by omega, rfl, rfl, c1, c2, z0, b0⟩
      case round =>
        obtain ⟨u, u1, u2, rfl, rfl, e1, e2, e3, e4⟩ := hrel
        have hm := mdays_bd (1970 + t) u u1 (by omega)
        have hm1 := hm.1
        have hm2 := hm.2
        clear hm
        have hl := lenC_bd (1970 + t) u
        have hl1 := hl.1
        have hl2 := hl.2
        clear hl
        by_cases hu : u < m
        · have HM := Lib.hid (month_step (1970 + t) u u1 (by omega))
          go_wp2_with (go_at_call 19; refine (rlen_walk _ _ _ (by omega) (by omega)).mono ?_; rintro e w' ⟨rfl, hb⟩)
          go_roundw
          case rel => exact ⟨u + 1, by omega, by omega, by go_num, by rw [HM.out]; go_num, ((bcell hb).1 _ _ e3).trans e1, ((bcell hb).1 _ _ e3).trans e2, Nat.lt_of_lt_of_le e3 hb.size, below_trans e4 hb⟩
          case measure => simp [intOf]; omega
        · obtain rfl : u = m := by omega
          go_wp2
          go_ret
          exact ⟨ret_int (by rw [HF.out]), e4⟩
set_option maxHeartbeats 2000000 in
theorem rof_walk (n : Int) (w : World) (h1 : -70368744177664 ≤ n) (h2 : n ≤ 70368744177664) :
    Calls Tryd.prog 15 #[.int .i64 n] w fun e w' => e = .returned (.agg #[.int .i64 (ofI n).1, .int .i64 (ofI n).2.1, .int .i64 (ofI n).2.2]) ∧ Below w.heap.size w w' := by
  obtain ⟨q, hq⟩ : ∃ q, q = n / 146097 := ⟨_, rfl⟩
  obtain ⟨r, hr⟩ : ∃ r, r = n % 146097 := ⟨_, rfl⟩
  have r1 : 0 ≤ r := by omega
  have r2 : r < 146097 := by omega
  have q1 : -500000000 ≤ q := by omega
  have q2 : q ≤ 500000000 := by omega
  have hn : n = 146097 * q + r := by omega
  have HN := Lib.hid hn; clear hn
  have H70 := Lib.hid days_70
  rw [show (1970 : Int) = 1970 + 0 by rfl] at H70
  have HW := Lib.hid (fun w => whole_walk n 146097 w (by decide) (by decide) (by omega) (by omega) (by decide))
  rw [← hq, ← hr] at HW
  clear hq hr
  go_enter Tryd.func15, Tryd.ntmps15
  go_wp2_with (fail)
  refine (HW.out _).mono ?_
  rintro e w1 ⟨rfl, k, rfl⟩
  go_wp2_with (fail)
  generalize hwo : (w.alloc (Obj.cells #[Value.int IntKind.i64 0, Value.int IntKind.i64 0, Value.int IntKind.i64 0] 23)).drewN k = wo
  have b0 : Below w.heap.size w wo := by rw [← hwo]; exact below_drewN ((Below.refl _ _).alloc (Nat.le_refl _) _) _
  have c0 : wo.heap[w.heap.size]? = some (.cells #[.int .i64 0, .int .i64 0, .int .i64 0] 23 (0, 0)) := by rw [← hwo]; exact heap_alloc_new w _
  have z0 : w.heap.size < wo.heap.size := by rw [← hwo]; simp
  clear hwo
  go_loop [4, 5, 6] (fun s y _ => ∃ t : Int, 0 ≤ t ∧ t ≤ 400 ∧ y = .int .i64 (1970 + t) ∧ 0 ≤ r - daysC (1970 + t) 1 1 ∧ s = .int .i64 (r - daysC (1970 + t) 1 1)) (fun _ y _ => (2370 - intOf y).toNat)
  case atStart => exact ⟨0, by omega, by omega, rfl, by rw [H70.out]; omega, by rw [H70.out]; go_num⟩
  case round =>
    obtain ⟨t, t1, t2, rfl, t3, rfl⟩ := hrel
    have hb := days_bd t t1 (by omega)
    have hb1 := hb.1
    have hb2 := hb.2
    clear hb
    have ht4 : t < 400 := by
      rcases Int.lt_or_le t 400 with h | h
      · exact h
      · have : t = 400 := by omega
        subst this
        have := days_400
        have e : (1970 : Int) + 400 = 2370 := by decide
        rw [e] at t3; omega
    by_cases hl : leapC (1970 + t) = true
    · have LF := Lib.hid hl
      have hys : daysC (1970 + (t + 1)) 1 1 = daysC (1970 + t) 1 1 + 366 := by
        have := year_step (1970 + t)
        rw [if_pos LF.out] at this
        rw [show 1970 + (t + 1) = 1970 + t + 1 by omega]; omega
      by_cases hk : r - daysC (1970 + t) 1 1 < 366
      · have hk' : decide (r - daysC (1970 + t) 1 1 < 366) = true := decide_eq_true hk
        have hend : r < daysC (1970 + (t + 1)) 1 1 := by omega
        have HEND := Lib.hid hend; clear hend
        have HYS := Lib.hid hys; clear hys
        go_wp2_with (go_at_call 18; refine (rleap_walk _ _).mono ?_; rintro e w' ⟨rfl, rfl⟩)
        go_loopw [4, 7] (fun s k wr => ∃ u : Int, 1 ≤ u ∧ u ≤ 12 ∧ k = .int .i64 u ∧ 0 ≤ r - daysC (1970 + t) u 1 ∧ s = .int .i64 (r - daysC (1970 + t) u 1) ∧ wr.heap[w.heap.size]? = some (.cells #[.int .i64 0, .int .i64 0, .int .i64 0] 23 (0, 0)) ∧ w.heap.size < wr.heap.size ∧ Below w.heap.size w wr) (fun _ k _ => (12 - intOf k).toNat)
        case atStart => exact ⟨1, by omega, by omega, rfl, t3, rfl, c0, z0, b0⟩
        case round =>
          obtain ⟨u, u1, u2, rfl, u3, rfl, e1, e3, e4⟩ := hrel
          have hm := mdays_bd (1970 + t) u u1 (by omega)
          have hm1 := hm.1
          have hm2 := hm.2
          clear hm
          have hlb := lenC_bd (1970 + t) u
          have hlb1 := hlb.1
          have hlb2 := hlb.2
          clear hlb
          by_cases hu : lenC (1970 + t) u ≤ r - daysC (1970 + t) u 1
          · have hu' : decide (lenC (1970 + t) u ≤ r - daysC (1970 + t) u 1) = true := decide_eq_true hu
            have hu12 : u ≤ 11 := by
              rcases Int.lt_or_le u 12 with h | h
              · omega
              · exfalso
                have e12 : u = 12 := by omega
                subst e12
                have k1 : lenC (1970 + t) 12 = 31 := by simp [lenC]
                have k2 := year_end (1970 + t)
                rw [show 1970 + t + 1 = 1970 + (t + 1) by omega] at k2
                have := HEND.out
                omega
            have HM := Lib.hid (month_step (1970 + t) u u1 hu12)
            go_wp2_with (fail)
            refine (rlen_walk _ _ _ (by omega) (by omega)).mono ?_
            rintro e wA ⟨rfl, hbA⟩
            go_wp2_with (fail)
            refine (rlen_walk _ _ _ (by omega) (by omega)).mono ?_
            rintro e wB ⟨rfl, hbB⟩
            go_wp2
            go_roundw
            case rel => exact ⟨u + 1, by omega, by omega, by go_num, by rw [HM.out]; omega, by rw [HM.out]; go_num, (hbB.block _ (Nat.lt_of_lt_of_le e3 hbA.size)).trans ((hbA.block _ e3).trans e1), Nat.lt_of_lt_of_le (Nat.lt_of_lt_of_le e3 hbA.size) hbB.size, below_trans (below_trans e4 hbA) hbB⟩
            case measure => simp [intOf]; omega
          · have hu' : decide (lenC (1970 + t) u ≤ r - daysC (1970 + t) u 1) = false := decide_eq_false hu
            have HF : ofI n = (1970 + t + 400 * q, u, r - daysC (1970 + t) u 1 + 1) := by
              have k := days_far (1970 + t + 400 * q) q t u (r - daysC (1970 + t) u 1 + 1) (by omega)
              have k2 : daysC (1970 + t + 400 * q) u (r - daysC (1970 + t) u 1 + 1) = n := by rw [k, HN.out]; omega
              rw [← k2]
              refine of_days _ _ _ ⟨u1, u2, by omega, ?_⟩
              have k3 : lenC (1970 + t + 400 * q) u = lenC (1970 + t) u := by
                have : leapC (1970 + t + 400 * q) = leapC (1970 + t) := by unfold leapC; rw [decide_eq_decide]; omega
                unfold lenC; rw [this]
              omega
            have HF := Lib.hid HF
            go_wp2_with (fail)
            refine (rlen_walk _ _ _ (by omega) (by omega)).mono ?_
            rintro e wA ⟨rfl, hbA⟩
            have e5 : wA.heap[w.heap.size]? = some (.cells #[.int .i64 0, .int .i64 0, .int .i64 0] 23 (0, 0)) := (hbA.block _ e3).trans e1
            have g0 : wA.cell? ⟨w.heap.size, 0, none⟩ = some (.int .i64 0) := cell_of_row wA _ 0 _ _ _ e5
            have g1 : wA.cell? ⟨w.heap.size, 1, none⟩ = some (.int .i64 0) := cell_of_row wA _ 1 _ _ _ e5
            have g2 : wA.cell? ⟨w.heap.size, 2, none⟩ = some (.int .i64 0) := cell_of_row wA _ 2 _ _ _ e5
            have f0 : ∀ i, wA.frozen? ⟨w.heap.size, i, none⟩ = false := fun i => by simp [World.frozen?, e5]
            have f00 := f0 0
            have f01 := f0 1
            have f02 := f0 2
            clear f0
            have z5 : w.heap.size < wA.heap.size := Nat.lt_of_lt_of_le e3 hbA.size
            go_wp2
            refine bodyPost_ret (v := .agg #[.int .i64 (1970 + t + 400 * q), .int .i64 u, .int .i64 (r - daysC (1970 + t) u 1 + 1)]) (by simp [results, Tryd.results15, go_sem, g0, g1, g2]) rfl ⟨by rw [HF.out], ?_⟩
            exact (((below_trans e4 hbA).setCell (by simp) _).setCell (by simp) _).setCell (by simp) _
      · have hk' : decide (r - daysC (1970 + t) 1 1 < 366) = false := decide_eq_false hk
        go_wp2_with (go_at_call 18; refine (rleap_walk _ _).mono ?_; rintro e w' ⟨rfl, rfl⟩)
        go_round
        case rel => exact ⟨t + 1, by omega, by omega, by go_num, by omega, by rw [hys]; go_num⟩
        case measure => simp [intOf]; omega
    · have hl' : leapC (1970 + t) = false := by simpa using hl
      have LF := Lib.hid hl
      have hys : daysC (1970 + (t + 1)) 1 1 = daysC (1970 + t) 1 1 + 365 := by
        have := year_step (1970 + t)
        rw [if_neg LF.out] at this
        rw [show 1970 + (t + 1) = 1970 + t + 1 by omega]; omega
      by_cases hk : r - daysC (1970 + t) 1 1 < 365
      · have hk' : decide (r - daysC (1970 + t) 1 1 < 365) = true := decide_eq_true hk
        have hend : r < daysC (1970 + (t + 1)) 1 1 := by omega
        have HEND := Lib.hid hend; clear hend
        have HYS := Lib.hid hys; clear hys
        go_wp2_with (go_at_call 18; refine (rleap_walk _ _).mono ?_; rintro e w' ⟨rfl, rfl⟩)
        go_loopw [4, 7] (fun s k wr => ∃ u : Int, 1 ≤ u ∧ u ≤ 12 ∧ k = .int .i64 u ∧ 0 ≤ r - daysC (1970 + t) u 1 ∧ s = .int .i64 (r - daysC (1970 + t) u 1) ∧ wr.heap[w.heap.size]? = some (.cells #[.int .i64 0, .int .i64 0, .int .i64 0] 23 (0, 0)) ∧ w.heap.size < wr.heap.size ∧ Below w.heap.size w wr) (fun _ k _ => (12 - intOf k).toNat)
        case atStart => exact ⟨1, by omega, by omega, rfl, t3, rfl, c0, z0, b0⟩
        case round =>
          obtain ⟨u, u1, u2, rfl, u3, rfl, e1, e3, e4⟩ := hrel
          have hm := mdays_bd (1970 + t) u u1 (by omega)
          have hm1 := hm.1
          have hm2 := hm.2
          clear hm
          have hlb := lenC_bd (1970 + t) u
          have hlb1 := hlb.1
          have hlb2 := hlb.2
          clear hlb
          by_cases hu : lenC (1970 + t) u ≤ r - daysC (1970 + t) u 1
          · have hu' : decide (lenC (1970 + t) u ≤ r - daysC (1970 + t) u 1) = true := decide_eq_true hu
            have hu12 : u ≤ 11 := by
              rcases Int.lt_or_le u 12 with h | h
              · omega
              · exfalso
                have e12 : u = 12 := by omega
                subst e12
                have k1 : lenC (1970 + t) 12 = 31 := by simp [lenC]
                have k2 := year_end (1970 + t)
                rw [show 1970 + t + 1 = 1970 + (t + 1) by omega] at k2
                have := HEND.out
                omega
            have HM := Lib.hid (month_step (1970 + t) u u1 hu12)
            go_wp2_with (fail)
            refine (rlen_walk _ _ _ (by omega) (by omega)).mono ?_
            rintro e wA ⟨rfl, hbA⟩
            go_wp2_with (fail)
            refine (rlen_walk _ _ _ (by omega) (by omega)).mono ?_
            rintro e wB ⟨rfl, hbB⟩
            go_wp2
            go_roundw
            case rel => exact ⟨u + 1, by omega, by omega, by go_num, by rw [HM.out]; omega, by rw [HM.out]; go_num, (hbB.block _ (Nat.lt_of_lt_of_le e3 hbA.size)).trans ((hbA.block _ e3).trans e1), Nat.lt_of_lt_of_le (Nat.lt_of_lt_of_le e3 hbA.size) hbB.size, below_trans (below_trans e4 hbA) hbB⟩
            case measure => simp [intOf]; omega
          · have hu' : decide (lenC (1970 + t) u ≤ r - daysC (1970 + t) u 1) = false := decide_eq_false hu
            have HF : ofI n = (1970 + t + 400 * q, u, r - daysC (1970 + t) u 1 + 1) := by
              have k := days_far (1970 + t + 400 * q) q t u (r - daysC (1970 + t) u 1 + 1) (by omega)
              have k2 : daysC (1970 + t + 400 * q) u (r - daysC (1970 + t) u 1 + 1) = n := by rw [k, HN.out]; omega
              rw [← k2]
              refine of_days _ _ _ ⟨u1, u2, by omega, ?_⟩
              have k3 : lenC (1970 + t + 400 * q) u = lenC (1970 + t) u := by
                have : leapC (1970 + t + 400 * q) = leapC (1970 + t) := by unfold leapC; rw [decide_eq_decide]; omega
                unfold lenC; rw [this]
              omega
            have HF := Lib.hid HF
            go_wp2_with (fail)
            refine (rlen_walk _ _ _ (by omega) (by omega)).mono ?_
            rintro e wA ⟨rfl, hbA⟩
            have e5 : wA.heap[w.heap.size]? = some (.cells #[.int .i64 0, .int .i64 0, .int .i64 0] 23 (0, 0)) := (hbA.block _ e3).trans e1
            have g0 : wA.cell? ⟨w.heap.size, 0, none⟩ = some (.int .i64 0) := cell_of_row wA _ 0 _ _ _ e5
            have g1 : wA.cell? ⟨w.heap.size, 1, none⟩ = some (.int .i64 0) := cell_of_row wA _ 1 _ _ _ e5
            have g2 : wA.cell? ⟨w.heap.size, 2, none⟩ = some (.int .i64 0) := cell_of_row wA _ 2 _ _ _ e5
            have f0 : ∀ i, wA.frozen? ⟨w.heap.size, i, none⟩ = false := fun i => by simp [World.frozen?, e5]
            have f00 := f0 0
            have f01 := f0 1
            have f02 := f0 2
            clear f0
            have z5 : w.heap.size < wA.heap.size := Nat.lt_of_lt_of_le e3 hbA.size
            go_wp2
            refine bodyPost_ret (v := .agg #[.int .i64 (1970 + t + 400 * q), .int .i64 u, .int .i64 (r - daysC (1970 + t) u 1 + 1)]) (by simp [results, Tryd.results15, go_sem, g0, g1, g2]) rfl ⟨by rw [HF.out], ?_⟩
            exact (((below_trans e4 hbA).setCell (by simp) _).setCell (by simp) _).setCell (by simp) _
      · have hk' : decide (r - daysC (1970 + t) 1 1 < 365) = false := decide_eq_false hk
        go_wp2_with (go_at_call 18; refine (rleap_walk _ _).mono ?_; rintro e w' ⟨rfl, rfl⟩)
        go_round
        case rel => exact ⟨t + 1, by omega, by omega, by go_num, by omega, by rw [hys]; go_num⟩
        case measure => simp [intOf]; omega
set_option maxHeartbeats 1000000 in
theorem days_bad (y m d : Int) (w : World) (h : ¬ (okY y ∧ okC y m d)) :
    Calls Tryd.prog 6 #[.agg #[.int .i64 y, .int .i64 m, .int .i64 d]] w fun e w' => e = .returned (.tuple #[.int .i64 0, .iface 42 (.int .i64 1)]) ∧ Below w.heap.size w w' := by
  by_cases hl : 1 ≤ m ∧ m ≤ 12 ∧ okY y
  · obtain ⟨m1, m2, hy⟩ := hl
    obtain ⟨y1, y2⟩ := hy
    by_cases h1 : d < 1
    · have e1 : decide (d < 1) = true := decide_eq_true h1
      clear h
      go_enter Tryd.func6, Tryd.ntmps6
      go_wp2_with (go_at_call 16; refine (length_walk _ _ _ m1 m2 y1 y2).mono ?_; rintro e w' ⟨rfl, rfl⟩)
      go_ret2
      exact ⟨rfl, (Below.refl _ _).alloc (Nat.le_refl _) _⟩
    · have e1 : decide (d < 1) = false := decide_eq_false h1
      have e2 : decide (lenC y m < d) = true := decide_eq_true (by
        rcases Int.lt_or_le (lenC y m) d with g | g
        · exact g
        · exact absurd ⟨⟨y1, y2⟩, m1, m2, by omega, g⟩ h)
      clear h
      go_enter Tryd.func6, Tryd.ntmps6
      go_wp2_with (go_at_call 16; refine (length_walk _ _ _ m1 m2 y1 y2).mono ?_; rintro e w' ⟨rfl, rfl⟩)
      go_ret2
      exact ⟨rfl, (Below.refl _ _).alloc (Nat.le_refl _) _⟩
  · have HL := Lib.hid hl; clear h hl
    go_enter Tryd.func6, Tryd.ntmps6
    go_wp2_with (go_at_call 16; refine (length_bad _ _ _ HL.out).mono ?_; rintro e w' ⟨rfl, rfl⟩)
    go_ret2
    exact ⟨rfl, (Below.refl _ _).alloc (Nat.le_refl _) _⟩
theorem may_iff (y m d : Int) : mayB y m d = true ↔ okY y ∧ okC y m d := by
  unfold mayB okC; rw [decide_eq_true_iff]
/-- A world behind w in which a block of three cells is as it was. -/
theorem s3_new (w : World) (a b c : Value) (t : TypeId) : S3 w w.heap.size a b c (w.alloc (.cells #[a, b, c] t)) :=
  ⟨by simp, by simp, by simp, by simp, (Below.refl _ _).alloc (Nat.le_refl _) _⟩
set_option maxHeartbeats 2000000 in
theorem days_law (y m d : Int) (w : World) (hg : ErrType w) :
    Calls Tryd.prog 3 #[.agg #[.int .i64 y, .int .i64 m, .int .i64 d]] w fun e w' => e = .returned (.bool true) ∧ Below w.heap.size w w' := by
  have s0 := s3_new w (.int .i64 y) (.int .i64 m) (.int .i64 d) 23
  by_cases hm : mayB y m d = true
  · have hv := (may_iff y m d).1 hm
    have HD := Lib.hid (fun w => days_walk y m d w hv.1 hv.2)
    have HR := Lib.hid (fun w => rdays_walk y m d w hv.1 hv.2)
    clear hv
    generalize daysC y m d = A at *
    go_enter Tryd.func3, Tryd.ntmps3
    go_wp2_with (fail)
    refine (give_walk y m d _).mono ?_
    rintro e w1 ⟨rfl, hb1⟩
    have s1 := s3_below hb1 s0
    clear hb1 s0
    go_wp2_with (fail)
    refine (HD.out _).mono ?_
    rintro e w2 ⟨rfl, hb2⟩
    have s2 := s3_below hb2 s1
    clear hb2 s1
    obtain ⟨p0, p1, p2, p3, p4⟩ := id s2
    go_wp2_with (fail)
    refine (may_walk y m d _).mono ?_
    rintro e w3 ⟨rfl, hb3⟩
    have s3 := s3_below hb3 s2
    clear p0 p1 p2 p3 p4 hb3 s2
    obtain ⟨p0, p1, p2, p3, p4⟩ := id s3
    go_wp2_with (fail)
    refine (HR.out _).mono ?_
    rintro e w4 ⟨rfl, hb4⟩
    go_wp2_with (fail)
    refine (sure_walk _).mono ?_
    rintro e w5 ⟨rfl, hb5⟩
    go_wp2
    go_ret
    exact ⟨rfl, below_trans (below_trans p4 hb4) hb5⟩
  · have hm' : mayB y m d = false := by simpa using hm
    have hbad : ¬ (okY y ∧ okC y m d) := fun h => hm ((may_iff y m d).2 h)
    have HD := Lib.hid (fun w => days_bad y m d w hbad)
    clear hm hbad
    go_enter Tryd.func3, Tryd.ntmps3
    go_wp2_with (fail)
    refine (give_walk y m d _).mono ?_
    rintro e w1 ⟨rfl, hb1⟩
    have s1 := s3_below hb1 s0
    clear hb1 s0
    go_wp2_with (fail)
    refine (HD.out _).mono ?_
    rintro e w2 ⟨rfl, hb2⟩
    have s2 := s3_below hb2 s1
    clear hb2 s1
    obtain ⟨p0, p1, p2, p3, p4⟩ := id s2
    go_wp2_with (fail)
    refine (may_walk y m d _).mono ?_
    rintro e w3 ⟨rfl, hb3⟩
    have s3 := s3_below hb3 s2
    clear p0 p1 p2 p3 p4 hb3 s2
    obtain ⟨p0, p1, p2, p3, p4⟩ := id s3
    go_wp2_with (fail)
    refine (num_hit 1 _ (hg.below p4)).mono ?_
    rintro e w4 ⟨rfl, hb4⟩
    go_wp2_with (fail)
    refine (sure_walk _).mono ?_
    rintro e w5 ⟨rfl, hb5⟩
    go_wp2
    go_ret
    exact ⟨rfl, below_trans (below_trans p4 hb4) hb5⟩
def S3E (w : World) (g : Nat) (a b c : Value) (W : World) : Prop := W.cell? ⟨g, 0, none⟩ = some a ∧ W.cell? ⟨g, 1, none⟩ = some b ∧ W.cell? ⟨g, 2, none⟩ = some c ∧ g < W.heap.size ∧ Below w.heap.size w W
set_option maxHeartbeats 2000000 in
theorem of_law (n : Int) (w : World) (hg : ErrType w) (hn1 : -9223372036854775808 ≤ n) (hn2 : n ≤ 9223372036854775807) :
    Calls Tryd.prog 4 #[.int .i64 n] w fun e w' => e = .returned (.bool true) ∧ Below w.heap.size w w' := by
  by_cases hr : -70368744177664 ≤ n ∧ n ≤ 70368744177664
  · obtain ⟨r1, r2⟩ := hr
    have HO := Lib.hid (fun w => of_walk n w r1 r2)
    have HR := Lib.hid (fun w => rof_walk n w r1 r2)
    have e1 : decide (n < -70368744177664) = false := decide_eq_false (by omega)
    have e2 : decide (70368744177664 < n) = false := decide_eq_false (by omega)
    generalize (ofI n).1 = y at *
    generalize (ofI n).2.1 = m at *
    generalize (ofI n).2.2 = d at *
    go_enter Tryd.func4, Tryd.ntmps4
    go_wp2_with (fail)
    refine (HO.out _).mono ?_
    rintro e w1 ⟨rfl, hb1⟩
    have hB1 : Below w.heap.size w (w1.alloc (.cells #[.int .i64 y, .int .i64 m, .int .i64 d] 28)) := hb1.alloc hb1.size _
    go_wp2_with (fail)
    refine (week_walk _ _).mono ?_
    rintro e w2 ⟨rfl, rfl⟩
    go_wp2_with (fail)
    refine (rweek_walk _ _ hn1 hn2).mono ?_
    rintro e w2 ⟨rfl, k, rfl⟩
    go_wp2_with (fail)
    have s2 : S3 w w1.heap.size (.int .i64 y) (.int .i64 m) (.int .i64 d) ((w1.alloc (.cells #[.int .i64 y, .int .i64 m, .int .i64 d] 28)).drewN k) := by
      exact ⟨by simp, by simp, by simp, by simp, below_drewN hB1 k⟩
    clear hB1
    obtain ⟨p0, p1, p2, p3, p4⟩ := id s2
    generalize hW : (w1.alloc (Obj.cells #[Value.int IntKind.i64 y, Value.int IntKind.i64 m, Value.int IntKind.i64 d] 28)).drewN k = W at *
    clear hW s2
    generalize hG : w1.heap.size = g at *
    clear hG hb1
    go_region_held3 (fun w' => w'.cell? ⟨g, 0, none⟩ = some (.int .i64 y) ∧ w'.cell? ⟨g, 1, none⟩ = some (.int .i64 m) ∧ w'.cell? ⟨g, 2, none⟩ = some (.int .i64 d) ∧ g < w'.heap.size ∧ Below w.heap.size w w')
      (first | (refine ⟨?_, ?_, ?_, ?_, ?_⟩ <;> assumption) | exact s3_drew ⟨by assumption, by assumption, by assumption, by assumption, by assumption⟩ | exact s3_below hb (by assumption))
      (first | (go_at_call 15; refine (HR.out _).mono ?_; rintro e w' ⟨rfl, hb⟩) | (go_at_call 7; refine (give_walk y m d _).mono ?_; rintro e w' ⟨rfl, hb⟩) | (go_at_call 10; refine (sure_walk _).mono ?_; rintro e w' ⟨rfl, hb⟩))
    all_goals
      go_wp2
      go_ret
      exact ⟨rfl, (show S3 w g (.int .i64 y) (.int .i64 m) (.int .i64 d) _ from by assumption).2.2.2.2⟩
  · have hbad : n < -70368744177664 ∨ 70368744177664 < n := by omega
    have HO := Lib.hid (fun w => of_bad n w hbad)
    have harm : (decide (n < -70368744177664) = true) ∨ (decide (n < -70368744177664) = false ∧ decide (70368744177664 < n) = true) := by
      rcases hbad with h | h
      · exact Or.inl (decide_eq_true h)
      · exact Or.inr ⟨decide_eq_false (by omega), decide_eq_true h⟩
    clear hr hbad
    rcases harm with e1 | ⟨e1, e2⟩
    all_goals
      go_enter Tryd.func4, Tryd.ntmps4
      go_wp2_with (fail)
      refine (HO.out _).mono ?_
      rintro e w1 ⟨rfl, hb1⟩
      go_wp2_with (fail)
      refine (week_walk _ _).mono ?_
      rintro e w2 ⟨rfl, rfl⟩
      go_wp2_with (fail)
      refine (rweek_walk _ _ hn1 hn2).mono ?_
      rintro e w2 ⟨rfl, k, rfl⟩
      have hB : Below w.heap.size w ((w1.alloc (.cells #[.int .i64 0, .int .i64 0, .int .i64 0] 28)).drewN k) := below_drewN (hb1.alloc hb1.size _) k
      go_wp2_with (fail)
      refine (num_hit 1 _ (hg.below hB)).mono ?_
      rintro e w3 ⟨rfl, hb3⟩
      have c0 : w3.cell? ⟨w1.heap.size, 0, none⟩ = some (.int .i64 0) := ((bcell hb3).1 _ _ (by simp)).trans (by simp)
      have c1 : w3.cell? ⟨w1.heap.size, 1, none⟩ = some (.int .i64 0) := ((bcell hb3).1 _ _ (by simp)).trans (by simp)
      have c2 : w3.cell? ⟨w1.heap.size, 2, none⟩ = some (.int .i64 0) := ((bcell hb3).1 _ _ (by simp)).trans (by simp)
      go_wp2_with (fail)
      refine (sure_walk _).mono ?_
      rintro e w5 ⟨rfl, hb5⟩
      go_wp2
      go_ret
      exact ⟨rfl, below_trans (below_trans hB hb3) hb5⟩
set_option maxHeartbeats 2000000 in
theorem months_law (y m : Int) (w : World) (hg : ErrType w) :
    Calls Tryd.prog 5 #[.int .i64 y, .int .i64 m] w fun e w' => e = .returned (.bool true) ∧ Below w.heap.size w w' := by
  have ll : (leapC y != leapC y) = false := by simp
  by_cases h1 : m < 1
  · have e1 : decide (m < 1) = true := decide_eq_true h1
    have HL := Lib.hid (show ¬ (1 ≤ m ∧ m ≤ 12 ∧ okY y) from by unfold okY; omega)
    go_enter Tryd.func5, Tryd.ntmps5
    go_wp2_with (first | (go_at_call 16; refine (length_bad _ _ _ HL.out).mono ?_; rintro e w' ⟨rfl, rfl⟩) | (go_at_call 17; refine (leap_walk _ _).mono ?_; rintro e w' ⟨rfl, rfl⟩) | (go_at_call 18; refine (rleap_walk _ _).mono ?_; rintro e w' ⟨rfl, rfl⟩))
    refine (num_hit 1 _ hg).mono ?_
    rintro e w4 ⟨rfl, hb4⟩
    go_wp2_with (fail)
    refine (sure_walk _).mono ?_
    rintro e w5 ⟨rfl, hb5⟩
    go_wp2
    go_ret
    exact ⟨rfl, below_trans hb4 hb5⟩
  have e1 : decide (m < 1) = false := decide_eq_false h1
  by_cases h2 : 12 < m
  · have e2 : decide (12 < m) = true := decide_eq_true h2
    have HL := Lib.hid (show ¬ (1 ≤ m ∧ m ≤ 12 ∧ okY y) from by unfold okY; omega)
    go_enter Tryd.func5, Tryd.ntmps5
    go_wp2_with (first | (go_at_call 16; refine (length_bad _ _ _ HL.out).mono ?_; rintro e w' ⟨rfl, rfl⟩) | (go_at_call 17; refine (leap_walk _ _).mono ?_; rintro e w' ⟨rfl, rfl⟩) | (go_at_call 18; refine (rleap_walk _ _).mono ?_; rintro e w' ⟨rfl, rfl⟩))
    refine (num_hit 1 _ hg).mono ?_
    rintro e w4 ⟨rfl, hb4⟩
    go_wp2_with (fail)
    refine (sure_walk _).mono ?_
    rintro e w5 ⟨rfl, hb5⟩
    go_wp2
    go_ret
    exact ⟨rfl, below_trans hb4 hb5⟩
  have e2 : decide (12 < m) = false := decide_eq_false h2
  by_cases h3 : y < -274877906944
  · have e3 : decide (y < -274877906944) = true := decide_eq_true h3
    have HL := Lib.hid (show ¬ (1 ≤ m ∧ m ≤ 12 ∧ okY y) from by unfold okY; omega)
    go_enter Tryd.func5, Tryd.ntmps5
    go_wp2_with (first | (go_at_call 16; refine (length_bad _ _ _ HL.out).mono ?_; rintro e w' ⟨rfl, rfl⟩) | (go_at_call 17; refine (leap_walk _ _).mono ?_; rintro e w' ⟨rfl, rfl⟩) | (go_at_call 18; refine (rleap_walk _ _).mono ?_; rintro e w' ⟨rfl, rfl⟩))
    refine (num_hit 1 _ hg).mono ?_
    rintro e w4 ⟨rfl, hb4⟩
    go_wp2_with (fail)
    refine (sure_walk _).mono ?_
    rintro e w5 ⟨rfl, hb5⟩
    go_wp2
    go_ret
    exact ⟨rfl, below_trans hb4 hb5⟩
  have e3 : decide (y < -274877906944) = false := decide_eq_false h3
  by_cases h4 : 274877906944 < y
  · have e4 : decide (274877906944 < y) = true := decide_eq_true h4
    have HL := Lib.hid (show ¬ (1 ≤ m ∧ m ≤ 12 ∧ okY y) from by unfold okY; omega)
    go_enter Tryd.func5, Tryd.ntmps5
    go_wp2_with (first | (go_at_call 16; refine (length_bad _ _ _ HL.out).mono ?_; rintro e w' ⟨rfl, rfl⟩) | (go_at_call 17; refine (leap_walk _ _).mono ?_; rintro e w' ⟨rfl, rfl⟩) | (go_at_call 18; refine (rleap_walk _ _).mono ?_; rintro e w' ⟨rfl, rfl⟩))
    refine (num_hit 1 _ hg).mono ?_
    rintro e w4 ⟨rfl, hb4⟩
    go_wp2_with (fail)
    refine (sure_walk _).mono ?_
    rintro e w5 ⟨rfl, hb5⟩
    go_wp2
    go_ret
    exact ⟨rfl, below_trans hb4 hb5⟩
  have e4 : decide (274877906944 < y) = false := decide_eq_false h4
  have h5 : 1 ≤ m := by omega
  have h6 : m ≤ 12 := by omega
  have h7 : -274877906944 ≤ y := by omega
  have h8 : y ≤ 274877906944 := by omega
  clear h1 h2 h3 h4
  go_enter Tryd.func5, Tryd.ntmps5
  go_wp2_with (first | (go_at_call 16; refine (length_walk _ _ _ h5 h6 h7 h8).mono ?_; rintro e w' ⟨rfl, rfl⟩) | (go_at_call 17; refine (leap_walk _ _).mono ?_; rintro e w' ⟨rfl, rfl⟩) | (go_at_call 18; refine (rleap_walk _ _).mono ?_; rintro e w' ⟨rfl, rfl⟩))
  refine (rlen_walk _ _ _ h5 h6).mono ?_
  rintro e w4 ⟨rfl, hb4⟩
  go_wp2_with (fail)
  refine (sure_walk _).mono ?_
  rintro e w5 ⟨rfl, hb5⟩
  go_wp2
  go_ret
  exact ⟨rfl, below_trans hb4 hb5⟩
end Go.Proofs.YtfonjpcofjcanaaDoor
