/- The mathematics of days and dates over whole numbers: no program in sight. -/
import Derived.RowKit
namespace Go.Proofs.YtfonjpcofjcanaaDoor
open Go.RowKit
def yoeI (doe : Int) : Int := (doe - doe/1460 + doe/36524 - doe/146096)/365
def cumY (y : Int) : Int := 365*y + y/4 - y/100
theorem yoe_all (doe : Int) (h0 : 0 ≤ doe) (h1 : doe < 146097) : cumY (yoeI doe) ≤ doe ∧ 0 ≤ yoeI doe ∧ yoeI doe ≤ 399 ∧ doe < cumY (yoeI doe + 1) + (yoeI doe + 1)/400 := by
  unfold cumY yoeI
  obtain ⟨f, hf⟩ : ∃ f, f = doe/36524 := ⟨_, rfl⟩
  obtain ⟨h, hh⟩ : ∃ h, h = doe/146096 := ⟨_, rfl⟩
  obtain ⟨e, he⟩ : ∃ e, e = doe/1460 := ⟨_, rfl⟩
  rw [← hf, ← hh, ← he]
  have hf5 : f = 0 ∨ f = 1 ∨ f = 2 ∨ f = 3 ∨ f = 4 := by omega
  have hh2 : h = 0 ∨ h = 1 := by omega
  obtain ⟨y, hy⟩ : ∃ y, y = (doe - e + f - h)/365 := ⟨_, rfl⟩
  rw [← hy]
  have hy0 : 0 ≤ y ∧ y ≤ 399 := by rcases hf5 with rfl | rfl | rfl | rfl | rfl <;> omega
  have hd : y / 100 = 0 ∨ y / 100 = 1 ∨ y / 100 = 2 ∨ y / 100 = 3 := by omega
  have hd1 : (y+1) / 100 = 0 ∨ (y+1) / 100 = 1 ∨ (y+1) / 100 = 2 ∨ (y+1) / 100 = 3 ∨ (y+1)/100 = 4 := by omega
  have hd2 : (y+1) / 400 = 0 ∨ (y+1)/400 = 1 := by omega
  refine ⟨?_, hy0.1, hy0.2, ?_⟩
  · rcases hf5 with rfl | rfl | rfl | rfl | rfl <;> rcases hh2 with rfl | rfl <;> rcases hd with hd | hd | hd | hd <;> omega
  · rcases hf5 with rfl | rfl | rfl | rfl | rfl <;> rcases hh2 with rfl | rfl <;> rcases hd1 with hd | hd | hd | hd | hd <;> rcases hd2 with hq | hq <;> omega
theorem cumY_mono (x y : Int) (h : x ≤ y) : cumY x ≤ cumY y := by
  unfold cumY
  have : x / 4 ≤ y / 4 := by omega
  have : y / 100 ≤ x / 100 + (y - x) := by omega
  omega
/-- and back -/
theorem yoe_unique (a b doe : Int) (ha : 0 ≤ a) (ha' : a ≤ 399) (hb : 0 ≤ b) (hb' : b ≤ 399) (h1 : cumY a ≤ doe) (h2 : doe < cumY (a+1) + (a+1)/400) (h3 : cumY b ≤ doe) (h4 : doe < cumY (b+1) + (b+1)/400) : a = b := by
  have k1 := cumY_mono (a+1) b
  have k2 := cumY_mono (b+1) a
  omega
/-- months from March -/
def cumM (m : Int) : Int := (153*m+2)/5
def mpI (doy : Int) : Int := (5*doy+2)/153
theorem mp_all (doy : Int) (h0 : 0 ≤ doy) (h1 : doy ≤ 365) : 0 ≤ mpI doy ∧ mpI doy ≤ 11 ∧ cumM (mpI doy) ≤ doy ∧ doy < cumM (mpI doy + 1) := by
  unfold mpI cumM; omega
theorem mp_unique (a b doy : Int) (h1 : cumM a ≤ doy) (h2 : doy < cumM (a+1)) (h3 : cumM b ≤ doy) (h4 : doy < cumM (b+1)) : a = b := by
  unfold cumM at *; omega
theorem w64 {x : Int} (h1 : -9223372036854775808 ≤ x) (h2 : x ≤ 9223372036854775807) : wrap64 x = x := by unfold wrap64; omega
theorem tdivE {x : Int} (c : Int) (h : 0 ≤ x) : Int.tdiv x c = x / c := Int.tdiv_eq_ediv_of_nonneg h
theorem tdivD {x c : Int} (h : x % c = 0) : Int.tdiv x c = x / c := by
  rw [Int.tdiv_eq_ediv]; split
  · omega
  · rename_i h'; exact absurd (Or.inr (Int.dvd_of_emod_eq_zero h)) h'
theorem tmodE (x c : Int) (hc : 0 < c) : Int.tmod x c = if 0 ≤ x ∨ x % c = 0 then x % c else x % c - c := by
  rw [Int.tmod_eq_emod]
  have e : (c.natAbs : Int) = c := by omega
  by_cases h : 0 ≤ x ∨ x % c = 0
  · rw [if_pos h, if_pos (h.imp id Int.dvd_of_emod_eq_zero)]; omega
  · rw [if_neg h, if_neg (fun g => h (g.imp id Int.emod_eq_zero_of_dvd)), e]
theorem mod_eq (a c : Int) (hc : 0 < c) (hc' : c < 1000000000) : Int.tmod (wrap64 ((Int.tmod a c) + c)) c = a % c := by
  have h0 := Int.emod_nonneg a (by omega : c ≠ 0)
  have h1 := Int.emod_lt_of_pos a hc
  have ht : Int.tmod a c = a % c ∨ Int.tmod a c = a % c - c := by rw [tmodE a c hc]; split <;> simp
  have hb : (Int.tmod a c + c) % c = a % c := by
    rcases ht with e | e <;> rw [e]
    · rw [Int.add_emod_right, Int.emod_emod]
    · rw [Int.sub_add_cancel, Int.emod_emod]
  have hp : 0 ≤ Int.tmod a c + c := by omega
  rw [w64 (by omega) (by omega), tmodE _ c hc, if_pos (Or.inl hp), hb]
def yrI (z : Int) : Int := 400 * (z / 146097) + yoeI (z % 146097)
def dyI (z : Int) : Int := z % 146097 - cumY (yoeI (z % 146097))
def ofI (n : Int) : Int × Int × Int :=
  let z := n + 719468
  let m := mpI (dyI z)
  (if m > 9 then yrI z + 1 else yrI z, if m > 9 then m - 9 else m + 3, dyI z - cumM m + 1)
theorem cumY_step (y : Int) (h0 : 0 ≤ y) (h1 : y ≤ 399) : cumY (y + 1) + (y + 1) / 400 ≤ cumY y + 366 := by
  unfold cumY
  by_cases h : y = 399
  · subst h; decide
  · omega
def leapC (y : Int) : Bool := decide (y % 4 = 0 ∧ (y % 100 ≠ 0 ∨ y % 400 = 0))
def lenC (y m : Int) : Int := if m = 2 then (if leapC y = true then 29 else 28) else if m = 4 ∨ m = 6 ∨ m = 9 ∨ m = 11 then 30 else 31
def cumA (y : Int) : Int := 365*y + y/4 - y/100 + y/400
def daysC (y m d : Int) : Int := cumA (if m < 3 then y - 1 else y) + cumM (if m < 3 then m + 9 else m - 3) + d - 719469
def okC (y m d : Int) : Prop := 1 ≤ m ∧ m ≤ 12 ∧ 1 ≤ d ∧ d ≤ lenC y m
theorem tmod0 (y c : Int) (hc : 0 < c) : Int.tmod y c = 0 ↔ y % c = 0 := by
  rw [tmodE y c hc]
  have := Int.emod_lt_of_pos y hc
  have := Int.emod_nonneg y (by omega : c ≠ 0)
  split <;> omega
def okY (y : Int) : Prop := -274877906944 ≤ y ∧ y ≤ 274877906944
instance (y : Int) : Decidable (okY y) := by unfold okY; infer_instance
theorem lenC_bd (y m : Int) : 28 ≤ lenC y m ∧ lenC y m ≤ 31 := by
  unfold lenC
  repeat' split
  all_goals omega
theorem cumA_eq (Y : Int) : cumA Y = (Y - Y % 400) / 400 * 146097 + Y % 400 * 365 + Y % 400 / 4 - Y % 400 / 100 := by unfold cumA; omega
theorem cumA_split (e y : Int) (h0 : 0 ≤ y) (h1 : y ≤ 399) : cumA (400 * e + y) = 146097 * e + cumY y := by unfold cumA cumY; omega
theorem cumY_leap (e y : Int) (h0 : 0 ≤ y) (h1 : y ≤ 399) : cumY (y + 1) + (y + 1) / 400 - cumY y = if leapC (400 * e + y + 1) = true then 366 else 365 := by
  unfold cumY leapC
  simp only [decide_eq_true_eq]
  split <;> omega
theorem lenM (y m : Int) (h0 : 0 ≤ m) (h1 : m ≤ 11) : cumM (m + 1) - cumM m = (if m = 11 then 30 else lenC y (if m > 9 then m - 9 else m + 3)) := by
  have : m = 0 ∨ m = 1 ∨ m = 2 ∨ m = 3 ∨ m = 4 ∨ m = 5 ∨ m = 6 ∨ m = 7 ∨ m = 8 ∨ m = 9 ∨ m = 10 ∨ m = 11 := by omega
  rcases this with rfl | rfl | rfl | rfl | rfl | rfl | rfl | rfl | rfl | rfl | rfl | rfl <;> simp [cumM, lenC]
theorem of_ok (n : Int) : okC (ofI n).1 (ofI n).2.1 (ofI n).2.2 ∧ daysC (ofI n).1 (ofI n).2.1 (ofI n).2.2 = n := by
  obtain ⟨z, hz⟩ : ∃ z, z = n + 719468 := ⟨_, rfl⟩
  unfold ofI
  rw [← hz]
  dsimp only [yrI, dyI]
  have ht0 : 0 ≤ z % 146097 := by omega
  have ht1 : z % 146097 < 146097 := by omega
  have hzz : z = 146097 * (z / 146097) + z % 146097 := by omega
  obtain ⟨t, ht⟩ : ∃ t, t = z % 146097 := ⟨_, rfl⟩
  obtain ⟨e, he⟩ : ∃ e, e = z / 146097 := ⟨_, rfl⟩
  rw [← ht] at ht0 ht1 hzz ⊢
  rw [← he] at hzz ⊢
  obtain ⟨hy1, hy2, hy3, hy4⟩ := yoe_all t ht0 ht1
  obtain ⟨y, hy⟩ : ∃ y, y = yoeI t := ⟨_, rfl⟩
  rw [← hy] at hy1 hy2 hy3 hy4 ⊢
  obtain ⟨d, hd⟩ : ∃ d, d = t - cumY y := ⟨_, rfl⟩
  rw [← hd]
  have hst := cumY_step y hy2 hy3
  obtain ⟨g1, g2, g3, g4⟩ := mp_all d (by omega) (by omega)
  obtain ⟨m, hm⟩ : ∃ m, m = mpI d := ⟨_, rfl⟩
  rw [← hm] at g1 g2 g3 g4 ⊢
  have hA := cumA_split e y hy2 hy3
  have hL := cumY_leap e y hy2 hy3
  clear ht he hy hm hst
  unfold okC daysC
  by_cases h9 : m > 9
  · simp only [if_pos h9]
    have hM := lenM (400 * e + y + 1) m g1 g2
    rw [if_pos h9] at hM
    rw [if_pos (by omega), if_pos (by omega), show 400 * e + y + 1 - 1 = 400 * e + y by omega, hA, show m - 9 + 9 = m by omega]
    refine ⟨⟨by omega, by omega, by omega, ?_⟩, by omega⟩
    by_cases h11 : m = 11
    · subst h11
      simp only [lenC, show (11 : Int) - 9 = 2 by rfl, if_true]
      have : cumM 11 = 337 := by decide
      split at hL <;> rename_i hl
      · rw [if_pos hl]; omega
      · rw [if_neg hl]; omega
    · rw [if_neg h11] at hM; omega
  · simp only [if_neg h9]
    have hM := lenM (400 * e + y) m g1 g2
    rw [if_neg h9] at hM
    rw [if_neg (by omega), if_neg (by omega), hA, show m + 3 - 3 = m by omega]
    refine ⟨⟨by omega, by omega, by omega, ?_⟩, by omega⟩
    rw [if_neg (by omega)] at hM; omega
theorem of_days (y m d : Int) (h : okC y m d) : ofI (daysC y m d) = (y, m, d) := by
  obtain ⟨h1, h2, h3, h4⟩ := h
  obtain ⟨Y, hY⟩ : ∃ Y, Y = (if m < 3 then y - 1 else y) := ⟨_, rfl⟩
  obtain ⟨M, hM⟩ : ∃ M, M = (if m < 3 then m + 9 else m - 3) := ⟨_, rfl⟩
  have hM0 : 0 ≤ M ∧ M ≤ 11 := by rw [hM]; split <;> omega
  obtain ⟨e, he⟩ : ∃ e, e = Y / 400 := ⟨_, rfl⟩
  obtain ⟨p, hp⟩ : ∃ p, p = Y % 400 := ⟨_, rfl⟩
  have hp0 : 0 ≤ p ∧ p ≤ 399 := by omega
  have hYe : Y = 400 * e + p := by omega
  have hA := cumA_split e p hp0.1 hp0.2
  have hL := cumY_leap e p hp0.1 hp0.2
  have hS := cumY_step p hp0.1 hp0.2
  -- the day within the year
  obtain ⟨q, hq⟩ : ∃ q, q = cumM M + d - 1 := ⟨_, rfl⟩
  have hlen : d ≤ cumM (M + 1) - cumM M ∧ q < cumY (p + 1) + (p + 1) / 400 - cumY p := by
    have hm := lenM y M hM0.1 hM0.2
    by_cases hm3 : m < 3
    · rw [if_pos hm3] at hM hY
      rw [if_pos (show M > 9 by omega), show M - 9 = m by omega] at hm
      by_cases h11 : M = 11
      · have em : m = 2 := by omega
        have c11 : cumM 11 = 337 := by decide
        have c12 : cumM (11 + 1) = 367 := by decide
        rw [if_pos h11] at hm
        rw [show 400 * e + p + 1 = y by omega] at hL
        subst em
        unfold lenC at h4
        rw [if_pos rfl] at h4
        rw [h11] at hq ⊢
        split at hL <;> rename_i hl
        · rw [if_pos hl] at h4; rw [hL]; omega
        · rw [if_neg hl] at h4; rw [hL]; omega
      · rw [if_neg h11] at hm
        have : M = 10 := by omega
        have c : cumM (M + 1) = 337 := by rw [this]; decide
        split at hL <;> omega
    · rw [if_neg hm3] at hM hY
      rw [if_neg (show ¬ M = 11 by omega), if_neg (show ¬ M > 9 by omega), show M + 3 = m by omega] at hm
      have c : cumM (M + 1) ≤ 306 := by unfold cumM; omega
      split at hL <;> omega
  have hM1 : 0 ≤ cumM M := by unfold cumM; omega
  have hz : daysC y m d + 719468 = 146097 * e + (cumY p + q) := by
    unfold daysC; rw [← hY, ← hM, hYe, hA]; omega
  have hc0 : 0 ≤ cumY p := by unfold cumY; omega
  have hc1 : cumY p + q < 146097 := by
    have k1 := cumY_mono (p + 1) 400 (by omega)
    have k2 : cumY 400 = 146096 := by decide
    by_cases hp9 : p = 399
    · subst hp9; have : cumY (399 + 1) + (399 + 1) / 400 = 146097 := by decide
      omega
    · omega
  have hdoe : (daysC y m d + 719468) % 146097 = cumY p + q := by omega
  have hera : (daysC y m d + 719468) / 146097 = e := by omega
  obtain ⟨hy1, hy2, hy3, hy4⟩ := yoe_all (cumY p + q) (by omega) hc1
  have hyo : yoeI (cumY p + q) = p := yoe_unique _ _ _ hy2 hy3 hp0.1 hp0.2 hy1 hy4 (by omega) (by omega)
  obtain ⟨g1, g2, g3, g4⟩ := mp_all q (by omega) (by split at hL <;> omega)
  have hmp : mpI q = M := mp_unique _ _ _ g3 g4 (by omega) (by omega)
  unfold ofI
  dsimp only [yrI, dyI]
  rw [hdoe, hera, hyo, show cumY p + q - cumY p = q by omega, hmp]
  by_cases hm3 : m < 3
  · rw [if_pos hm3] at hM hY
    rw [if_pos (by omega), if_pos (by omega)]
    rw [show 400 * e + p + 1 = y by omega, show M - 9 = m by omega, show q - cumM M + 1 = d by omega]
  · rw [if_neg hm3] at hM hY
    rw [if_neg (by omega), if_neg (by omega)]
    rw [show 400 * e + p = y by omega, show M + 3 = m by omega, show q - cumM M + 1 = d by omega]
/-- the year's bounds -/
theorem of_yr (n : Int) (h1 : -70368744177664 ≤ n) (h2 : n ≤ 70368744177664) : -200000000000 ≤ (ofI n).1 ∧ (ofI n).1 ≤ 200000000000 := by
  obtain ⟨⟨h3, h4, h5, h6⟩, h7⟩ := of_ok n
  have := lenC_bd (ofI n).1 (ofI n).2.1
  unfold daysC cumM cumA at h7
  split at h7 <;> omega
def nextC (y m d : Int) : Int × Int × Int := if d = lenC y m then (if m + 1 = 13 then (y + 1, 1, 1) else (y, m + 1, 1)) else (y, m, d + 1)
theorem next_ok (y m d : Int) (h : okC y m d) : okC (nextC y m d).1 (nextC y m d).2.1 (nextC y m d).2.2 ∧ daysC (nextC y m d).1 (nextC y m d).2.1 (nextC y m d).2.2 = daysC y m d + 1 := by
  obtain ⟨h1, h2, h3, h4⟩ := h
  unfold nextC
  by_cases hd : d = lenC y m
  · rw [if_pos hd]
    by_cases h12 : m + 1 = 13
    · rw [if_pos h12]
      have := lenC_bd (y + 1) 1
      obtain rfl : m = 12 := by omega
      have hl : lenC y 12 = 31 := by simp [lenC]
      dsimp only
      refine ⟨⟨by decide, by decide, by decide, by omega⟩, ?_⟩
      unfold daysC
      simp only [show (12 : Int) < 3 ↔ False by decide, show (1 : Int) < 3 ↔ True by decide, if_true, if_false]
      have e1 : cumM (1 + 9) = 306 := by decide
      have e2 : cumM (12 - 3) = 275 := by decide
      rw [e1, e2, show y + 1 - 1 = y by omega]; omega
    · rw [if_neg h12]
      have := lenC_bd y (m + 1)
      dsimp only
      refine ⟨⟨by omega, by omega, by omega, by omega⟩, ?_⟩
      unfold daysC
      have hm : m = 1 ∨ m = 2 ∨ m = 3 ∨ m = 4 ∨ m = 5 ∨ m = 6 ∨ m = 7 ∨ m = 8 ∨ m = 9 ∨ m = 10 ∨ m = 11 := by omega
      rcases hm with rfl | rfl | rfl | rfl | rfl | rfl | rfl | rfl | rfl | rfl | rfl
      case inr.inl =>
        simp only [show (2 : Int) < 3 ↔ True by decide, show (2 : Int) + 1 < 3 ↔ False by decide, if_true, if_false]
        have e1 : cumM (2 + 9) = 337 := by decide
        have e2 : cumM (2 + 1 - 3) = 0 := by decide
        rw [e1, e2, hd]
        unfold lenC leapC cumA
        simp only [if_true, decide_eq_true_eq]
        split <;> omega
      all_goals
        rw [hd]
        simp [lenC, cumM]
        try omega
  · rw [if_neg hd]
    refine ⟨⟨h1, h2, by dsimp only; omega, by dsimp only; omega⟩, ?_⟩
    unfold daysC
    dsimp only
    omega
theorem of_next (n : Int) : ofI (n + 1) = nextC (ofI n).1 (ofI n).2.1 (ofI n).2.2 := by
  obtain ⟨h, hd⟩ := of_ok n
  obtain ⟨g, gd⟩ := next_ok _ _ _ h
  rw [hd] at gd
  rw [← gd, of_days _ _ _ g]
theorem tmod_bd (a c : Int) (hc : 0 < c) : -c < Int.tmod a c ∧ Int.tmod a c < c := by
  rw [tmodE a c hc]
  have := Int.emod_lt_of_pos a hc
  have := Int.emod_nonneg a (by omega : c ≠ 0)
  split <;> omega
def sumL (y : Int) : Nat → Int
  | 0 => 0
  | k + 1 => sumL y k + lenC y (k + 1)
theorem sumL_12 (y : Int) : sumL y 12 = if leapC y = true then 366 else 365 := by
  by_cases h : leapC y = true <;> simp [sumL, lenC, h]
theorem sumL_bd (y : Int) (k : Nat) : 0 ≤ sumL y k ∧ sumL y k ≤ 31 * k := by
  induction k with
  | zero => simp [sumL]
  | succ k ih => have := lenC_bd y (k + 1); unfold sumL; push_cast; omega
theorem year_len (y : Int) : daysC (y + 1) 1 1 - daysC y 1 1 = if leapC y = true then 366 else 365 := by
  unfold daysC leapC cumA
  simp only [show (1 : Int) < 3 ↔ True by decide, if_true, decide_eq_true_eq]
  split <;> omega
theorem cyc_days (y m d : Int) : daysC (y + 400) m d = daysC y m d + 146097 := by
  unfold daysC cumA; split <;> omega
theorem cyc_len (y m : Int) : lenC (y + 400) m = lenC y m := by
  have : leapC (y + 400) = leapC y := by unfold leapC; rw [decide_eq_decide]; omega
  unfold lenC; rw [this]
end Go.Proofs.YtfonjpcofjcanaaDoor
