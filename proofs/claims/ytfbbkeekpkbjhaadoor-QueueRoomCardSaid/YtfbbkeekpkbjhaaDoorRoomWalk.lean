/- The law QueueRoom, walked. -/
import Derived.Test.YtfbbkeekpkbjhaaDoorS3
import Derived.Test.YtfbbkeekpkbjhaaDoorNum
import Derived.Laws.BitsLemmas
namespace Go.Proofs.YtfbbkeekpkbjhaaDoor
open Go.RowKit
set_option linter.unusedSimpArgs false in
set_option linter.unusedVariables false in
set_option maxRecDepth 100000 in
set_option maxHeartbeats 2000000 in
theorem room_walk (a0 a1 : Int) (w : World) (hg : ErrType w) : Calls Tryd.prog 3 #[.int .i64 a0, .int .i64 a1] w fun x w' => x = .returned (.bool true) ∧ Below w.heap.size w w' := by
  have HG := Lib.hid hg
  clear hg
  obtain ⟨p0, p1⟩ := u64m_bd a0 60 (by decide)
  obtain ⟨q0, q1⟩ := u64m_bd a1 100000 (by decide)
  have w0 : IntKind.i64.wrap ((IntKind.u64.wrap a0).tmod 60) = (IntKind.u64.wrap a0).tmod 60 := by rw [IntKind.wrap_i64]; omega
  have w1 : IntKind.i64.wrap (1 + (IntKind.u64.wrap a0).tmod 60) = 1 + (IntKind.u64.wrap a0).tmod 60 := by rw [IntKind.wrap_i64]; omega
  have w2 : IntKind.i64.wrap ((IntKind.u64.wrap a1).tmod 100000) = (IntKind.u64.wrap a1).tmod 100000 := by rw [IntKind.wrap_i64]; omega
  obtain ⟨R, hR⟩ := Int.eq_ofNat_of_zero_le (show 0 ≤ 1 + (IntKind.u64.wrap a0).tmod 60 by omega)
  go_enter Tryd.func3, Tryd.ntmps3
  go_upto_region 2 with (fail)
  have r1 : 1 ≤ R := by omega
  have r60 : R ≤ 60 := by omega
  clear hR p0 p1 w0 w1
  go_wp2_with (fail)
  refine (new_qs R w (by omega) (by omega)).mono ?_
  rintro x w1 ⟨rfl, h1, B1⟩
  have H1 := Lib.hid h1
  clear h1
  go_upto_region 7 with (fail)
  generalize hQ : w.heap.size + 1 = Q at *
  generalize hB : w.heap.size = B at *
  clear hQ
  generalize (IntKind.u64.wrap a1).tmod 100000 = t at *
  clear w2
  go_loopw [9] (fun v wr => ∃ (i : Nat) (hv : Value) (f : Nat → Ev) (m : Int → Int → Option Nat), i ≤ R ∧ v = .int .i64 i ∧ QS B wr Q B hv R i f m ∧ (∀ x, Mem i f x → x.k = 0 ∧ x.d < (i : Int)) ∧ (∀ d : Nat, d < i → ∃ x, Mem i f x ∧ x.k = 0 ∧ x.d = (d : Int)) ∧ Below B w wr) (fun v _ => R - (intOf v).toNat)
  case atStart => exact ⟨0, _, _, _, by omega, rfl, H1.out, (fun x ⟨i, hi, _⟩ => by omega), (fun d hd => by omega), B1⟩
  case round =>
    clear H1 B1
    obtain ⟨i, hv, f, m, hi, rfl, hq, hms, hal, bel⟩ := hrel
    have hBw : B ≤ wr.heap.size := by have := bel.size; omega
    have i0 : (0 : Int) ≤ i := by omega
    by_cases hiR : i < R
    · have iR : (i : Int) < R := by omega
      have s1 : IntKind.i64.wrap ((i : Int) * 7919) = (i : Int) * 7919 := by rw [IntKind.wrap_i64]; omega
      have b0 : (0 : Int) ≤ ((i : Int) * 7919).tmod 101 ∧ ((i : Int) * 7919).tmod 101 < 101 := by rw [Int.tmod_eq_emod_of_nonneg (by omega)]; omega
      have s2 : IntKind.i64.wrap (t + ((i : Int) * 7919).tmod 101) = t + ((i : Int) * 7919).tmod 101 := by rw [IntKind.wrap_i64]; omega
      have no : m 0 i = none := hq.none_of (fun x hx hk => by have := (hms x hx).2; omega)
      have ST := Lib.hid (set_ok B Q B i hv R f m ⟨t + ((i : Int) * 7919).tmod 101, 0, i⟩ wr hq hBw (by omega) (by omega) (Or.inr iR) (by show 0 ≤ t + _; omega) (by show t + _ ≤ _; omega) (Int.le_refl 0) i0)
      have HM := Lib.hid hms
      have HA := Lib.hid hal
      have NO := Lib.hid no
      clear hq hms hal no
      unfold evV at ST
      go_wp2_with (fail)
      refine ST.out.mono ?_
      rintro x w3 ⟨rfl, ⟨hv3, n3, f3, m3, h3, e3, s3⟩, F3⟩
      have hn3 : i + 1 = n3 := by rw [e3, if_pos NO.out]
      subst hn3
      have H3 := Lib.hid h3
      have S3 := Lib.hid s3
      have bel3 := bel.trans F3.bel
      clear ST e3 h3 s3 F3
      go_wp2_with (fail)
      go_roundw
      case rel =>
        refine ⟨i + 1, hv3, f3, m3, by omega, by go_num, H3.out, fun x hx => ?_, fun d hd => ?_, bel3⟩
        · rcases (S3.out x).1 hx with rfl | ⟨h, _⟩
          · exact ⟨rfl, by show (i : Int) < _; omega⟩
          · have := HM.out x h; exact ⟨this.1, by omega⟩
        · by_cases hdi : d = i
          · subst hdi; exact ⟨_, (S3.out _).2 (Or.inl rfl), rfl, rfl⟩
          · obtain ⟨x, hx, k1, k2⟩ := HA.out d (by omega)
            exact ⟨x, (S3.out x).2 (Or.inr ⟨hx, fun hk => by have h2 : x.d = (i : Int) := hk.2; omega⟩), k1, k2⟩
      case measure => simp [intOf]; omega
    · obtain rfl : i = R := by omega
      obtain ⟨R1, rfl⟩ : ∃ R1, i = R1 + 1 := ⟨i - 1, by omega⟩
      have RC : ((R1 + 1 : Nat) : Int) = (R1 : Int) + 1 := by push_cast; rfl
      have FU := Lib.hid (full_ok B Q B (R1 + 1) hv ((R1 + 1 : Nat) : Int) f m ⟨0, 0, (R1 : Int) + 1⟩ wr hq (hq.none_of (fun x hx hk => by have h2 : x.d = (R1 : Int) + 1 := hk.2; have := (hms x hx).2; omega)) (by omega) (Int.le_refl 0) (by show (0 : Int) ≤ 4611686018427387904; decide) (Int.le_refl 0) (by show (0 : Int) ≤ (R1 : Int) + 1; omega))
      have H0 := Lib.hid hq
      have HM := Lib.hid hms
      have HA := Lib.hid hal
      have s3 : IntKind.i64.wrap (t + 200) = t + 200 := by rw [IntKind.wrap_i64]; omega
      have s4 : IntKind.i64.wrap ((R1 : Int) + 1 - 1) = R1 := by rw [IntKind.wrap_i64]; omega
      have rr0 : (0 : Int) ≤ R1 := by omega
      clear hq hms hal
      unfold evV at FU
      go_wp2_with (fail)
      refine FU.out.mono ?_
      rintro x w2 ⟨rfl, B2⟩
      have h2 := H0.out.below B2
      have bel2 := bel.trans (B2.mono hBw)
      have hBw2 : B ≤ w2.heap.size := Nat.le_trans hBw B2.size
      clear FU H0 bel B2 hBw
      unfold eN
      have H2 := Lib.hid h2
      clear h2
      go_wp2_with (fail)
      refine (num_hit 10 _ (HG.out.below (by rw [hB]; exact bel2))).mono ?_
      rintro x w3 ⟨rfl, B3⟩
      have h3 := H2.out.below B3
      have bel3 := bel2.trans (B3.mono hBw2)
      have hBw3 : B ≤ w3.heap.size := Nat.le_trans hBw2 B3.size
      clear H2 bel2 B3 hBw2
      obtain ⟨y, hy, yk, yd⟩ := HA.out R1 (by omega)
      obtain ⟨j, hj, hfj, hmj⟩ := h3.some_of hy
      rw [yk, yd] at hmj
      have ST := Lib.hid (set_ok B Q B (R1 + 1) hv ((R1 + 1 : Nat) : Int) f m ⟨t + 200, 0, R1⟩ w3 h3 hBw3 (by omega) (by omega) (Or.inl (by show m 0 R1 ≠ none; rw [hmj]; simp)) (by show 0 ≤ t + 200; omega) (by show t + 200 ≤ _; omega) (Int.le_refl 0) rr0)
      have HMJ := Lib.hid hmj
      clear h3 hy yk yd hj hfj hmj
      unfold evV at ST
      go_wp2_with (fail)
      refine ST.out.mono ?_
      rintro x w4 ⟨rfl, ⟨hv4, n4, f4, m4, h4, e4, s4'⟩, F4⟩
      have hn4 : R1 + 1 = n4 := by rw [e4]; show R1 + 1 = if m 0 R1 = none then _ else _; rw [HMJ.out]; rfl
      subst hn4
      have bel4 := bel3.trans F4.bel
      have hBw4 : B ≤ w4.heap.size := Nat.le_trans hBw3 F4.bel.size
      obtain ⟨A4, c4, rfl⟩ := h4.slice
      obtain ⟨j4, hj4, hfj4, hmj4⟩ := h4.some_of ((s4' ⟨t + 200, 0, R1⟩).2 (Or.inl rfl))
      have hmj4' : m4 0 R1 = some j4 := hmj4
      have LN := Lib.hid (len_walk Q B _ A4 (R1 + 1) c4 w4 h4.qb)
      have FD := Lib.hid (find_ok B Q B (R1 + 1) _ _ f4 m4 0 R1 w4 h4)
      rw [hmj4'] at FD
      simp only [hfj4, Option.isSome] at FD
      have DR := Lib.hid (drop_ok B Q B R1 j4 _ _ f4 m4 0 R1 w4 h4 hBw4 (by omega) hmj4')
      have H4 := Lib.hid h4
      have S4 := Lib.hid s4'
      clear ST e4 s4' F4 h4 hmj4 hmj4' hfj4 hj4 bel3 hBw3
      go_wp2_with (fail)
      refine LN.out.mono ?_
      rintro x w5 ⟨rfl, rfl⟩
      push_cast
      go_wp2_with (fail)
      refine FD.out.mono ?_
      rintro x w6 ⟨rfl, rfl⟩
      go_wp2_with (fail)
      refine DR.out.mono ?_
      rintro x w7 ⟨rfl, ⟨hv7, f7, m7, h7, ho7, s7⟩, F7⟩
      have bel7 := bel4.trans F7.bel
      have hBw7 : B ≤ w7.heap.size := Nat.le_trans hBw4 F7.bel.size
      have no7 : m7 0 ((R1 : Int) + 1) = none := h7.none_of (fun x hx hk => by
        rcases (S4.out x).1 (s7 x hx).1 with rfl | ⟨h, _⟩
        · have h2 : (R1 : Int) = (R1 : Int) + 1 := hk.2; omega
        · have := (HM.out x h).2; have h2 : x.d = (R1 : Int) + 1 := hk.2; omega)
      have ST := Lib.hid (set_ok B Q B R1 hv7 ((R1 + 1 : Nat) : Int) f7 m7 ⟨t, 0, (R1 : Int) + 1⟩ w7 h7 hBw7 (by omega) (by omega) (Or.inr (by omega)) q0 (by show t ≤ _; omega) (Int.le_refl 0) (by show (0 : Int) ≤ (R1 : Int) + 1; omega))
      clear LN FD DR H4 S4 h7 ho7 s7 F7 no7 bel4 hBw4
      unfold evV at ST
      go_wp2_with (fail)
      refine ST.out.mono ?_
      rintro x w8 ⟨rfl, _, F8⟩
      have bel8 := bel7.trans F8.bel
      have hBw8 : B ≤ w8.heap.size := Nat.le_trans hBw7 F8.bel.size
      clear ST F8 bel7 hBw7
      go_wp2_with (fail)
      refine (sure_walk _).mono ?_
      rintro x w9 ⟨rfl, B9⟩
      have bel9 := bel8.trans (B9.mono hBw8)
      go_wp2
      go_ret
      exact ⟨rfl, by rw [hB]; exact bel9⟩
end Go.Proofs.YtfbbkeekpkbjhaaDoor
