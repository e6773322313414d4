/- ReachAway, walked. -/
import Derived.Test.YtbnnbhblfclomaaA0
namespace Go.Proofs.Ytbnnbhblfclomaa
open Go.RowKit
set_option linter.unusedSimpArgs false
set_option linter.unusedVariables false
set_option maxRecDepth 100000 in
set_option maxHeartbeats 16000000 in
theorem reachAway_walk (u v : Value) (LL : List (List Int)) (fs : List Bool) (more : Int) (w : World) (hu : RdLL w u w.heap.size LL) (hv : RdB w v w.heap.size fs) (hfz : fs.length ≤ 9223372036854775807) (hLz : LL.length ≤ 9223372036854775807)
    (hz : ∀ i, i < LL.length → (Par LL i).length ≤ 9223372036854775807) : Calls Try.prog 3 #[u, v, .int .i64 more] w fun y w' => y = .returned (.bool true) ∧ Below w.heap.size w w' := by
  have HW := Lib.hid (huge_walk u LL w hu hLz hz)
  have SW := Lib.hid (sure_walk w)
  have H1 := Lib.hid (hosts_walk u v LL fs w hu hv hfz hLz)
  have HU0 := Lib.hid hu
  have HV0 := Lib.hid hv
  obtain ⟨A, cap, rfl⟩ := hu.form
  obtain ⟨A1, cap1, rfl⟩ := hv.form
  clear hu hv hz
  go_enter Try.func3, Try.ntmps3
  go_wp2_with (fail)
  refine HW.out.mono ?_
  rintro y w1 ⟨⟨b, rfl, hb⟩, rfl⟩
  clear HW
  cases b with
  | true =>
    go_wp2_with (fail)
    refine SW.out.mono ?_
    rintro y w2 ⟨rfl, B2⟩
    go_wp2
    go_ret
    exact ⟨rfl, B2⟩
  | false =>
    have HB := Lib.hid (hb rfl)
    clear hb SW
    go_wp2_with (fail)
    refine (H1.out HB.out).mono ?_
    rintro y w2 ⟨⟨r, L, e, rfl, his, hrd, hl⟩, B2⟩
    have BH2 := Lib.hid B2
    clear H1
    by_cases he : e = 0
    · subst he
      obtain ⟨hln, h1k, hR, hA, hL⟩ := his.zero
      have HRG := Lib.hid hR
      have HAC := Lib.hid hA
      have hLn : L.length = LL.length := by rw [hL]; simp
      have HGET := Lib.hid (show ∀ p, p < LL.length → L.getD p 0 = (stI LL fs p : Int) from fun p hp => by rw [hL]; exact st_get hp)
      obtain ⟨A2, c2, rfl⟩ := hrd.form
      have HR := Lib.hid hrd
      have HU := Lib.hid ((HU0.out.below B2 (Nat.le_refl _)).wider B2.size)
      have HV := Lib.hid ((HV0.out.below B2 (Nat.le_refl _)).wider B2.size)
      have hen : ((L.length : Int) != (LL.length : Int)) = false := by simp; omega
      clear his hR hA hrd B2 HU0 HV0 hL
      rw [errI_zero, hLn]
      rw [hLn] at hen
      go_upto_region 9 with (fail)
      go_loopw [9, 10, 11, 12] (fun iv _ _ _ wr => ∃ i : Nat, iv = .int .i64 i ∧ i ≤ LL.length ∧ wr = w2) (fun iv _ _ _ _ => LL.length - (intOf iv).toNat)
      case atStart => exact ⟨0, rfl, Nat.zero_le _, rfl⟩
      case round =>
        obtain ⟨i, rfl, hi, rfl⟩ := hrel
        have i0 : (0 : Int) ≤ i := by omega
        by_cases hlt : i < LL.length
        · have hlt' : (i : Int) < (LL.length : Int) := by omega
          obtain ⟨g, o, A3, c3, rfl, p0, hI⟩ := HU.out.cell hlt
          obtain ⟨gf, of, rfl, f0⟩ := HV.out.cell (i := i) (by omega)
          obtain ⟨gl, ol, rfl, l0⟩ := HR.out.cell (i := i) (by omega)
          have zp := World.block_lt_of_cell? _ _ p0
          have zf := World.block_lt_of_cell? _ _ f0
          have zl := World.block_lt_of_cell? _ _ l0
          rw [HGET.out i hlt] at l0
          rw [show LL.getD i [] = Par LL i from rfl] at p0 hI
          have hll := (HB.out h1k).2 i hlt
          have HRI := Lib.hid (HRG.out i hlt)
          have HST : Hid (stI LL fs i = if fs.getD i false = true then (if (Par LL i = [] ∨ (Par LL i).any (fun p => !fl fs p.toNat) = true) then 2 else 3) else 0) := Lib.hid rfl
          generalize hpl : Par LL i = l at *
          have HI := Lib.hid hI
          clear hpl hI
          go_upto_region 13 with (fail)
          go_loopw [10, 11] (fun sv jv wr2 => ∃ j : Nat, sv = .bool ((l.take j).any (fun p => !fl fs p.toNat)) ∧ jv = .int .i64 j ∧ j ≤ l.length ∧ wr2 = wr) (fun _ jv _ => l.length - (intOf jv).toNat)
          case atStart => exact ⟨0, rfl, rfl, Nat.zero_le _, rfl⟩
          case round =>
            obtain ⟨j, rfl, rfl, hj, hwr⟩ := hrel
            subst hwr
            have j0 : (0 : Int) ≤ j := by omega
            by_cases hjl : j < l.length
            · have hjl' : (j : Int) < (l.length : Int) := by omega
              obtain ⟨gi, oi, rfl, c0⟩ := HI.out.cell hjl
              have zc := World.block_lt_of_cell? _ _ c0
              have HAS := Lib.hid (any_succ (fs := fs) hjl)
              have hpr := HRI.out (l.getD j 0) (by rw [List.getD_eq_getElem?_getD, List.getElem?_eq_getElem hjl]; exact List.getElem_mem _)
              obtain ⟨q, hq⟩ := Int.eq_ofNat_of_zero_le hpr.1
              rw [hq] at c0 hpr HAS
              rw [Int.toNat_natCast] at HAS
              have q0 : (0 : Int) ≤ (q : Int) := by omega
              have q1 : (q : Int) < (LL.length : Int) := hpr.2
              obtain ⟨gl2, ol2, e2, l1⟩ := HR.out.cell (i := q) (by omega)
              cases e2
              have zl1 := World.block_lt_of_cell? _ _ l1
              rw [HGET.out q (by omega)] at l1
              have hzq : ((stI LL fs q : Int) == 0) = !fl fs q := by
                have := stI_zero LL fs q
                cases hf : fl fs q
                · rw [this.2 hf]; rfl
                · have : ¬ stI LL fs q = 0 := fun e => by rw [this.1 e] at hf; cases hf
                  simp; omega
              clear hq hpr
              generalize hb : (l.take j).any (fun p => !fl fs p.toNat) = b at *
              generalize fl fs q = b2 at *
              generalize stI LL fs q = sq at *
              clear hb
              cases b with
              | true =>
                go_wp2_with (fail)
                go_roundw
                case rel => exact ⟨j + 1, by rw [HAS.out]; rfl, by go_num, by omega, by first | rfl | trivial⟩
                case measure => simp [intOf]; omega
              | false =>
                go_wp2_with (fail)
                go_roundw
                case rel => exact ⟨j + 1, by rw [HAS.out, Bool.false_or], by go_num, by omega, by first | rfl | trivial⟩
                case measure => simp [intOf]; omega
            · obtain rfl : j = l.length := by omega
              rw [List.take_length]
              generalize hsv : stI LL fs i = sv at *
              generalize fs.getD i false = bf at *
              generalize hb : l.any (fun p => !fl fs p.toNat) = b at *
              cases bf with
              | false =>
                have hs : sv = 0 := HST.out
                subst hs
                clear HST hb
                have h00 : (((0 : Nat) : Int) != 0) = false := by decide
                go_wp2_with (fail)
                go_roundw
                case rel => exact ⟨i + 1, by go_num, by omega, by first | rfl | trivial⟩
                case measure => simp [intOf]; omega
              | true =>
                have hs := HST.out
                rw [if_pos rfl] at hs
                clear HST hb
                cases b with
                | true =>
                  rw [if_pos (.inr rfl)] at hs
                  subst hs
                  have h00 : (((2 : Nat) : Int) != 2) = false := by decide
                  go_wp2_with (fail)
                  go_roundw
                  case rel => exact ⟨i + 1, by go_num, by omega, by first | rfl | trivial⟩
                  case measure => simp [intOf]; omega
                | false =>
                  by_cases hl0 : l = []
                  · subst hl0
                    rw [if_pos (.inl rfl)] at hs
                    subst hs
                    have h00 : (((2 : Nat) : Int) != 2) = false := by decide
                    go_wp2_with (fail)
                    go_roundw
                    case rel => exact ⟨i + 1, by go_num, by omega, by first | rfl | trivial⟩
                    case measure => simp [intOf]; omega
                  · rw [if_neg (by rintro (h | h); exact hl0 h; cases h)] at hs
                    subst hs
                    have hl0' : ((l.length : Int) == 0) = false := beq_eq_false_iff_ne.2 (by have := List.length_pos_iff.2 hl0; omega)
                    have h00 : (((3 : Nat) : Int) != 3) = false := by decide
                    clear hl0
                    go_wp2_with (fail)
                    go_roundw
                    case rel => exact ⟨i + 1, by go_num, by omega, by first | rfl | trivial⟩
                    case measure => simp [intOf]; omega
        · have hie : i = LL.length := by omega
          subst hie
          by_cases hn0 : LL.length = 0
          · have hn0' : ((LL.length : Int) == 0) = true := by simp [hn0]
            have SW := Lib.hid (sure_walk wr)
            clear hn0
            go_wp2_with (fail)
            refine SW.out.mono ?_
            rintro y w3 ⟨rfl, B3⟩
            have B4 := below_trans BH2.out B3
            go_wp2
            go_ret
            exact ⟨rfl, B4⟩
          · have hn0' : ((LL.length : Int) == 0) = false := beq_eq_false_iff_ne.2 (by omega)
            have hfp : 0 < fs.length := by omega
            obtain ⟨gf, of, rfl, _⟩ := HV.out.cell (i := 0) hfp
            have hnw := Lib.hid (show ∀ j u, (cellsB fs)[j]? = some u → wr.cell? ((⟨gf, of, none⟩ : Addr).add j) = some u from fun j u hj => by
              have hjl : j < fs.length := by have := (List.getElem?_eq_some_iff.1 hj).1; rw [cellsB_len] at this; omega
              obtain ⟨g', o', e, c⟩ := HV.out.cell hjl
              cases e
              rw [add_lit0, c]
              unfold cellsB at hj
              rw [List.getElem?_map, List.getElem?_eq_getElem hjl] at hj
              rw [List.getD_eq_getElem?_getD, List.getElem?_eq_getElem hjl]; simpa using hj)
            obtain ⟨i4, hi4, hz4, hs4, hb4⟩ := info_parts info4
            have hf64 : fs.length ≤ 1024 := by omega
            go_upto_region 27 with (at_builtin; refine wpList_append_own_at _ rfl _ _ 23 rfl wr.heap.size 4 i4 (.bool false) 1 1 Try.underlying23 hi4 hz4 hs4 hb4 rfl (by decide) (.slice none 0 0) 0 [] rfl (World.ownsRow_nil _ _ _ _) ⟨gf, of, none⟩ fs.length cap1 (cellsB fs) rfl (cellsB_len fs) hnw.out (cellsB_one fs) (by simp only [maxLen]; omega) (by omega) (Nat.le_refl _) ?_; intro v5 w5 own5 gr5 nil5 at5)
            have B5 := Lib.hid (below_grown' (Below.refl wr.heap.size wr) gr5 (fun k e => by simp [Value.ownBlock] at e) (Nat.le_refl _))
            rcases own5.2 with ⟨e, h0⟩ | ⟨g5, cap5, cur, rfl, hBg, hb5, hn5, hcm, hcs, ht⟩
            · omega
            rw [Nat.zero_add, List.nil_append, Nat.mul_one] at ht
            rw [Nat.zero_add] at hn5
            rw [Nat.mul_one] at hcs
            have HB5 := Lib.hid (show Blk w5 g5 4 cur from hb5)
            have HT5 := Lib.hid ht
            clear own5 gr5 nil5 at5 hnw hb5 ht hi4 hz4 hs4 hb4 hcm
            have hum := u64m_bd more (fs.length : Int) (by omega)
            obtain ⟨k, hk⟩ : ∃ k : Nat, (IntKind.u64.wrap more).tmod (fs.length : Int) = (k : Int) := ⟨((IntKind.u64.wrap more).tmod (fs.length : Int)).toNat, by omega⟩
            rw [hk] at hum
            have hkl : k < fs.length := by omega
            have hget : ∀ j, j < fs.length → cur[j]? = some (.bool (fs.getD j false)) := fun j hj => by
              have h1 : (cur.toList.take fs.length)[j]? = some (.bool (fs.getD j false)) := by
                rw [HT5.out]; unfold cellsB
                rw [List.getElem?_map, List.getElem?_eq_getElem hj, List.getD_eq_getElem?_getD, List.getElem?_eq_getElem hj]; rfl
              rw [List.getElem?_take_of_lt hj, Array.getElem?_toList] at h1
              exact h1
            have x5 : w5.cell? ⟨g5, k, none⟩ = some (.bool (fs.getD k false)) := by rw [HB5.out.cell]; exact hget k hkl
            have zx5 := World.block_lt_of_cell? _ _ x5
            have fx5 : w5.frozen? ⟨g5, k, none⟩ = false := HB5.out.frozen k
            have hk0 : (0 : Int) ≤ (k : Int) := by omega
            have hk1 : (k : Int) < (fs.length : Int) := by omega
            have HB6 := Lib.hid (HB5.out.put k (.bool true) rfl)
            have B6 := Lib.hid (below_put (p := ⟨g5, k, none⟩) B5.out hBg (.bool true))
            have HV6 : Hid (RdB (w5.setCell ⟨g5, k, none⟩ (.bool true)) (.slice (some ⟨g5, 0, none⟩) fs.length cap5) (w5.setCell ⟨g5, k, none⟩ (.bool true)).heap.size (fs.set k true)) := Lib.hid (.inr ⟨g5, 0, cap5, by simp, HB6.out.lt, fun j hj => by
              rw [List.length_set] at hj
              rw [Nat.zero_add, HB6.out.cell, List.getD_eq_getElem?_getD, List.getElem?_set]
              by_cases h : k = j
              · subst h
                rw [Array.getElem?_setIfInBounds_self_of_lt (by omega), if_pos rfl, if_pos hkl]; rfl
              · rw [Array.getElem?_setIfInBounds_ne h, hget j hj, if_neg h, List.getD_eq_getElem?_getD]⟩)
            have HU6 : Hid (RdLL (w5.setCell ⟨g5, k, none⟩ (.bool true)) (.slice A fs.length cap) (w5.setCell ⟨g5, k, none⟩ (.bool true)).heap.size LL) := Lib.hid (by
              have := (HU.out.below B6.out (Nat.le_refl _)).wider B6.out.size
              rw [hln] at this; exact this)
            have H2 := Lib.hid (hosts_walk _ _ LL (fs.set k true) _ HU6.out HV6.out (by rw [List.length_set]; exact hfz) hLz HB.out)
            have HW := Lib.hid (fun i => st_worse (LL := LL) hkl i)
            clear hget HB5 HT5
            go_upto_region 28 with (fail)
            clear x5 zx5 fx5
            go_wp2_with (fail)
            refine H2.out.mono ?_
            rintro y w7 ⟨⟨r2, L2, e2, rfl, his2, hrd2, hl2⟩, B7⟩
            obtain ⟨rfl, hL2⟩ := his2.one (hosts_ok (by rw [List.length_set]; exact hln) h1k HRG.out HAC.out)
            have hL2n : L2.length = fs.length := by rw [hL2]; simp [hln]
            have HGET2 := Lib.hid (show ∀ p, p < fs.length → L2.getD p 0 = (stI LL (fs.set k true) p : Int) from fun p hp => by rw [hL2]; exact st_get (by omega))
            obtain ⟨A7, c7, rfl⟩ := hrd2.form
            have HR2 := Lib.hid hrd2
            have B8 := Lib.hid (B6.out.trans (B7.mono B6.out.size))
            have HR1 := Lib.hid ((HR.out.below B8.out (Nat.le_refl _)).wider B8.out.size)
            have hen2 : ((fs.length : Int) != (fs.length : Int)) = false := by simp
            clear his2 hrd2 B7 H2 hL2 HU6 HV6 HB6 B6 B5
            rw [errI_zero, hL2n]
            go_upto_region 32 with (fail)
            go_loopw [16] (fun iv w9 => ∃ i : Nat, iv = .int .i64 i ∧ i ≤ fs.length ∧ w9 = w7) (fun iv _ => fs.length - (intOf iv).toNat)
            case atStart => exact ⟨0, rfl, Nat.zero_le _, rfl⟩
            case round =>
              obtain ⟨w9, rfl⟩ : ∃ Z, Z = wr := ⟨_, rfl⟩
              obtain ⟨i, rfl, hi, hw9⟩ := hrel
              subst hw9
              have i0 : (0 : Int) ≤ i := by omega
              by_cases hlt : i < fs.length
              · have hlt' : (i : Int) < (fs.length : Int) := by omega
                obtain ⟨ga, oa, e1, q1⟩ := HR1.out.cell (i := i) (by omega)
                obtain ⟨gb, ob, e2, q2⟩ := HR2.out.cell (i := i) (by omega)
                subst e1 e2
                rw [HGET.out i (by omega)] at q1
                rw [HGET2.out i hlt] at q2
                have zq1 := World.block_lt_of_cell? _ _ q1
                have zq2 := World.block_lt_of_cell? _ _ q2
                obtain ⟨hw1, hw2⟩ := HW.out i
                generalize stI LL fs i = a at *
                generalize stI LL (fs.set k true) i = b at *
                by_cases ha0 : a = 0
                · subst ha0
                  have f1 : (((0 : Nat) : Int) != 0) = false := by decide
                  have f2 : (((0 : Nat) : Int) == 3) = false := by decide
                  clear hw1 hw2
                  go_wp2_with (fail)
                  go_roundw
                  case rel => exact ⟨i + 1, by go_num, by omega, by first | rfl | trivial⟩
                  case measure => simp [intOf]; omega
                · have hb0 := hw1 ha0
                  have f1 : ((a : Int) != 0) = true := by simp; omega
                  have f2 : ((b : Int) == 0) = false := beq_eq_false_iff_ne.2 (by omega)
                  by_cases ha3 : a = 3
                  · have hb3 := hw2 ha3
                    subst ha3 hb3
                    have f3 : (((3 : Nat) : Int) == 3) = true := by decide
                    have f4 : (((3 : Nat) : Int) != 3) = false := by decide
                    clear hw1 hw2
                    go_wp2_with (fail)
                    go_roundw
                    case rel => exact ⟨i + 1, by go_num, by omega, by first | rfl | trivial⟩
                    case measure => simp [intOf]; omega
                  · have f3 : ((a : Int) == 3) = false := beq_eq_false_iff_ne.2 (by omega)
                    clear hw1 hw2
                    go_wp2_with (fail)
                    go_roundw
                    case rel => exact ⟨i + 1, by go_num, by omega, by first | rfl | trivial⟩
                    case measure => simp [intOf]; omega
              · have hie : ¬ (i : Int) < (fs.length : Int) := by omega
                have B9 := Lib.hid (below_trans BH2.out B8.out)
                go_wp2_with (fail)
                refine (sure_walk _).mono ?_
                rintro y w10 ⟨rfl, B10⟩
                have B11 := below_trans B9.out B10
                go_wp2
                go_ret
                exact ⟨rfl, B11⟩
    · have hL := his.err he
      subst hL
      obtain ⟨A2, c2, rfl⟩ := hrd.form
      have heI : errI e = .iface 35 (.int .i64 e) := if_neg he
      rw [heI]
      clear his hrd he
      go_wp2_with (fail)
      refine (sure_walk _).mono ?_
      rintro y w3 ⟨rfl, B3⟩
      have B4 := below_trans BH2.out B3
      go_wp2
      go_ret
      exact ⟨rfl, B4⟩
end Go.Proofs.Ytbnnbhblfclomaa
