/- For every most and every list of numbers, the law StateCounts answers true: a hard problem comes with just the most-th result that is not 0, a recovery with the first 0 behind a problem. No condition. -/
import Derived.Test.YtimibkjjcnpkjaaOpen
import Derived.Test.YtimibkjjcnpkjaaAid
namespace Go.Proofs.Ytimibkjjcnpkjaa
section
open Go.RowKit

def badOK (S : St) (m bad : Int) : Prop := okS S m ∧ 0 ≤ bad ∧ ((bad = 0 ∧ S.s = 0) ∨ (0 < bad ∧ bad < m ∧ S.s ≠ 0 ∧ S.h = false ∧ S.a = bad) ∨ (0 < bad ∧ m ≤ bad ∧ S.s ≠ 0 ∧ S.h = true))
theorem counts_zero {S : St} {m bad tm : Int} (hb : badOK S m bad) (hr : okR 0 tm) :
    badOK (resF S m 0 tm).1 m 0 ∧ (resF S m 0 tm).1.s = 0 ∧ (resF S m 0 tm).2 = (if bad ≤ 0 then 0 else if bad < m then 3 else 4) := by
  obtain ⟨hs, h0, h1⟩ := hb
  obtain ⟨k1, k2, _⟩ := resF_ok hs hr
  refine ⟨⟨k1, Int.le_refl _, Or.inl ⟨rfl, k2⟩⟩, k2, ?_⟩
  unfold resF
  rw [if_pos ⟨hs, hr⟩]
  unfold resG
  rw [if_pos rfl]
  rcases h1 with ⟨a, b⟩ | ⟨a, b, c, d, e⟩ | ⟨a, b, c, d⟩
  · have e : bad ≤ 0 := by omega
    simp [b, e]
  · have e1 : ¬ bad ≤ 0 := by omega
    simp [c, d, e1, b]
  · have e1 : ¬ bad ≤ 0 := by omega
    have e2 : ¬ bad < m := by omega
    simp [c, d, e1, e2]
theorem counts_more {S : St} {m bad st tm : Int} (hb : badOK S m bad) (hr : okR st tm) (h0 : st ≠ 0) :
    badOK (resF S m st tm).1 m (bad + 1) ∧ (resF S m st tm).1.s = st ∧ (resF S m st tm).1.h = decide (m ≤ bad + 1) ∧
      (resF S m st tm).2 = (if bad + 1 < m then 1 else if bad + 1 = m then 2 else if st = S.s then 0 else 5) := by
  obtain ⟨hs, hb0, h1⟩ := hb
  obtain ⟨k1, k2, _⟩ := resF_ok hs hr
  have hm : 1 ≤ m := hs.1
  have e : (resF S m st tm).1.h = decide (m ≤ bad + 1) ∧ ((resF S m st tm).1.h = false → (resF S m st tm).1.a = bad + 1) ∧
      (resF S m st tm).2 = (if bad + 1 < m then 1 else if bad + 1 = m then 2 else if st = S.s then 0 else 5) := by
    unfold resF
    rw [if_pos ⟨hs, hr⟩]
    unfold resG
    rw [if_neg h0]
    rcases h1 with ⟨a, b⟩ | ⟨a, b, c, d, e⟩ | ⟨a, b, c, d⟩
    · subst a
      rw [if_neg (fun h => h.2 b)]
      by_cases h : (1 : Int) < m
      · have h2 : ¬ m ≤ 1 := by omega
        simp [b, h, h2]
      · have h2 : m = 1 := by omega
        subst h2
        simp [b]
    · rw [if_neg (fun h => by rw [d] at h; exact absurd h.1 (by simp))]
      by_cases h : bad + 1 < m
      · have h2 : ¬ m ≤ bad + 1 := by omega
        simp [c, e, h, h2]
      · have h2 : m = bad + 1 := by omega
        subst h2
        simp [c, e]
    · have h2 : ¬ bad + 1 < m := by omega
      have h3 : ¬ bad + 1 = m := by omega
      have h4 : m ≤ bad + 1 := by omega
      rw [if_pos ⟨d, c⟩]
      by_cases he : st = S.s
      · simp [he, h2, h3, h4, d]
      · simp [he, h2, h3, h4]
  obtain ⟨e1, e2, e3⟩ := e
  refine ⟨⟨k1, by omega, ?_⟩, k2, e1, e3⟩
  by_cases h : bad + 1 < m
  · have hf : (resF S m st tm).1.h = false := by rw [e1]; simp; omega
    exact Or.inr (Or.inl ⟨by omega, h, by rw [k2]; exact h0, hf, e2 hf⟩)
  · exact Or.inr (Or.inr ⟨by omega, by omega, by rw [k2]; exact h0, by rw [e1]; simp; omega⟩)
set_option maxRecDepth 100000 in
set_option maxHeartbeats 8000000 in
theorem counts_walk (most : Int) (A : Option Addr) (n cap : Nat) (xs : List Int) (w : World) (hi : Ints w A n xs) :
    Calls Try.prog 4 #[.int .i64 most, .slice A n cap] w fun e w' => e = .returned (.bool true) ∧ Below w.heap.size w w' := by
  obtain ⟨q1, q2⟩ := u64m_bd most 12 (by decide)
  have hn := hi.2.1
  have HI := Lib.hid hi; clear hi
  go_enter Try.func4, Try.ntmps4
  go_upto_region 2 with (fail)
  obtain ⟨m, hm⟩ : ∃ m, m = 1 + (IntKind.u64.wrap most).tmod 12 := ⟨_, rfl⟩
  rw [← hm]
  have hm1 : 1 ≤ m := by omega
  have hm2 : m ≤ 12 := by omega
  clear hm q1 q2
  go_wp2_with (fail)
  refine (start_walk _).mono ?_
  rintro e w1 ⟨rfl, hb1⟩
  have p1 := Blk.new w1 25 #[.int .i64 0, .bool true, .int .i64 1, .int .i64 0, .int .i64 0]
  have B1 := below_al hb1 (.cells #[.int .i64 0, .bool true, .int .i64 1, .int .i64 0, .int .i64 0] 25)
  have hg : w.heap.size ≤ w1.heap.size := hb1.size
  have P1 := Lib.hid p1; clear p1
  go_wp2_with (fail)
  generalize hW : w1.alloc (Obj.cells #[Value.int IntKind.i64 0, Value.bool true, Value.int IntKind.i64 1, Value.int IntKind.i64 0, Value.int IntKind.i64 0] 25) = W at *
  generalize w1.heap.size = g at *
  clear hW hb1
  go_loopw [7, 8, 9, 10, 11, 12] (fun bd i _ _ _ _ wr => ∃ (k : Nat) (S : St) (bad : Int), k ≤ n ∧ bad ≤ k ∧ i = .int .i64 k ∧ bd = .int .i64 bad ∧ Blk wr g 25 #[.int .i64 S.s, .bool S.h, .int .i64 S.a, .int .i64 S.l, .int .i64 S.t] ∧ badOK S m bad ∧ Below w.heap.size w wr) (fun _ i _ _ _ _ _ => n - (intOf i).toNat)
  case atStart => exact ⟨0, ⟨0, true, 1, 0, 0⟩, 0, by omega, by omega, rfl, rfl, P1.out, ⟨⟨by omega, by omega, by decide, by decide, by decide, by decide, Or.inl ⟨rfl, rfl, rfl, rfl⟩⟩, by omega, Or.inl ⟨rfl, rfl⟩⟩, B1⟩
  case round =>
    obtain ⟨k, ⟨s, h, a, l, t⟩, bad, hk, hbk, rfl, rfl, hblk, hok, hbel⟩ := hrel
    dsimp only at hblk hok
    by_cases hlt : k < n
    · by_cases h200 : k < 200
      · obtain ⟨ad, rfl, hcell⟩ := (HI.out.below hbel).at hlt
        generalize xs.getD k 0 = x at hcell
        obtain ⟨u1, u2⟩ := u64m_bd x 4 (by decide)
        have k0 : (0 : Int) ≤ k := by omega
        have hbad0 : 0 ≤ bad := hok.2.1
        have HB := Lib.hid hblk
        have HOK := Lib.hid hok
        obtain ⟨⟨c0, c1, c2, c3, c4⟩, ⟨f0, f1, f2, f3, f4⟩, zl⟩ := blk5 hblk
        clear hblk hok
        go_upto_region 8 with (fail)
        generalize hst : (IntKind.u64.wrap x).tmod 4 = st at *
        clear hst
        have hr : okR st k := by unfold okR; omega
        by_cases e0 : st = 0
        · subst e0
          have HR := Lib.hid (counts_zero HOK.out hr)
          clear hr
          go_wp2_with (fail)
          refine (result_walk s h a l t m 0 k _).mono ?_
          rintro e w2 ⟨rfl, hb2⟩
          have b2 := HB.out.below hb2
          have B2 := below_trans hbel hb2
          clear c0 c1 c2 c3 c4 f0 f1 f2 f3 f4 zl HB hbel hb2
          generalize resF ⟨s, h, a, l, t⟩ m 0 k = R at *
          obtain ⟨⟨s', h', a', l', t'⟩, what⟩ := R
          obtain ⟨ok', es, hwh⟩ := HR.out
          dsimp only at es hwh
          subst es
          unfold stV
          have hc := fun w => check_ok 0 h' a' l' t' m w ok'.1
          have HC := Lib.hid hc; clear hc
          have OK' := Lib.hid ok'; clear ok' HR HOK
          have n2 := b2.alloc (.cells #[.int .i64 0, .bool h', .int .i64 a', .int .i64 l', .int .i64 t'] 25)
          have m2 := Blk.new w2 25 #[.int .i64 0, .bool h', .int .i64 a', .int .i64 l', .int .i64 t']
          have B3 := below_al B2 (.cells #[.int .i64 0, .bool h', .int .i64 a', .int .i64 l', .int .i64 t'] 25)
          have gne : g ≠ w2.heap.size := by have := b2.lt; omega
          have N2 := Lib.hid n2; have M2 := Lib.hid m2; clear n2 m2 b2 B2
          have HWH := Lib.hid hwh; clear hwh
          go_wp2_with (fail)
          refine (HC.out _).mono ?_
          rintro e w3 ⟨rfl, hb3⟩
          have n3 := N2.out.below hb3
          have m3 := M2.out.below hb3
          have B4 := below_trans B3 hb3
          clear B3 hb3 N2 M2
          generalize w2.heap.size = g2 at *
          obtain ⟨⟨c0, c1, c2, c3, c4⟩, ⟨f0, f1, f2, f3, f4⟩, zl⟩ := blk5 m3
          have N3 := Lib.hid n3; have M3 := Lib.hid m3; clear n3 m3
          by_cases z1 : bad ≤ 0
          · obtain rfl : bad = 0 := by omega
            obtain rfl : what = 0 := by rw [HWH.out]; simp
            go_wp2_with (fail)
            refine (prob_walk 0 h' a' l' t' _).mono ?_
            rintro e w4 ⟨rfl, hb4⟩
            have n4 := N3.out.below hb4
            have m4 := M3.out.below hb4
            have B5 := below_trans B4 hb4
            clear c0 c1 c2 c3 c4 f0 f1 f2 f3 f4 zl hb4 B4
            obtain ⟨⟨c0, c1, c2, c3, c4⟩, _, zl⟩ := blk5 m4
            obtain ⟨⟨d0, d1, d2, d3, d4⟩, ⟨f0, f1, f2, f3, f4⟩, zg⟩ := blk5 n4
            have N4 := Lib.hid n4; clear n4 m4
            go_wp2
            go_roundw
            case rel => exact ⟨k + 1, ⟨0, h', a', l', t'⟩, 0, by omega, by omega, by go_num, rfl, blk_put5 N4.out, OK'.out, below_put5 B5 hg⟩
            case measure => simp [intOf]; omega
          · by_cases z2 : bad < m
            · obtain rfl : what = 3 := by rw [HWH.out, if_neg z1, if_pos z2]
              go_wp2_with (fail)
              refine (prob_walk 0 h' a' l' t' _).mono ?_
              rintro e w4 ⟨rfl, hb4⟩
              have n4 := N3.out.below hb4
              have m4 := M3.out.below hb4
              have B5 := below_trans B4 hb4
              clear c0 c1 c2 c3 c4 f0 f1 f2 f3 f4 zl hb4 B4
              obtain ⟨⟨c0, c1, c2, c3, c4⟩, _, zl⟩ := blk5 m4
              obtain ⟨⟨d0, d1, d2, d3, d4⟩, ⟨f0, f1, f2, f3, f4⟩, zg⟩ := blk5 n4
              have N4 := Lib.hid n4; clear n4 m4
              go_wp2
              go_roundw
              case rel => exact ⟨k + 1, ⟨0, h', a', l', t'⟩, 0, by omega, by omega, by go_num, rfl, blk_put5 N4.out, OK'.out, below_put5 B5 hg⟩
              case measure => simp [intOf]; omega
            · obtain rfl : what = 4 := by rw [HWH.out, if_neg z1, if_neg z2]
              go_wp2_with (fail)
              refine (prob_walk 0 h' a' l' t' _).mono ?_
              rintro e w4 ⟨rfl, hb4⟩
              have n4 := N3.out.below hb4
              have m4 := M3.out.below hb4
              have B5 := below_trans B4 hb4
              clear c0 c1 c2 c3 c4 f0 f1 f2 f3 f4 zl hb4 B4
              obtain ⟨⟨c0, c1, c2, c3, c4⟩, _, zl⟩ := blk5 m4
              obtain ⟨⟨d0, d1, d2, d3, d4⟩, ⟨f0, f1, f2, f3, f4⟩, zg⟩ := blk5 n4
              have N4 := Lib.hid n4; clear n4 m4
              go_wp2
              go_roundw
              case rel => exact ⟨k + 1, ⟨0, h', a', l', t'⟩, 0, by omega, by omega, by go_num, rfl, blk_put5 N4.out, OK'.out, below_put5 B5 hg⟩
              case measure => simp [intOf]; omega
        · have b0 : (st == 0) = false := beq_eq_false_iff_ne.2 e0
          have HR := Lib.hid (counts_more HOK.out hr e0)
          clear hr
          go_wp2_with (fail)
          refine (result_walk s h a l t m st k _).mono ?_
          rintro e w2 ⟨rfl, hb2⟩
          have b2 := HB.out.below hb2
          have B2 := below_trans hbel hb2
          clear c0 c1 c2 c3 c4 f0 f1 f2 f3 f4 zl HB hbel hb2
          generalize resF ⟨s, h, a, l, t⟩ m st k = R at *
          obtain ⟨⟨s', h', a', l', t'⟩, what⟩ := R
          obtain ⟨ok', es, eh, hwh⟩ := HR.out
          dsimp only at es eh hwh
          subst es
          unfold stV
          have hc := fun w => check_ok s' h' a' l' t' m w ok'.1
          have HC := Lib.hid hc; clear hc
          have OK' := Lib.hid ok'; clear ok' HR HOK
          have EH := Lib.hid eh; clear eh
          have n2 := b2.alloc (.cells #[.int .i64 s', .bool h', .int .i64 a', .int .i64 l', .int .i64 t'] 25)
          have m2 := Blk.new w2 25 #[.int .i64 s', .bool h', .int .i64 a', .int .i64 l', .int .i64 t']
          have B3 := below_al B2 (.cells #[.int .i64 s', .bool h', .int .i64 a', .int .i64 l', .int .i64 t'] 25)
          have gne : g ≠ w2.heap.size := by have := b2.lt; omega
          have N2 := Lib.hid n2; have M2 := Lib.hid m2; clear n2 m2 b2 B2
          have HWH := Lib.hid hwh; clear hwh
          go_wp2_with (fail)
          refine (HC.out _).mono ?_
          rintro e w3 ⟨rfl, hb3⟩
          have n3 := N2.out.below hb3
          have m3 := M2.out.below hb3
          have B4 := below_trans B3 hb3
          clear B3 hb3 N2 M2
          generalize w2.heap.size = g2 at *
          obtain ⟨⟨c0, c1, c2, c3, c4⟩, ⟨f0, f1, f2, f3, f4⟩, zl⟩ := blk5 m3
          obtain ⟨⟨d0, d1, d2, d3, d4⟩, ⟨g0, g1, g2', g3, g4⟩, zg⟩ := blk5 n3
          have N3 := Lib.hid n3; have M3 := Lib.hid m3; clear n3 m3
          have cn : (decide (s' ≠ 0)) = true := decide_eq_true e0
          by_cases z1 : bad + 1 < m
          · obtain rfl : what = 1 := by rw [HWH.out, if_pos z1]
            obtain rfl : h' = false := by rw [EH.out]; simp; omega
            have y1 : (bad + 1 == m) = false := beq_eq_false_iff_ne.2 (by omega)
            have y2 : decide (m ≤ bad + 1) = false := decide_eq_false (by omega)
            have y3 : decide (m < bad + 1) = false := decide_eq_false (by omega)
            go_wp2_with (fail)
            refine (prob_walk s' false a' l' t' _).mono ?_
            rintro e w4 ⟨rfl, hb4⟩
            have n4 := N3.out.below hb4
            have m4 := M3.out.below hb4
            have B5 := below_trans B4 hb4
            clear c0 c1 c2 c3 c4 f0 f1 f2 f3 f4 zl hb4 B4
            obtain ⟨⟨c0, c1, c2, c3, c4⟩, _, zl⟩ := blk5 m4
            obtain ⟨⟨d0, d1, d2, d3, d4⟩, ⟨f0, f1, f2, f3, f4⟩, zg⟩ := blk5 n4
            have N4 := Lib.hid n4; clear n4 m4
            go_wp2
            go_roundw
            case rel => exact ⟨k + 1, ⟨s', false, a', l', t'⟩, bad + 1, by omega, by omega, by go_num, rfl, blk_put5 N4.out, OK'.out, below_put5 B5 hg⟩
            case measure => simp [intOf]; omega
          · by_cases z2 : bad + 1 = m
            · obtain rfl : what = 2 := by rw [HWH.out, if_neg z1, if_pos z2]
              obtain rfl : h' = true := by rw [EH.out]; simp; omega
              have y1 : (bad + 1 == m) = true := beq_iff_eq.2 z2
              have y2 : decide (m ≤ bad + 1) = true := decide_eq_true (by omega)
              have y3 : decide (m < bad + 1) = false := decide_eq_false (by omega)
              have Z2 := Lib.hid z2; clear z2
              go_wp2_with (fail)
              refine (prob_walk s' true a' l' t' _).mono ?_
              rintro e w4 ⟨rfl, hb4⟩
              have n4 := N3.out.below hb4
              have m4 := M3.out.below hb4
              have B5 := below_trans B4 hb4
              clear c0 c1 c2 c3 c4 f0 f1 f2 f3 f4 zl hb4 B4
              obtain ⟨⟨c0, c1, c2, c3, c4⟩, _, zl⟩ := blk5 m4
              obtain ⟨⟨d0, d1, d2, d3, d4⟩, ⟨f0, f1, f2, f3, f4⟩, zg⟩ := blk5 n4
              have N4 := Lib.hid n4; clear n4 m4
              go_wp2
              go_roundw
              case rel => exact ⟨k + 1, ⟨s', true, a', l', t'⟩, bad + 1, by omega, by omega, by go_num, rfl, blk_put5 N4.out, OK'.out, below_put5 B5 hg⟩
              case measure => simp [intOf]; omega
            · obtain rfl : h' = true := by rw [EH.out]; simp; omega
              have y1 : (bad + 1 == m) = false := beq_eq_false_iff_ne.2 z2
              have y2 : decide (m ≤ bad + 1) = true := decide_eq_true (by omega)
              have y3 : decide (m < bad + 1) = true := decide_eq_true (by omega)
              by_cases e2 : s' = s
              · subst e2
                obtain rfl : what = 0 := by rw [HWH.out, if_neg z1, if_neg z2, if_pos rfl]
                go_wp2_with (fail)
                refine (prob_walk s' true a' l' t' _).mono ?_
                rintro e w4 ⟨rfl, hb4⟩
                have n4 := N3.out.below hb4
                have m4 := M3.out.below hb4
                have B5 := below_trans B4 hb4
                clear c0 c1 c2 c3 c4 f0 f1 f2 f3 f4 zl hb4 B4
                obtain ⟨⟨c0, c1, c2, c3, c4⟩, _, zl⟩ := blk5 m4
                obtain ⟨⟨d0, d1, d2, d3, d4⟩, ⟨f0, f1, f2, f3, f4⟩, zg⟩ := blk5 n4
                have N4 := Lib.hid n4; clear n4 m4
                go_wp2
                go_roundw
                case rel => exact ⟨k + 1, ⟨s', true, a', l', t'⟩, bad + 1, by omega, by omega, by go_num, rfl, blk_put5 N4.out, OK'.out, below_put5 B5 hg⟩
                case measure => simp [intOf]; omega
              · have y4 : (s' != s) = true := bne_iff_ne.2 e2
                obtain rfl : what = 5 := by rw [HWH.out, if_neg z1, if_neg z2, if_neg e2]
                go_wp2_with (fail)
                refine (prob_walk s' true a' l' t' _).mono ?_
                rintro e w4 ⟨rfl, hb4⟩
                have n4 := N3.out.below hb4
                have m4 := M3.out.below hb4
                have B5 := below_trans B4 hb4
                clear c0 c1 c2 c3 c4 f0 f1 f2 f3 f4 zl hb4 B4
                obtain ⟨⟨c0, c1, c2, c3, c4⟩, _, zl⟩ := blk5 m4
                obtain ⟨⟨d0, d1, d2, d3, d4⟩, ⟨f0, f1, f2, f3, f4⟩, zg⟩ := blk5 n4
                have N4 := Lib.hid n4; clear n4 m4
                go_wp2
                go_roundw
                case rel => exact ⟨k + 1, ⟨s', true, a', l', t'⟩, bad + 1, by omega, by omega, by go_num, rfl, blk_put5 N4.out, OK'.out, below_put5 B5 hg⟩
                case measure => simp [intOf]; omega
      · go_wp2_with (fail)
        refine (sure_walk _).mono ?_
        rintro e w5 ⟨rfl, hb5⟩
        go_wp2
        go_ret
        exact ⟨rfl, below_trans hbel hb5⟩
    · go_wp2_with (fail)
      refine (sure_walk _).mono ?_
      rintro e w5 ⟨rfl, hb5⟩
      go_wp2
      go_ret
      exact ⟨rfl, below_trans hbel hb5⟩
end
section
open Go.ChangeShapes Go.WideShapes Go.ChangeAt Go.RowKit Go.Joins
set_option linter.unusedVariables false
theorem stateCounts_own : ownKnob Try.prog.godebug = none := by kernel_rfl
set_option maxRecDepth 100000 in
theorem stateCounts_lifted (os : Os) (started : os.Started) (H : Type) (enc : TypeId × Value → H) :
    ReturnsInHanded {} Try.checked os 4 .any (Rows.stateCountsSpec.pre6 enc Try.prog Try.f4 Rows.stateCountsRow.domain false) (Rows.stateCountsSpec.post enc Try.prog Try.f4 false true false false) := by
  refine returnsInHanded_of_change_sized (C := Try.checked) stateCounts_own started (by kernel_rfl) Try.func4
    (ChangeSpec.witness6 (enc := enc) (C := Try.checked) false ⟨#[], #[.int .i64 0, .slice none 0 0], []⟩ 8 (by kernel_rfl) (by kernel_rfl) (by kernel_rfl) (by kernel_rfl)) ?_
  intro W base args ds gs before hval0 hW hcnd hsz0 _
  have hval : ∀ (j : Nat) t v, Try.f4.params[j]? = some t → args[j]? = some v → Value.okWide Try.prog W .any base t v := hval0
  have hW' := hW
  obtain ⟨p, q, hA0, hV, rfl, hfz, hnd⟩ := hW
  have hA : DataW.TrodAll enc Try.prog W 0 (fun _ => true) true Try.f4.params.toList args.toList ds p := hA0
  rw [Try.params4] at hA hval
  obtain ⟨v0, vs0, d0, ds0, p0, q0, hargs0, rfl, rfl, h0, r0⟩ := trodAll_cons hA
  obtain ⟨v1, vs1, d1, ds1, p1, q1, hargs1, rfl, rfl, h1, r1⟩ := trodAll_cons r0
  obtain ⟨rfl, rfl, rfl⟩ := trodAll_nil r1
  obtain rfl : args = #[v0, v1] := by cases args; simp_all
  obtain ⟨rfl, rfl⟩ := trodVars_none hV
  obtain ⟨a0, rfl, rfl, rfl, w0⟩ := open_int Try.underlying3 (hval 0 3 v0 rfl rfl) h0
  obtain ⟨b0, c0⟩ := wf_i64 w0
  obtain ⟨a1, len1, cap1, rfl⟩ := okWide_slice Try.underlying35 (hval 1 35 v1 rfl rfl)
  have k1 := h1
  have lt1 : ∀ x ∈ p1, x.block < W.heap.size := by obtain ⟨m, hm⟩ := k1; exact DataW.trod_lt m _ _ _ hm
  obtain ⟨x1, i1⟩ := ints_of Try.underlying35 Try.underlying3 (by kernel_rfl) h1
  clear hA0 hval0 hsz0
  refine (counts_walk a0 a1 len1 cap1 x1 W i1).mono fun e W' ⟨he, bel⟩ => ?_
  subst he
  exact ⟨_, rfl, _, _, _, [], _, [], hW', trodAll_mk1 (shut_bool Try.underlying4 _), (trodAll_cons_mk (shut_int Try.underlying3 w0) (trodAll_cons_mk (Below.trod laidOut (by kernel_rfl) (of_decide_eq_true (by kernel_rfl)) k1 bel lt1) trodAll_mk0)), rfl, bel.frame _, fun h => by cases h⟩
theorem stateCounts_holds : Rows.StateCountsSaid :=
  OpenClaim.holds_of_wide 4 Try.f4 rfl rfl rfl rfl rfl rfl rfl ⟨rfl, rfl, rfl, rfl, rfl⟩ rfl rfl rfl rfl rfl (by kernel_rfl) Try.func4 (by kernel_rfl)
    (of_decide_eq_true (by kernel_rfl)) (by unfold Func.isWrapper; first | (rw [if_pos (by decide +kernel)]; kernel_rfl) | (rw [if_neg (by decide +kernel)]; exact ⟨rfl, rfl⟩))
    (fun os started H enc _ => stateCounts_lifted os started H enc)
#print axioms stateCounts_holds
end
end Go.Proofs.Ytimibkjjcnpkjaa
