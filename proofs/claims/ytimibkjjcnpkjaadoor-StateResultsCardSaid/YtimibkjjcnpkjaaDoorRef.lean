/- The document's Result, walked. -/
import Derived.Test.YtimibkjjcnpkjaaDoorState
namespace Go.Proofs.YtimibkjjcnpkjaaDoor
open Go.RowKit
set_option linter.unusedVariables false

set_option maxHeartbeats 4000000 in
theorem may_no (s : Int) (h : Bool) (a l t m : Int) (w : World) (hb : ¬ okS ⟨s, h, a, l, t⟩ m) : Calls Tryd.prog 7 #[.agg #[.int .i64 s, .bool h, .int .i64 a, .int .i64 l, .int .i64 t], .int .i64 m] w fun e w' => e = .returned (.bool false) ∧ Below w.heap.size w w' := by
  have H := Lib.hid hb; clear hb
  cases h
  all_goals
    go_enter Tryd.func7, Tryd.ntmps7
    go_wp2
    all_goals first
      | (go_ret; exact ⟨rfl, (Below.refl _ _).alloc (Nat.le_refl _) _⟩)
      | (exfalso; apply H.out; unfold okS; simp_all; done)
      | (exfalso; apply H.out; unfold okS; simp_all; omega)
      | (go_ret; refine ⟨ret_bool (Bool.eq_false_iff.2 fun hh => ?_), (Below.refl _ _).alloc (Nat.le_refl _) _⟩; apply H.out; unfold okS; simp_all; done)
      | (go_ret; refine ⟨ret_bool (Bool.eq_false_iff.2 fun hh => ?_), (Below.refl _ _).alloc (Nat.le_refl _) _⟩; apply H.out; unfold okS; simp_all; omega)
set_option maxHeartbeats 4000000 in
theorem may_yes (s : Int) (h : Bool) (a l t m : Int) (w : World) (hb : okS ⟨s, h, a, l, t⟩ m) : Calls Tryd.prog 7 #[.agg #[.int .i64 s, .bool h, .int .i64 a, .int .i64 l, .int .i64 t], .int .i64 m] w fun e w' => e = .returned (.bool true) ∧ Below w.heap.size w w' := by
  have H := Lib.hid hb; clear hb
  cases h
  all_goals
    go_enter Tryd.func7, Tryd.ntmps7
    go_wp2
    all_goals first
      | (go_ret; exact ⟨rfl, (Below.refl _ _).alloc (Nat.le_refl _) _⟩)
      | (exfalso; have H2 := H.out; unfold okS at H2; simp_all; done)
      | (exfalso; have H2 := H.out; unfold okS at H2; simp_all; omega)
      | (go_ret; refine ⟨ret_bool ?_, (Below.refl _ _).alloc (Nat.le_refl _) _⟩; have H2 := H.out; unfold okS at H2; simp_all; done)
      | (go_ret; refine ⟨ret_bool ?_, (Below.refl _ _).alloc (Nat.le_refl _) _⟩; have H2 := H.out; unfold okS at H2; simp_all; omega)

set_option maxHeartbeats 2000000 in
theorem rres_bad (s : Int) (h : Bool) (a l t m st tm : Int) (w : World) (hb : ¬ (okS ⟨s, h, a, l, t⟩ m ∧ okR st tm)) : Calls Tryd.prog 5 #[.agg #[.int .i64 s, .bool h, .int .i64 a, .int .i64 l, .int .i64 t], .int .i64 m, .int .i64 st, .int .i64 tm] w fun e w' => e = .returned (.tuple #[.agg #[.int .i64 s, .bool h, .int .i64 a, .int .i64 l, .int .i64 t], .int .i64 0]) ∧ Below w.heap.size w w' := by
  by_cases hs : okS ⟨s, h, a, l, t⟩ m
  · have hr : ¬ okR st tm := fun h => hb ⟨hs, h⟩
    have HC := Lib.hid (fun w => may_yes s h a l t m w hs)
    have HR := Lib.hid hr
    clear hb hs hr
    go_enter Tryd.func5, Tryd.ntmps5
    go_wp2_with (fail)
    refine (HC.out _).mono ?_
    rintro e w1 ⟨rfl, hb1⟩
    have k5 := ((Blk.new w 23 #[.int .i64 s, .bool h, .int .i64 a, .int .i64 l, .int .i64 t]).alloc (.cells #[.int .i64 0, .bool false, .int .i64 0, .int .i64 0, .int .i64 0] 23)).below hb1
    have k6 := (Blk.new1 w (.cells #[.int .i64 s, .bool h, .int .i64 a, .int .i64 l, .int .i64 t] 23) 23 #[.int .i64 0, .bool false, .int .i64 0, .int .i64 0, .int .i64 0]).below hb1
    have hB := below_trans (((Below.refl w.heap.size w).alloc (Nat.le_refl _) _).alloc (by simp) _) hb1
    obtain ⟨⟨c0, c1, c2, c3, c4⟩, ⟨f0, f1, f2, f3, f4⟩, z1⟩ := blk5 k5
    obtain ⟨⟨d0, d1, d2, d3, d4⟩, ⟨g0, g1, g2, g3, g4⟩, z2⟩ := blk5 k6
    have K6 := Lib.hid k6; clear k5 k6
    go_upto_region 3 with (fail)
    all_goals first
      | (refine bodyPost_ret (v := .tuple #[.agg #[.int .i64 s, .bool h, .int .i64 a, .int .i64 l, .int .i64 t], .int .i64 0]) (res_cell_tmp (p := 8) (u := 9) rfl _ _ (w.heap.size + 1) 23 _ _ rfl (blk_put5 K6.out) Tryd.underlying23 rfl (by kernel_rfl)) rfl ⟨rfl, below_put5 hB (by omega)⟩)
      | (exfalso; apply HR.out; unfold okR; simp_all; done)
      | (exfalso; apply HR.out; unfold okR; simp_all; omega)
  · have HC := Lib.hid (fun w => may_no s h a l t m w hs)
    clear hb hs
    go_enter Tryd.func5, Tryd.ntmps5
    go_wp2_with (fail)
    refine (HC.out _).mono ?_
    rintro e w1 ⟨rfl, hb1⟩
    have k5 := ((Blk.new w 23 #[.int .i64 s, .bool h, .int .i64 a, .int .i64 l, .int .i64 t]).alloc (.cells #[.int .i64 0, .bool false, .int .i64 0, .int .i64 0, .int .i64 0] 23)).below hb1
    have k6 := (Blk.new1 w (.cells #[.int .i64 s, .bool h, .int .i64 a, .int .i64 l, .int .i64 t] 23) 23 #[.int .i64 0, .bool false, .int .i64 0, .int .i64 0, .int .i64 0]).below hb1
    have hB := below_trans (((Below.refl w.heap.size w).alloc (Nat.le_refl _) _).alloc (by simp) _) hb1
    obtain ⟨⟨c0, c1, c2, c3, c4⟩, ⟨f0, f1, f2, f3, f4⟩, z1⟩ := blk5 k5
    obtain ⟨⟨d0, d1, d2, d3, d4⟩, ⟨g0, g1, g2, g3, g4⟩, z2⟩ := blk5 k6
    have K6 := Lib.hid k6; clear k5 k6
    go_wp2
    refine bodyPost_ret (v := .tuple #[.agg #[.int .i64 s, .bool h, .int .i64 a, .int .i64 l, .int .i64 t], .int .i64 0]) (res_cell_tmp (p := 8) (u := 9) rfl _ _ (w.heap.size + 1) 23 _ _ rfl (blk_put5 K6.out) Tryd.underlying23 rfl (by kernel_rfl)) rfl ⟨rfl, below_put5 hB (by omega)⟩

set_option maxHeartbeats 2000000 in
theorem rres_A (t m tm : Int) (w : World) (hs : okS ⟨0, true, 1, 0, t⟩ m) (hr : okR 0 tm)   :
    Calls Tryd.prog 5 #[.agg #[.int .i64 0, .bool true, .int .i64 1, .int .i64 0, .int .i64 t], .int .i64 m, .int .i64 0, .int .i64 tm] w fun e w' => e = .returned (.tuple #[.agg #[.int .i64 0, .bool true, .int .i64 1, .int .i64 0, .int .i64 t], .int .i64 0]) ∧ Below w.heap.size w w' := by
  obtain ⟨r1, r2, r3, r4⟩ := okR_facts hr
  have HC := Lib.hid (fun w => may_yes 0 true 1 0 t m w hs)
  clear hs hr
  go_enter Tryd.func5, Tryd.ntmps5
  go_wp2_with (fail)
  refine (HC.out _).mono ?_
  rintro e w1 ⟨rfl, hb1⟩
  have k5 := ((Blk.new w 23 #[.int .i64 0, .bool true, .int .i64 1, .int .i64 0, .int .i64 t]).alloc (.cells #[.int .i64 0, .bool false, .int .i64 0, .int .i64 0, .int .i64 0] 23)).below hb1
  have k6 := (Blk.new1 w (.cells #[.int .i64 0, .bool true, .int .i64 1, .int .i64 0, .int .i64 t] 23) 23 #[.int .i64 0, .bool false, .int .i64 0, .int .i64 0, .int .i64 0]).below hb1
  have hB := below_trans (((Below.refl w.heap.size w).alloc (Nat.le_refl _) _).alloc (by simp) _) hb1
  obtain ⟨⟨c0, c1, c2, c3, c4⟩, ⟨f0, f1, f2, f3, f4⟩, z1⟩ := blk5 k5
  obtain ⟨⟨d0, d1, d2, d3, d4⟩, ⟨g0, g1, g2, g3, g4⟩, z2⟩ := blk5 k6
  have K6 := Lib.hid k6; clear k5 k6
  go_wp2
  refine bodyPost_ret (v := .tuple #[.agg #[.int .i64 0, .bool true, .int .i64 1, .int .i64 0, .int .i64 t], .int .i64 0]) (res_cell_tmp (p := 8) (u := 9) rfl _ _ (w.heap.size + 1) 23 _ _ rfl (blk_put5 K6.out) Tryd.underlying23 rfl (by kernel_rfl)) rfl ⟨rfl, below_put5 hB (by omega)⟩

set_option maxHeartbeats 2000000 in
theorem rres_B4 (s a l t m tm : Int) (w : World) (hs : okS ⟨s, true, a, l, t⟩ m) (hr : okR 0 tm)  (hs0 : s ≠ 0) (hsp : 0 < s) :
    Calls Tryd.prog 5 #[.agg #[.int .i64 s, .bool true, .int .i64 a, .int .i64 l, .int .i64 t], .int .i64 m, .int .i64 0, .int .i64 tm] w fun e w' => e = .returned (.tuple #[.agg #[.int .i64 0, .bool true, .int .i64 1, .int .i64 0, .int .i64 tm], .int .i64 4]) ∧ Below w.heap.size w w' := by
  obtain ⟨r1, r2, r3, r4⟩ := okR_facts hr
  have HC := Lib.hid (fun w => may_yes s true a l t m w hs)
  have b2 : ((0 : Int) != s) = true := bne_iff_ne.2 (fun h => hs0 h.symm)
  have b3 : (s == 0) = false := beq_eq_false_iff_ne.2 hs0
  clear hs hr hs0
  go_enter Tryd.func5, Tryd.ntmps5
  go_wp2_with (fail)
  refine (HC.out _).mono ?_
  rintro e w1 ⟨rfl, hb1⟩
  have k5 := ((Blk.new w 23 #[.int .i64 s, .bool true, .int .i64 a, .int .i64 l, .int .i64 t]).alloc (.cells #[.int .i64 0, .bool false, .int .i64 0, .int .i64 0, .int .i64 0] 23)).below hb1
  have k6 := (Blk.new1 w (.cells #[.int .i64 s, .bool true, .int .i64 a, .int .i64 l, .int .i64 t] 23) 23 #[.int .i64 0, .bool false, .int .i64 0, .int .i64 0, .int .i64 0]).below hb1
  have hB := below_trans (((Below.refl w.heap.size w).alloc (Nat.le_refl _) _).alloc (by simp) _) hb1
  obtain ⟨⟨c0, c1, c2, c3, c4⟩, ⟨f0, f1, f2, f3, f4⟩, z1⟩ := blk5 k5
  obtain ⟨⟨d0, d1, d2, d3, d4⟩, ⟨g0, g1, g2, g3, g4⟩, z2⟩ := blk5 k6
  have K6 := Lib.hid k6; clear k5 k6
  go_wp2
  refine bodyPost_ret (v := .tuple #[.agg #[.int .i64 0, .bool true, .int .i64 1, .int .i64 0, .int .i64 tm], .int .i64 4]) (res_cell_tmp (p := 8) (u := 9) rfl _ _ (w.heap.size + 1) 23 _ _ rfl (blk_put5 K6.out) Tryd.underlying23 rfl (by kernel_rfl)) rfl ⟨rfl, below_put5 hB (by omega)⟩

set_option maxHeartbeats 2000000 in
theorem rres_B3 (s a t m tm : Int) (w : World) (hs : okS ⟨s, false, a, 0, t⟩ m) (hr : okR 0 tm)  (hs0 : s ≠ 0) (hsp : 0 < s) :
    Calls Tryd.prog 5 #[.agg #[.int .i64 s, .bool false, .int .i64 a, .int .i64 0, .int .i64 t], .int .i64 m, .int .i64 0, .int .i64 tm] w fun e w' => e = .returned (.tuple #[.agg #[.int .i64 0, .bool true, .int .i64 1, .int .i64 0, .int .i64 tm], .int .i64 3]) ∧ Below w.heap.size w w' := by
  obtain ⟨r1, r2, r3, r4⟩ := okR_facts hr
  have HC := Lib.hid (fun w => may_yes s false a 0 t m w hs)
  have b2 : ((0 : Int) != s) = true := bne_iff_ne.2 (fun h => hs0 h.symm)
  have b3 : (s == 0) = false := beq_eq_false_iff_ne.2 hs0
  clear hs hr hs0
  go_enter Tryd.func5, Tryd.ntmps5
  go_wp2_with (fail)
  refine (HC.out _).mono ?_
  rintro e w1 ⟨rfl, hb1⟩
  have k5 := ((Blk.new w 23 #[.int .i64 s, .bool false, .int .i64 a, .int .i64 0, .int .i64 t]).alloc (.cells #[.int .i64 0, .bool false, .int .i64 0, .int .i64 0, .int .i64 0] 23)).below hb1
  have k6 := (Blk.new1 w (.cells #[.int .i64 s, .bool false, .int .i64 a, .int .i64 0, .int .i64 t] 23) 23 #[.int .i64 0, .bool false, .int .i64 0, .int .i64 0, .int .i64 0]).below hb1
  have hB := below_trans (((Below.refl w.heap.size w).alloc (Nat.le_refl _) _).alloc (by simp) _) hb1
  obtain ⟨⟨c0, c1, c2, c3, c4⟩, ⟨f0, f1, f2, f3, f4⟩, z1⟩ := blk5 k5
  obtain ⟨⟨d0, d1, d2, d3, d4⟩, ⟨g0, g1, g2, g3, g4⟩, z2⟩ := blk5 k6
  have K6 := Lib.hid k6; clear k5 k6
  go_wp2
  refine bodyPost_ret (v := .tuple #[.agg #[.int .i64 0, .bool true, .int .i64 1, .int .i64 0, .int .i64 tm], .int .i64 3]) (res_cell_tmp (p := 8) (u := 9) rfl _ _ (w.heap.size + 1) 23 _ _ rfl (blk_put5 K6.out) Tryd.underlying23 rfl (by kernel_rfl)) rfl ⟨rfl, below_put5 hB (by omega)⟩

set_option maxHeartbeats 2000000 in
theorem rres_P_eq (s a l t m tm : Int) (w : World) (hs : okS ⟨s, true, a, l, t⟩ m) (hr : okR s tm) (hst : s ≠ 0) (hs0 : s ≠ 0) (hsp : 0 < s) (hl : l = s) :
    Calls Tryd.prog 5 #[.agg #[.int .i64 s, .bool true, .int .i64 a, .int .i64 l, .int .i64 t], .int .i64 m, .int .i64 s, .int .i64 tm] w fun e w' => e = .returned (.tuple #[.agg #[.int .i64 s, .bool true, .int .i64 a, .int .i64 l, .int .i64 t], .int .i64 0]) ∧ Below w.heap.size w w' := by
  obtain ⟨r1, r2, r3, r4⟩ := okR_facts hr
  have HC := Lib.hid (fun w => may_yes s true a l t m w hs)
  have b1 : (s == 0) = false := beq_eq_false_iff_ne.2 hst
  have b3 : (s == 0) = false := beq_eq_false_iff_ne.2 hs0
  clear hs hr hst hs0 hl
  go_enter Tryd.func5, Tryd.ntmps5
  go_wp2_with (fail)
  refine (HC.out _).mono ?_
  rintro e w1 ⟨rfl, hb1⟩
  have k5 := ((Blk.new w 23 #[.int .i64 s, .bool true, .int .i64 a, .int .i64 l, .int .i64 t]).alloc (.cells #[.int .i64 0, .bool false, .int .i64 0, .int .i64 0, .int .i64 0] 23)).below hb1
  have k6 := (Blk.new1 w (.cells #[.int .i64 s, .bool true, .int .i64 a, .int .i64 l, .int .i64 t] 23) 23 #[.int .i64 0, .bool false, .int .i64 0, .int .i64 0, .int .i64 0]).below hb1
  have hB := below_trans (((Below.refl w.heap.size w).alloc (Nat.le_refl _) _).alloc (by simp) _) hb1
  obtain ⟨⟨c0, c1, c2, c3, c4⟩, ⟨f0, f1, f2, f3, f4⟩, z1⟩ := blk5 k5
  obtain ⟨⟨d0, d1, d2, d3, d4⟩, ⟨g0, g1, g2, g3, g4⟩, z2⟩ := blk5 k6
  have K6 := Lib.hid k6; clear k5 k6
  go_wp2
  refine bodyPost_ret (v := .tuple #[.agg #[.int .i64 s, .bool true, .int .i64 a, .int .i64 l, .int .i64 t], .int .i64 0]) (res_cell_tmp (p := 8) (u := 9) rfl _ _ (w.heap.size + 1) 23 _ _ rfl (blk_put5 K6.out) Tryd.underlying23 rfl (by kernel_rfl)) rfl ⟨rfl, below_put5 hB (by omega)⟩

set_option maxHeartbeats 2000000 in
theorem rres_P_ne (s a l t m st tm : Int) (w : World) (hs : okS ⟨s, true, a, l, t⟩ m) (hr : okR st tm) (hst : st ≠ 0) (hs0 : s ≠ 0) (hsp : 0 < s) (hl : l = s) (hne : st ≠ s) :
    Calls Tryd.prog 5 #[.agg #[.int .i64 s, .bool true, .int .i64 a, .int .i64 l, .int .i64 t], .int .i64 m, .int .i64 st, .int .i64 tm] w fun e w' => e = .returned (.tuple #[.agg #[.int .i64 st, .bool true, .int .i64 m, .int .i64 st, .int .i64 tm], .int .i64 5]) ∧ Below w.heap.size w w' := by
  obtain ⟨r1, r2, r3, r4⟩ := okR_facts hr
  have HC := Lib.hid (fun w => may_yes s true a l t m w hs)
  have b1 : (st == 0) = false := beq_eq_false_iff_ne.2 hst
  have b2 : (st != s) = true := bne_iff_ne.2 hne
  have b2' : (st == s) = false := beq_eq_false_iff_ne.2 hne
  have b3 : (s == 0) = false := beq_eq_false_iff_ne.2 hs0
  clear hs hr hst hs0 hne hl
  go_enter Tryd.func5, Tryd.ntmps5
  go_wp2_with (fail)
  refine (HC.out _).mono ?_
  rintro e w1 ⟨rfl, hb1⟩
  have k5 := ((Blk.new w 23 #[.int .i64 s, .bool true, .int .i64 a, .int .i64 l, .int .i64 t]).alloc (.cells #[.int .i64 0, .bool false, .int .i64 0, .int .i64 0, .int .i64 0] 23)).below hb1
  have k6 := (Blk.new1 w (.cells #[.int .i64 s, .bool true, .int .i64 a, .int .i64 l, .int .i64 t] 23) 23 #[.int .i64 0, .bool false, .int .i64 0, .int .i64 0, .int .i64 0]).below hb1
  have hB := below_trans (((Below.refl w.heap.size w).alloc (Nat.le_refl _) _).alloc (by simp) _) hb1
  obtain ⟨⟨c0, c1, c2, c3, c4⟩, ⟨f0, f1, f2, f3, f4⟩, z1⟩ := blk5 k5
  obtain ⟨⟨d0, d1, d2, d3, d4⟩, ⟨g0, g1, g2, g3, g4⟩, z2⟩ := blk5 k6
  have K6 := Lib.hid k6; clear k5 k6
  go_wp2
  refine bodyPost_ret (v := .tuple #[.agg #[.int .i64 st, .bool true, .int .i64 m, .int .i64 st, .int .i64 tm], .int .i64 5]) (res_cell_tmp (p := 8) (u := 9) rfl _ _ (w.heap.size + 1) 23 _ _ rfl (blk_put5 K6.out) Tryd.underlying23 rfl (by kernel_rfl)) rfl ⟨rfl, below_put5 hB (by omega)⟩

set_option maxHeartbeats 2000000 in
theorem rres_Z_lt (t m st tm : Int) (w : World) (hs : okS ⟨0, true, 1, 0, t⟩ m) (hr : okR st tm) (hst : st ≠ 0) (hlt : 1 ≠ m) :
    Calls Tryd.prog 5 #[.agg #[.int .i64 0, .bool true, .int .i64 1, .int .i64 0, .int .i64 t], .int .i64 m, .int .i64 st, .int .i64 tm] w fun e w' => e = .returned (.tuple #[.agg #[.int .i64 st, .bool false, .int .i64 1, .int .i64 0, .int .i64 tm], .int .i64 1]) ∧ Below w.heap.size w w' := by
  obtain ⟨r1, r2, r3, r4⟩ := okR_facts hr
  have HC := Lib.hid (fun w => may_yes 0 true 1 0 t m w hs)
  have b1 : (st == 0) = false := beq_eq_false_iff_ne.2 hst
  have b2 : (st != 0) = true := bne_iff_ne.2 hst
  have b5 : (1 == m) = false := beq_eq_false_iff_ne.2 hlt
  clear hs hr hst hlt
  go_enter Tryd.func5, Tryd.ntmps5
  go_wp2_with (fail)
  refine (HC.out _).mono ?_
  rintro e w1 ⟨rfl, hb1⟩
  have k5 := ((Blk.new w 23 #[.int .i64 0, .bool true, .int .i64 1, .int .i64 0, .int .i64 t]).alloc (.cells #[.int .i64 0, .bool false, .int .i64 0, .int .i64 0, .int .i64 0] 23)).below hb1
  have k6 := (Blk.new1 w (.cells #[.int .i64 0, .bool true, .int .i64 1, .int .i64 0, .int .i64 t] 23) 23 #[.int .i64 0, .bool false, .int .i64 0, .int .i64 0, .int .i64 0]).below hb1
  have hB := below_trans (((Below.refl w.heap.size w).alloc (Nat.le_refl _) _).alloc (by simp) _) hb1
  obtain ⟨⟨c0, c1, c2, c3, c4⟩, ⟨f0, f1, f2, f3, f4⟩, z1⟩ := blk5 k5
  obtain ⟨⟨d0, d1, d2, d3, d4⟩, ⟨g0, g1, g2, g3, g4⟩, z2⟩ := blk5 k6
  have K6 := Lib.hid k6; clear k5 k6
  go_wp2
  refine bodyPost_ret (v := .tuple #[.agg #[.int .i64 st, .bool false, .int .i64 1, .int .i64 0, .int .i64 tm], .int .i64 1]) (res_cell_tmp (p := 8) (u := 9) rfl _ _ (w.heap.size + 1) 23 _ _ rfl (blk_put5 K6.out) Tryd.underlying23 rfl (by kernel_rfl)) rfl ⟨rfl, below_put5 hB (by omega)⟩

set_option maxHeartbeats 2000000 in
theorem rres_Z_ge (t m st tm : Int) (w : World) (hs : okS ⟨0, true, 1, 0, t⟩ m) (hr : okR st tm) (hst : st ≠ 0) (hlt : 1 = m) :
    Calls Tryd.prog 5 #[.agg #[.int .i64 0, .bool true, .int .i64 1, .int .i64 0, .int .i64 t], .int .i64 m, .int .i64 st, .int .i64 tm] w fun e w' => e = .returned (.tuple #[.agg #[.int .i64 st, .bool true, .int .i64 m, .int .i64 st, .int .i64 tm], .int .i64 2]) ∧ Below w.heap.size w w' := by
  obtain ⟨r1, r2, r3, r4⟩ := okR_facts hr
  have HC := Lib.hid (fun w => may_yes 0 true 1 0 t m w hs)
  have b1 : (st == 0) = false := beq_eq_false_iff_ne.2 hst
  have b2 : (st != 0) = true := bne_iff_ne.2 hst
  have b5 : (1 == m) = true := beq_iff_eq.2 hlt
  clear hs hr hst hlt
  go_enter Tryd.func5, Tryd.ntmps5
  go_wp2_with (fail)
  refine (HC.out _).mono ?_
  rintro e w1 ⟨rfl, hb1⟩
  have k5 := ((Blk.new w 23 #[.int .i64 0, .bool true, .int .i64 1, .int .i64 0, .int .i64 t]).alloc (.cells #[.int .i64 0, .bool false, .int .i64 0, .int .i64 0, .int .i64 0] 23)).below hb1
  have k6 := (Blk.new1 w (.cells #[.int .i64 0, .bool true, .int .i64 1, .int .i64 0, .int .i64 t] 23) 23 #[.int .i64 0, .bool false, .int .i64 0, .int .i64 0, .int .i64 0]).below hb1
  have hB := below_trans (((Below.refl w.heap.size w).alloc (Nat.le_refl _) _).alloc (by simp) _) hb1
  obtain ⟨⟨c0, c1, c2, c3, c4⟩, ⟨f0, f1, f2, f3, f4⟩, z1⟩ := blk5 k5
  obtain ⟨⟨d0, d1, d2, d3, d4⟩, ⟨g0, g1, g2, g3, g4⟩, z2⟩ := blk5 k6
  have K6 := Lib.hid k6; clear k5 k6
  go_wp2
  refine bodyPost_ret (v := .tuple #[.agg #[.int .i64 st, .bool true, .int .i64 m, .int .i64 st, .int .i64 tm], .int .i64 2]) (res_cell_tmp (p := 8) (u := 9) rfl _ _ (w.heap.size + 1) 23 _ _ rfl (blk_put5 K6.out) Tryd.underlying23 rfl (by kernel_rfl)) rfl ⟨rfl, below_put5 hB (by omega)⟩

set_option maxHeartbeats 2000000 in
theorem rres_F_eq_lt (s a t m tm : Int) (w : World) (hs : okS ⟨s, false, a, 0, t⟩ m) (hr : okR s tm) (hst : s ≠ 0) (hs0 : s ≠ 0) (hsp : 0 < s) (hlt : a + 1 ≠ m) (ha1 : 1 ≤ a) (ha2 : a ≤ 100) :
    Calls Tryd.prog 5 #[.agg #[.int .i64 s, .bool false, .int .i64 a, .int .i64 0, .int .i64 t], .int .i64 m, .int .i64 s, .int .i64 tm] w fun e w' => e = .returned (.tuple #[.agg #[.int .i64 s, .bool false, .int .i64 (a + 1), .int .i64 0, .int .i64 t], .int .i64 1]) ∧ Below w.heap.size w w' := by
  obtain ⟨r1, r2, r3, r4⟩ := okR_facts hr
  have HC := Lib.hid (fun w => may_yes s false a 0 t m w hs)
  have b1 : (s == 0) = false := beq_eq_false_iff_ne.2 hst
  have b3 : (s == 0) = false := beq_eq_false_iff_ne.2 hs0
  have b5 : (a + 1 == m) = false := beq_eq_false_iff_ne.2 hlt
  clear hs hr hst hs0 hlt
  go_enter Tryd.func5, Tryd.ntmps5
  go_wp2_with (fail)
  refine (HC.out _).mono ?_
  rintro e w1 ⟨rfl, hb1⟩
  have k5 := ((Blk.new w 23 #[.int .i64 s, .bool false, .int .i64 a, .int .i64 0, .int .i64 t]).alloc (.cells #[.int .i64 0, .bool false, .int .i64 0, .int .i64 0, .int .i64 0] 23)).below hb1
  have k6 := (Blk.new1 w (.cells #[.int .i64 s, .bool false, .int .i64 a, .int .i64 0, .int .i64 t] 23) 23 #[.int .i64 0, .bool false, .int .i64 0, .int .i64 0, .int .i64 0]).below hb1
  have hB := below_trans (((Below.refl w.heap.size w).alloc (Nat.le_refl _) _).alloc (by simp) _) hb1
  obtain ⟨⟨c0, c1, c2, c3, c4⟩, ⟨f0, f1, f2, f3, f4⟩, z1⟩ := blk5 k5
  obtain ⟨⟨d0, d1, d2, d3, d4⟩, ⟨g0, g1, g2, g3, g4⟩, z2⟩ := blk5 k6
  have K6 := Lib.hid k6; clear k5 k6
  go_wp2
  refine bodyPost_ret (v := .tuple #[.agg #[.int .i64 s, .bool false, .int .i64 (a + 1), .int .i64 0, .int .i64 t], .int .i64 1]) (res_cell_tmp (p := 8) (u := 9) rfl _ _ (w.heap.size + 1) 23 _ _ rfl (blk_put5 K6.out) Tryd.underlying23 rfl (by kernel_rfl)) rfl ⟨rfl, below_put5 hB (by omega)⟩

set_option maxHeartbeats 2000000 in
theorem rres_F_eq_ge (s a t m tm : Int) (w : World) (hs : okS ⟨s, false, a, 0, t⟩ m) (hr : okR s tm) (hst : s ≠ 0) (hs0 : s ≠ 0) (hsp : 0 < s) (hlt : a + 1 = m) (ha1 : 1 ≤ a) (ha2 : a ≤ 100) :
    Calls Tryd.prog 5 #[.agg #[.int .i64 s, .bool false, .int .i64 a, .int .i64 0, .int .i64 t], .int .i64 m, .int .i64 s, .int .i64 tm] w fun e w' => e = .returned (.tuple #[.agg #[.int .i64 s, .bool true, .int .i64 m, .int .i64 s, .int .i64 t], .int .i64 2]) ∧ Below w.heap.size w w' := by
  obtain ⟨r1, r2, r3, r4⟩ := okR_facts hr
  have HC := Lib.hid (fun w => may_yes s false a 0 t m w hs)
  have b1 : (s == 0) = false := beq_eq_false_iff_ne.2 hst
  have b3 : (s == 0) = false := beq_eq_false_iff_ne.2 hs0
  have b5 : (a + 1 == m) = true := beq_iff_eq.2 hlt
  clear hs hr hst hs0 hlt
  go_enter Tryd.func5, Tryd.ntmps5
  go_wp2_with (fail)
  refine (HC.out _).mono ?_
  rintro e w1 ⟨rfl, hb1⟩
  have k5 := ((Blk.new w 23 #[.int .i64 s, .bool false, .int .i64 a, .int .i64 0, .int .i64 t]).alloc (.cells #[.int .i64 0, .bool false, .int .i64 0, .int .i64 0, .int .i64 0] 23)).below hb1
  have k6 := (Blk.new1 w (.cells #[.int .i64 s, .bool false, .int .i64 a, .int .i64 0, .int .i64 t] 23) 23 #[.int .i64 0, .bool false, .int .i64 0, .int .i64 0, .int .i64 0]).below hb1
  have hB := below_trans (((Below.refl w.heap.size w).alloc (Nat.le_refl _) _).alloc (by simp) _) hb1
  obtain ⟨⟨c0, c1, c2, c3, c4⟩, ⟨f0, f1, f2, f3, f4⟩, z1⟩ := blk5 k5
  obtain ⟨⟨d0, d1, d2, d3, d4⟩, ⟨g0, g1, g2, g3, g4⟩, z2⟩ := blk5 k6
  have K6 := Lib.hid k6; clear k5 k6
  go_wp2
  refine bodyPost_ret (v := .tuple #[.agg #[.int .i64 s, .bool true, .int .i64 m, .int .i64 s, .int .i64 t], .int .i64 2]) (res_cell_tmp (p := 8) (u := 9) rfl _ _ (w.heap.size + 1) 23 _ _ rfl (blk_put5 K6.out) Tryd.underlying23 rfl (by kernel_rfl)) rfl ⟨rfl, below_put5 hB (by omega)⟩

set_option maxHeartbeats 2000000 in
theorem rres_F_ne_lt (s a t m st tm : Int) (w : World) (hs : okS ⟨s, false, a, 0, t⟩ m) (hr : okR st tm) (hst : st ≠ 0) (hs0 : s ≠ 0) (hsp : 0 < s) (hne : st ≠ s) (hlt : a + 1 ≠ m) (ha1 : 1 ≤ a) (ha2 : a ≤ 100) :
    Calls Tryd.prog 5 #[.agg #[.int .i64 s, .bool false, .int .i64 a, .int .i64 0, .int .i64 t], .int .i64 m, .int .i64 st, .int .i64 tm] w fun e w' => e = .returned (.tuple #[.agg #[.int .i64 st, .bool false, .int .i64 (a + 1), .int .i64 0, .int .i64 tm], .int .i64 1]) ∧ Below w.heap.size w w' := by
  obtain ⟨r1, r2, r3, r4⟩ := okR_facts hr
  have HC := Lib.hid (fun w => may_yes s false a 0 t m w hs)
  have b1 : (st == 0) = false := beq_eq_false_iff_ne.2 hst
  have b2 : (st != s) = true := bne_iff_ne.2 hne
  have b2' : (st == s) = false := beq_eq_false_iff_ne.2 hne
  have b3 : (s == 0) = false := beq_eq_false_iff_ne.2 hs0
  have b5 : (a + 1 == m) = false := beq_eq_false_iff_ne.2 hlt
  clear hs hr hst hs0 hne hlt
  go_enter Tryd.func5, Tryd.ntmps5
  go_wp2_with (fail)
  refine (HC.out _).mono ?_
  rintro e w1 ⟨rfl, hb1⟩
  have k5 := ((Blk.new w 23 #[.int .i64 s, .bool false, .int .i64 a, .int .i64 0, .int .i64 t]).alloc (.cells #[.int .i64 0, .bool false, .int .i64 0, .int .i64 0, .int .i64 0] 23)).below hb1
  have k6 := (Blk.new1 w (.cells #[.int .i64 s, .bool false, .int .i64 a, .int .i64 0, .int .i64 t] 23) 23 #[.int .i64 0, .bool false, .int .i64 0, .int .i64 0, .int .i64 0]).below hb1
  have hB := below_trans (((Below.refl w.heap.size w).alloc (Nat.le_refl _) _).alloc (by simp) _) hb1
  obtain ⟨⟨c0, c1, c2, c3, c4⟩, ⟨f0, f1, f2, f3, f4⟩, z1⟩ := blk5 k5
  obtain ⟨⟨d0, d1, d2, d3, d4⟩, ⟨g0, g1, g2, g3, g4⟩, z2⟩ := blk5 k6
  have K6 := Lib.hid k6; clear k5 k6
  go_wp2
  refine bodyPost_ret (v := .tuple #[.agg #[.int .i64 st, .bool false, .int .i64 (a + 1), .int .i64 0, .int .i64 tm], .int .i64 1]) (res_cell_tmp (p := 8) (u := 9) rfl _ _ (w.heap.size + 1) 23 _ _ rfl (blk_put5 K6.out) Tryd.underlying23 rfl (by kernel_rfl)) rfl ⟨rfl, below_put5 hB (by omega)⟩

set_option maxHeartbeats 2000000 in
theorem rres_F_ne_ge (s a t m st tm : Int) (w : World) (hs : okS ⟨s, false, a, 0, t⟩ m) (hr : okR st tm) (hst : st ≠ 0) (hs0 : s ≠ 0) (hsp : 0 < s) (hne : st ≠ s) (hlt : a + 1 = m) (ha1 : 1 ≤ a) (ha2 : a ≤ 100) :
    Calls Tryd.prog 5 #[.agg #[.int .i64 s, .bool false, .int .i64 a, .int .i64 0, .int .i64 t], .int .i64 m, .int .i64 st, .int .i64 tm] w fun e w' => e = .returned (.tuple #[.agg #[.int .i64 st, .bool true, .int .i64 m, .int .i64 st, .int .i64 tm], .int .i64 2]) ∧ Below w.heap.size w w' := by
  obtain ⟨r1, r2, r3, r4⟩ := okR_facts hr
  have HC := Lib.hid (fun w => may_yes s false a 0 t m w hs)
  have b1 : (st == 0) = false := beq_eq_false_iff_ne.2 hst
  have b2 : (st != s) = true := bne_iff_ne.2 hne
  have b2' : (st == s) = false := beq_eq_false_iff_ne.2 hne
  have b3 : (s == 0) = false := beq_eq_false_iff_ne.2 hs0
  have b5 : (a + 1 == m) = true := beq_iff_eq.2 hlt
  clear hs hr hst hs0 hne hlt
  go_enter Tryd.func5, Tryd.ntmps5
  go_wp2_with (fail)
  refine (HC.out _).mono ?_
  rintro e w1 ⟨rfl, hb1⟩
  have k5 := ((Blk.new w 23 #[.int .i64 s, .bool false, .int .i64 a, .int .i64 0, .int .i64 t]).alloc (.cells #[.int .i64 0, .bool false, .int .i64 0, .int .i64 0, .int .i64 0] 23)).below hb1
  have k6 := (Blk.new1 w (.cells #[.int .i64 s, .bool false, .int .i64 a, .int .i64 0, .int .i64 t] 23) 23 #[.int .i64 0, .bool false, .int .i64 0, .int .i64 0, .int .i64 0]).below hb1
  have hB := below_trans (((Below.refl w.heap.size w).alloc (Nat.le_refl _) _).alloc (by simp) _) hb1
  obtain ⟨⟨c0, c1, c2, c3, c4⟩, ⟨f0, f1, f2, f3, f4⟩, z1⟩ := blk5 k5
  obtain ⟨⟨d0, d1, d2, d3, d4⟩, ⟨g0, g1, g2, g3, g4⟩, z2⟩ := blk5 k6
  have K6 := Lib.hid k6; clear k5 k6
  go_wp2
  refine bodyPost_ret (v := .tuple #[.agg #[.int .i64 st, .bool true, .int .i64 m, .int .i64 st, .int .i64 tm], .int .i64 2]) (res_cell_tmp (p := 8) (u := 9) rfl _ _ (w.heap.size + 1) 23 _ _ rfl (blk_put5 K6.out) Tryd.underlying23 rfl (by kernel_rfl)) rfl ⟨rfl, below_put5 hB (by omega)⟩
theorem rresult_walk (s : Int) (h : Bool) (a l t m st tm : Int) (w : World) : Calls Tryd.prog 5 #[.agg #[.int .i64 s, .bool h, .int .i64 a, .int .i64 l, .int .i64 t], .int .i64 m, .int .i64 st, .int .i64 tm] w
    fun e w' => e = .returned (.tuple #[stV (resF ⟨s, h, a, l, t⟩ m st tm).1, .int .i64 (resF ⟨s, h, a, l, t⟩ m st tm).2]) ∧ Below w.heap.size w w' := by
  have key : ∀ R : St × Int, resF ⟨s, h, a, l, t⟩ m st tm = R → Calls Tryd.prog 5 #[.agg #[.int .i64 s, .bool h, .int .i64 a, .int .i64 l, .int .i64 t], .int .i64 m, .int .i64 st, .int .i64 tm] w (fun e w' => e = .returned (.tuple #[stV R.1, .int .i64 R.2]) ∧ Below w.heap.size w w') →
      Calls Tryd.prog 5 #[.agg #[.int .i64 s, .bool h, .int .i64 a, .int .i64 l, .int .i64 t], .int .i64 m, .int .i64 st, .int .i64 tm] w
    fun e w' => e = .returned (.tuple #[stV (resF ⟨s, h, a, l, t⟩ m st tm).1, .int .i64 (resF ⟨s, h, a, l, t⟩ m st tm).2]) ∧ Below w.heap.size w w' := fun R hR hc => by rw [hR]; exact hc
  by_cases hok : okS ⟨s, h, a, l, t⟩ m ∧ okR st tm
  · obtain ⟨hs, hr⟩ := id hok
    have hF : resF ⟨s, h, a, l, t⟩ m st tm = resG ⟨s, h, a, l, t⟩ m st tm := by unfold resF; rw [if_pos hok]
    unfold resG at hF
    dsimp only at hF
    by_cases h0 : st = 0
    · subst h0
      rw [if_pos rfl] at hF
      have hs2 := hs
      obtain ⟨o1, o2, o3, o4, o5, o6, o7⟩ := hs2
      dsimp only at o3 o4 o5 o6 o7
      rcases o7 with ⟨rfl, rfl, rfl, rfl⟩ | ⟨rfl, hs0, rfl, rfl⟩ | ⟨rfl, hs0, ha1, ha2, rfl⟩
      · rw [if_pos rfl] at hF
        exact key _ hF (rres_A t m tm w hs hr)
      · rw [if_neg hs0] at hF
        exact key _ hF (rres_B4 l a l t a tm w hs hr hs0 (by omega))
      · rw [if_neg hs0] at hF
        exact key _ hF (rres_B3 s a t m tm w hs hr hs0 (by omega))
    rw [if_neg h0] at hF
    have hs2 := hs
    unfold okS at hs2
    dsimp only at hs2
    obtain ⟨o1, o2, o3, o4, o5, o6, o7⟩ := hs2
    rcases o7 with ⟨rfl, rfl, rfl, rfl⟩ | ⟨rfl, hs0, rfl, rfl⟩ | ⟨rfl, hs0, ha1, ha2, rfl⟩
    · simp only [if_true, if_neg h0] at hF
      rw [if_neg (by simp)] at hF
      by_cases hlt : 1 < m
      · rw [if_pos hlt] at hF
        exact key _ hF (rres_Z_lt t m st tm w hs hr h0 (by omega))
      · rw [if_neg hlt] at hF
        obtain rfl : m = 1 := by omega
        exact key _ hF (rres_Z_ge t 1 st tm w hs hr h0 (by omega))
    · rw [if_pos (show (true = true ∧ l ≠ 0) from ⟨rfl, hs0⟩)] at hF
      by_cases he : st = l
      · subst he
        rw [if_pos rfl] at hF
        exact key _ hF (rres_P_eq st a st t a tm w hs hr h0 hs0 (by omega) rfl)
      · rw [if_neg he] at hF
        exact key _ hF (rres_P_ne l a l t a st tm w hs hr h0 hs0 (by omega) rfl he)
    · rw [if_neg (by simp)] at hF
      simp only [if_neg hs0] at hF
      by_cases he : st = s
      · subst he
        simp only [if_true] at hF
        by_cases hlt : a + 1 < m
        · rw [if_pos hlt] at hF
          exact key _ hF (rres_F_eq_lt st a t m tm w hs hr h0 hs0 (by omega) (by omega) ha1 (by omega))
        · rw [if_neg hlt] at hF
          obtain rfl : m = a + 1 := by omega
          exact key _ hF (rres_F_eq_ge st a t (a + 1) tm w hs hr h0 hs0 (by omega) (by omega) ha1 (by omega))
      · simp only [if_neg he] at hF
        by_cases hlt : a + 1 < m
        · rw [if_pos hlt] at hF
          exact key _ hF (rres_F_ne_lt s a t m st tm w hs hr h0 hs0 (by omega) he (by omega) ha1 (by omega))
        · rw [if_neg hlt] at hF
          obtain rfl : m = a + 1 := by omega
          exact key _ hF (rres_F_ne_ge s a t (a + 1) st tm w hs hr h0 hs0 (by omega) he (by omega) ha1 (by omega))
  · refine key (⟨s, h, a, l, t⟩, 0) ?_ (rres_bad s h a l t m st tm w hok)
    unfold resF; rw [if_neg hok]
end Go.Proofs.YtimibkjjcnpkjaaDoor
