/- The functions of package state, walked: each against a Lean function on states. -/
import Derived.Test.YtimibkjjcnpkjaaDoorBase
namespace Go.Proofs.YtimibkjjcnpkjaaDoor
open Go.RowKit
structure St where
  s : Int
  h : Bool
  a : Int
  l : Int
  t : Int
def okS (S : St) (m : Int) : Prop :=
  1 ≤ m ∧ m ≤ 100 ∧ 0 ≤ S.s ∧ S.s ≤ 3 ∧ 0 ≤ S.t ∧ S.t ≤ 4611686018427387904 ∧
    ((S.h = true ∧ S.s = 0 ∧ S.a = 1 ∧ S.l = 0) ∨ (S.h = true ∧ S.s ≠ 0 ∧ S.a = m ∧ S.l = S.s) ∨ (S.h = false ∧ S.s ≠ 0 ∧ 1 ≤ S.a ∧ S.a < m ∧ S.l = 0))
instance (S : St) (m : Int) : Decidable (okS S m) := by unfold okS; infer_instance
def okR (st tm : Int) : Prop := 0 ≤ st ∧ st ≤ 3 ∧ 0 ≤ tm ∧ tm ≤ 4611686018427387904
instance (st tm : Int) : Decidable (okR st tm) := by unfold okR; infer_instance
def resG (S : St) (m st tm : Int) : St × Int :=
  if st = 0 then
    if S.s = 0 then (S, 0) else (⟨0, true, 1, 0, tm⟩, if S.h = true then 4 else 3)
  else
    if S.h = true ∧ S.s ≠ 0 then
      if st = S.s then (S, 0) else (⟨st, true, S.a, st, tm⟩, 5)
    else
      if (if S.s = 0 then 1 else S.a + 1) < m then (⟨st, false, if S.s = 0 then 1 else S.a + 1, 0, if st = S.s then S.t else tm⟩, 1)
      else (⟨st, true, if S.s = 0 then 1 else S.a + 1, st, if st = S.s then S.t else tm⟩, 2)
def resF (S : St) (m st tm : Int) : St × Int := if okS S m ∧ okR st tm then resG S m st tm else (S, 0)
theorem start_walk (w : World) : Calls Tryd.prog 13 #[] w fun e w' => e = .returned (.agg #[.int .i64 0, .bool true, .int .i64 1, .int .i64 0, .int .i64 0]) ∧ Below w.heap.size w w' := by
  go_enter Tryd.func13, Tryd.ntmps13
  go_wp2
  exact bodyPost_ret (v := .agg #[.int .i64 0, .bool true, .int .i64 1, .int .i64 0, .int .i64 0]) (by simp [results, Tryd.results13, go_sem]) rfl ⟨rfl, (Below.refl _ _).alloc (Nat.le_refl _) _⟩
theorem prob_walk (s : Int) (h : Bool) (a l t : Int) (w : World) : Calls Tryd.prog 9 #[.agg #[.int .i64 s, .bool h, .int .i64 a, .int .i64 l, .int .i64 t]] w fun e w' => e = .returned (.bool (h && decide (s ≠ 0))) ∧ Below w.heap.size w w' := by
  cases h with
  | false =>
    go_enter Tryd.func9, Tryd.ntmps9
    go_wp2
    go_ret
    exact ⟨rfl, (Below.refl _ _).alloc (Nat.le_refl _) _⟩
  | true =>
    have H := Lib.hid (show (s != 0) = (true && decide (s ≠ 0)) from by by_cases h : s = 0 <;> simp [h])
    go_enter Tryd.func9, Tryd.ntmps9
    go_wp2
    go_ret
    exact ⟨ret_bool H.out, (Below.refl _ _).alloc (Nat.le_refl _) _⟩
set_option maxHeartbeats 2000000 in
theorem check_bad (s : Int) (h : Bool) (a l t m : Int) (w : World) (hb : ¬ okS ⟨s, h, a, l, t⟩ m) : Calls Tryd.prog 6 #[.agg #[.int .i64 s, .bool h, .int .i64 a, .int .i64 l, .int .i64 t], .int .i64 m] w fun e w' => e = .returned (.iface 39 (.int .i64 1)) ∧ Below w.heap.size w w' := by
  have H := Lib.hid hb; clear hb
  cases h
  all_goals
    go_enter Tryd.func6, Tryd.ntmps6
    go_wp2
    all_goals first
      | (go_ret; exact ⟨rfl, (Below.refl _ _).alloc (Nat.le_refl _) _⟩)
      | (exfalso; apply H.out; unfold okS; simp_all; done)
      | (exfalso; apply H.out; unfold okS; simp_all; omega)

set_option maxHeartbeats 2000000 in
theorem check_ok (s : Int) (h : Bool) (a l t m : Int) (w : World) (hb : okS ⟨s, h, a, l, t⟩ m) : Calls Tryd.prog 6 #[.agg #[.int .i64 s, .bool h, .int .i64 a, .int .i64 l, .int .i64 t], .int .i64 m] w fun e w' => e = .returned .nilIface ∧ Below w.heap.size w w' := by
  have H := Lib.hid hb; clear hb
  cases h
  all_goals
    go_enter Tryd.func6, Tryd.ntmps6
    go_wp2
    all_goals first
      | (go_ret; exact ⟨rfl, (Below.refl _ _).alloc (Nat.le_refl _) _⟩)
      | (exfalso; have H2 := H.out; unfold okS at H2; simp_all; done)
      | (exfalso; have H2 := H.out; unfold okS at H2; simp_all; omega)
def stV (S : St) : Value := .agg #[.int .i64 S.s, .bool S.h, .int .i64 S.a, .int .i64 S.l, .int .i64 S.t]
theorem ret_sv {S T : St} {a b : Int} (h : (S, a) = (T, b)) : Ending.returned (.tuple #[stV S, .int .i64 a]) = .returned (.tuple #[stV T, .int .i64 b]) := by
  rw [(Prod.mk.inj h).1, (Prod.mk.inj h).2]
theorem blk5 {w : World} {g : Nat} {a b c d e : Value} {t : TypeId} (h : Blk w g t #[a, b, c, d, e]) :
    (w.cell? ⟨g, 0, none⟩ = some a ∧ w.cell? ⟨g, 1, none⟩ = some b ∧ w.cell? ⟨g, 2, none⟩ = some c ∧ w.cell? ⟨g, 3, none⟩ = some d ∧ w.cell? ⟨g, 4, none⟩ = some e) ∧
    (w.frozen? ⟨g, 0, none⟩ = false ∧ w.frozen? ⟨g, 1, none⟩ = false ∧ w.frozen? ⟨g, 2, none⟩ = false ∧ w.frozen? ⟨g, 3, none⟩ = false ∧ w.frozen? ⟨g, 4, none⟩ = false) ∧ g < w.heap.size :=
  ⟨⟨h.cell 0, h.cell 1, h.cell 2, h.cell 3, h.cell 4⟩, ⟨h.frozen 0, h.frozen 1, h.frozen 2, h.frozen 3, h.frozen 4⟩, h.lt⟩
/-- A struct of five cells stored whole. -/
def put5 (w : World) (g : Nat) (a b c d e : Value) : World := ((((w.setCell ⟨g, 0, none⟩ a).setCell ⟨g, 1, none⟩ b).setCell ⟨g, 2, none⟩ c).setCell ⟨g, 3, none⟩ d).setCell ⟨g, 4, none⟩ e
theorem blk_put5 {w : World} {g : Nat} {a b c d e a' b' c' d' e' : Value} {t : TypeId} (h : Blk w g t #[a', b', c', d', e']) : Blk (put5 w g a b c d e) g t #[a, b, c, d, e] :=
  ((((h.put 0 a rfl).put 1 b rfl).put 2 c rfl).put 3 d rfl).put 4 e rfl
theorem blk_far5 {w : World} {g g' : Nat} {a b c d e : Value} {t : TypeId} {cs : Array Value} (h : Blk w g t cs) (hne : g ≠ g') : Blk (put5 w g' a b c d e) g t cs :=
  ((((h.far (p := ⟨g', 0, none⟩) hne a).far (p := ⟨g', 1, none⟩) hne b).far (p := ⟨g', 2, none⟩) hne c).far (p := ⟨g', 3, none⟩) hne d).far (p := ⟨g', 4, none⟩) hne e
theorem below_put5 {B : Nat} {w0 w : World} {g : Nat} {a b c d e : Value} (h : Below B w0 w) (hg : B ≤ g) : Below B w0 (put5 w g a b c d e) :=
  ((((h.setCell (p := ⟨g, 0, none⟩) hg a).setCell (p := ⟨g, 1, none⟩) hg b).setCell (p := ⟨g, 2, none⟩) hg c).setCell (p := ⟨g, 3, none⟩) hg d).setCell (p := ⟨g, 4, none⟩) hg e
def recF (S : St) (tm : Int) : St × Int := if S.s = 0 then (S, 0) else (⟨0, true, 1, 0, tm⟩, if S.h = true then 4 else 3)
set_option maxHeartbeats 1000000 in
theorem rec_walk (s : Int) (h : Bool) (a l t tm : Int) (w : World) : Calls Tryd.prog 11 #[.agg #[.int .i64 s, .bool h, .int .i64 a, .int .i64 l, .int .i64 t], .int .i64 tm] w fun e w' => e = .returned (.tuple #[stV (recF ⟨s, h, a, l, t⟩ tm).1, .int .i64 (recF ⟨s, h, a, l, t⟩ tm).2]) ∧ Below w.heap.size w w' := by
  by_cases hs : s = 0
  · have e1 : (s == 0) = true := beq_iff_eq.2 hs
    have HF := Lib.hid (show (⟨s, h, a, l, t⟩, 0) = recF ⟨s, h, a, l, t⟩ tm from by unfold recF; rw [if_pos hs])
    clear hs
    go_enter Tryd.func11, Tryd.ntmps11
    go_wp2
    exact bodyPost_ret (v := .tuple #[.agg #[.int .i64 s, .bool h, .int .i64 a, .int .i64 l, .int .i64 t], .int .i64 0]) (by simp [results, Tryd.results11, go_sem]) rfl ⟨ret_sv HF.out, by repeat (first | exact Below.refl _ _ | refine Below.setCell ?_ (by simp) _ | refine Below.alloc ?_ (by simp) _)⟩
  · have e1 : (s == 0) = false := beq_eq_false_iff_ne.2 hs
    cases h
    · have HF := Lib.hid (show (⟨0, true, 1, 0, tm⟩, 3) = recF ⟨s, false, a, l, t⟩ tm from by unfold recF; rw [if_neg hs]; rfl)
      clear hs
      go_enter Tryd.func11, Tryd.ntmps11
      go_wp2_with (fail)
      refine (start_walk _).mono ?_
      rintro e w1 ⟨rfl, hb1⟩
      have k5 := ((Blk.new w 25 #[.int .i64 s, .bool false, .int .i64 a, .int .i64 l, .int .i64 t]).alloc (.cells #[.int .i64 0, .bool false, .int .i64 0, .int .i64 0, .int .i64 0] 25)).below hb1
      have k6 := (Blk.new1 w (.cells #[.int .i64 s, .bool false, .int .i64 a, .int .i64 l, .int .i64 t] 25) 25 #[.int .i64 0, .bool false, .int .i64 0, .int .i64 0, .int .i64 0]).below hb1
      have hB := below_trans (((Below.refl w.heap.size w).alloc (Nat.le_refl _) _).alloc (by simp) _) hb1
      obtain ⟨⟨c0, c1, c2, c3, c4⟩, ⟨f0, f1, f2, f3, f4⟩, z1⟩ := blk5 k5
      obtain ⟨⟨d0, d1, d2, d3, d4⟩, ⟨g0, g1, g2, g3, g4⟩, z2⟩ := blk5 k6
      clear d0 d1 d2 d3 d4 g0 g1 g2 g3 g4
      have K5 := Lib.hid k5; clear k5
      have K6 := Lib.hid k6; clear k6
      go_upto_region 7 with (fail)
      have m5 : Blk (put5 w1 w.heap.size (.int .i64 0) (.bool true) (.int .i64 1) (.int .i64 0) (.int .i64 0)) w.heap.size 25 _ := blk_put5 K5.out
      have m6 : Blk (put5 w1 w.heap.size (.int .i64 0) (.bool true) (.int .i64 1) (.int .i64 0) (.int .i64 0)) (w.heap.size + 1) 25 _ := blk_far5 K6.out (by omega)
      have mB : Below w.heap.size w (put5 w1 w.heap.size (.int .i64 0) (.bool true) (.int .i64 1) (.int .i64 0) (.int .i64 0)) := below_put5 hB (Nat.le_refl _)
      unfold put5 at m5 m6 mB
      generalize ((((w1.setCell ⟨w.heap.size, 0, none⟩ (.int .i64 0)).setCell ⟨w.heap.size, 1, none⟩ (.bool true)).setCell ⟨w.heap.size, 2, none⟩ (.int .i64 1)).setCell ⟨w.heap.size, 3, none⟩ (.int .i64 0)).setCell ⟨w.heap.size, 4, none⟩ (.int .i64 0) = W at *
      clear c0 c1 c2 c3 c4 f0 f1 f2 f3 f4 z1 z2 hB hb1
      obtain ⟨⟨c0, c1, c2, c3, c4⟩, ⟨f0, f1, f2, f3, f4⟩, z1⟩ := blk5 m5
      obtain ⟨⟨d0, d1, d2, d3, d4⟩, ⟨g0, g1, g2, g3, g4⟩, z2⟩ := blk5 m6
      have M5 := Lib.hid m5; clear m5
      have M6 := Lib.hid m6; clear m6
      go_wp2
      refine bodyPost_ret (v := .tuple #[.agg #[.int .i64 0, .bool true, .int .i64 1, .int .i64 0, .int .i64 tm], .int .i64 3]) (res_cell_tmp (p := 4) (u := 5) rfl _ _ (w.heap.size + 1) 25 #[.int .i64 0, .bool true, .int .i64 1, .int .i64 0, .int .i64 tm] _ rfl (blk_put5 (M6.out.far (p := ⟨w.heap.size, 4, none⟩) (by simp) _)) Tryd.underlying25 rfl (by kernel_rfl)) rfl ⟨ret_sv HF.out, ?_⟩
      exact below_put5 (mB.setCell (by simp) _) (by omega)
    · have HF := Lib.hid (show (⟨0, true, 1, 0, tm⟩, 4) = recF ⟨s, true, a, l, t⟩ tm from by unfold recF; rw [if_neg hs]; rfl)
      clear hs
      go_enter Tryd.func11, Tryd.ntmps11
      go_wp2_with (fail)
      refine (start_walk _).mono ?_
      rintro e w1 ⟨rfl, hb1⟩
      have k5 := ((Blk.new w 25 #[.int .i64 s, .bool true, .int .i64 a, .int .i64 l, .int .i64 t]).alloc (.cells #[.int .i64 0, .bool false, .int .i64 0, .int .i64 0, .int .i64 0] 25)).below hb1
      have k6 := (Blk.new1 w (.cells #[.int .i64 s, .bool true, .int .i64 a, .int .i64 l, .int .i64 t] 25) 25 #[.int .i64 0, .bool false, .int .i64 0, .int .i64 0, .int .i64 0]).below hb1
      have hB := below_trans (((Below.refl w.heap.size w).alloc (Nat.le_refl _) _).alloc (by simp) _) hb1
      obtain ⟨⟨c0, c1, c2, c3, c4⟩, ⟨f0, f1, f2, f3, f4⟩, z1⟩ := blk5 k5
      obtain ⟨⟨d0, d1, d2, d3, d4⟩, ⟨g0, g1, g2, g3, g4⟩, z2⟩ := blk5 k6
      clear d0 d1 d2 d3 d4 g0 g1 g2 g3 g4
      have K5 := Lib.hid k5; clear k5
      have K6 := Lib.hid k6; clear k6
      go_upto_region 7 with (fail)
      have m5 : Blk (put5 w1 w.heap.size (.int .i64 0) (.bool true) (.int .i64 1) (.int .i64 0) (.int .i64 0)) w.heap.size 25 _ := blk_put5 K5.out
      have m6 : Blk (put5 w1 w.heap.size (.int .i64 0) (.bool true) (.int .i64 1) (.int .i64 0) (.int .i64 0)) (w.heap.size + 1) 25 _ := blk_far5 K6.out (by omega)
      have mB : Below w.heap.size w (put5 w1 w.heap.size (.int .i64 0) (.bool true) (.int .i64 1) (.int .i64 0) (.int .i64 0)) := below_put5 hB (Nat.le_refl _)
      unfold put5 at m5 m6 mB
      generalize ((((w1.setCell ⟨w.heap.size, 0, none⟩ (.int .i64 0)).setCell ⟨w.heap.size, 1, none⟩ (.bool true)).setCell ⟨w.heap.size, 2, none⟩ (.int .i64 1)).setCell ⟨w.heap.size, 3, none⟩ (.int .i64 0)).setCell ⟨w.heap.size, 4, none⟩ (.int .i64 0) = W at *
      clear c0 c1 c2 c3 c4 f0 f1 f2 f3 f4 z1 z2 hB hb1
      obtain ⟨⟨c0, c1, c2, c3, c4⟩, ⟨f0, f1, f2, f3, f4⟩, z1⟩ := blk5 m5
      obtain ⟨⟨d0, d1, d2, d3, d4⟩, ⟨g0, g1, g2, g3, g4⟩, z2⟩ := blk5 m6
      have M5 := Lib.hid m5; clear m5
      have M6 := Lib.hid m6; clear m6
      go_wp2
      refine bodyPost_ret (v := .tuple #[.agg #[.int .i64 0, .bool true, .int .i64 1, .int .i64 0, .int .i64 tm], .int .i64 4]) (res_cell_tmp (p := 4) (u := 5) rfl _ _ (w.heap.size + 1) 25 #[.int .i64 0, .bool true, .int .i64 1, .int .i64 0, .int .i64 tm] _ rfl (blk_put5 (M6.out.far (p := ⟨w.heap.size, 4, none⟩) (by simp) _)) Tryd.underlying25 rfl (by kernel_rfl)) rfl ⟨ret_sv HF.out, ?_⟩
      exact below_put5 (mB.setCell (by simp) _) (by omega)

set_option maxHeartbeats 2000000 in
theorem result_bad (s : Int) (h : Bool) (a l t m st tm : Int) (w : World) (hb : ¬ (okS ⟨s, h, a, l, t⟩ m ∧ okR st tm)) : Calls Tryd.prog 4 #[.agg #[.int .i64 s, .bool h, .int .i64 a, .int .i64 l, .int .i64 t], .int .i64 m, .int .i64 st, .int .i64 tm] w fun e w' => e = .returned (.tuple #[stV ⟨s, h, a, l, t⟩, .int .i64 0]) ∧ Below w.heap.size w w' := by
  have k0 := fun w1 (hb1 : Below _ _ w1) => ((Blk.new w 25 #[.int .i64 s, .bool h, .int .i64 a, .int .i64 l, .int .i64 t]).alloc (.cells #[.int .i64 0, .bool false, .int .i64 0, .int .i64 0, .int .i64 0] 25)).below hb1
  by_cases hs : okS ⟨s, h, a, l, t⟩ m
  · have hr : ¬ okR st tm := fun h => hb ⟨hs, h⟩
    have HC := Lib.hid (fun w => check_ok s h a l t m w hs)
    have HR := Lib.hid hr
    clear hb hs hr k0
    go_enter Tryd.func4, Tryd.ntmps4
    go_wp2_with (fail)
    refine (HC.out _).mono ?_
    rintro e w1 ⟨rfl, hb1⟩
    have k5 := ((Blk.new w 25 #[.int .i64 s, .bool h, .int .i64 a, .int .i64 l, .int .i64 t]).alloc (.cells #[.int .i64 0, .bool false, .int .i64 0, .int .i64 0, .int .i64 0] 25)).below hb1
    have k6 := (Blk.new1 w (.cells #[.int .i64 s, .bool h, .int .i64 a, .int .i64 l, .int .i64 t] 25) 25 #[.int .i64 0, .bool false, .int .i64 0, .int .i64 0, .int .i64 0]).below hb1
    have hB := below_trans (((Below.refl w.heap.size w).alloc (Nat.le_refl _) _).alloc (by simp) _) hb1
    obtain ⟨⟨c0, c1, c2, c3, c4⟩, ⟨f0, f1, f2, f3, f4⟩, z1⟩ := blk5 k5
    obtain ⟨⟨d0, d1, d2, d3, d4⟩, ⟨g0, g1, g2, g3, g4⟩, z2⟩ := blk5 k6
    have K5 := Lib.hid k5; clear k5
    have K6 := Lib.hid k6; clear k6
    go_upto_region 3 with (fail)
    all_goals first
      | (refine bodyPost_ret (v := .tuple #[.agg #[.int .i64 s, .bool h, .int .i64 a, .int .i64 l, .int .i64 t], .int .i64 0]) (res_cell_tmp (p := 8) (u := 9) rfl _ _ (w.heap.size + 1) 25 _ _ rfl (blk_put5 K6.out) Tryd.underlying25 rfl (by kernel_rfl)) rfl ⟨rfl, below_put5 hB (by omega)⟩)
      | (exfalso; apply HR.out; unfold okR; simp_all; done)
      | (exfalso; apply HR.out; unfold okR; simp_all; omega)
  · have HC := Lib.hid (fun w => check_bad s h a l t m w hs)
    clear hb hs k0
    go_enter Tryd.func4, Tryd.ntmps4
    go_wp2_with (fail)
    refine (HC.out _).mono ?_
    rintro e w1 ⟨rfl, hb1⟩
    have k5 := ((Blk.new w 25 #[.int .i64 s, .bool h, .int .i64 a, .int .i64 l, .int .i64 t]).alloc (.cells #[.int .i64 0, .bool false, .int .i64 0, .int .i64 0, .int .i64 0] 25)).below hb1
    have k6 := (Blk.new1 w (.cells #[.int .i64 s, .bool h, .int .i64 a, .int .i64 l, .int .i64 t] 25) 25 #[.int .i64 0, .bool false, .int .i64 0, .int .i64 0, .int .i64 0]).below hb1
    have hB := below_trans (((Below.refl w.heap.size w).alloc (Nat.le_refl _) _).alloc (by simp) _) hb1
    obtain ⟨⟨c0, c1, c2, c3, c4⟩, ⟨f0, f1, f2, f3, f4⟩, z1⟩ := blk5 k5
    obtain ⟨⟨d0, d1, d2, d3, d4⟩, ⟨g0, g1, g2, g3, g4⟩, z2⟩ := blk5 k6
    have K5 := Lib.hid k5; clear k5
    have K6 := Lib.hid k6; clear k6
    go_wp2
    refine bodyPost_ret (v := .tuple #[.agg #[.int .i64 s, .bool h, .int .i64 a, .int .i64 l, .int .i64 t], .int .i64 0]) (res_cell_tmp (p := 8) (u := 9) rfl _ _ (w.heap.size + 1) 25 _ _ rfl (blk_put5 K6.out) Tryd.underlying25 rfl (by kernel_rfl)) rfl ⟨rfl, below_put5 hB (by omega)⟩

theorem okR_facts {st tm : Int} (h : okR st tm) : decide (st < 0) = false ∧ decide (3 < st) = false ∧ decide (tm < 0) = false ∧ decide (4611686018427387904 < tm) = false := by
  unfold okR at h
  exact ⟨decide_eq_false (by omega), decide_eq_false (by omega), decide_eq_false (by omega), decide_eq_false (by omega)⟩
set_option maxHeartbeats 2000000 in
theorem result_zero (s : Int) (h : Bool) (a l t m tm : Int) (w : World) (hs : okS ⟨s, h, a, l, t⟩ m) (hr : okR 0 tm) : Calls Tryd.prog 4 #[.agg #[.int .i64 s, .bool h, .int .i64 a, .int .i64 l, .int .i64 t], .int .i64 m, .int .i64 0, .int .i64 tm] w fun e w' => e = .returned (.tuple #[stV (recF ⟨s, h, a, l, t⟩ tm).1, .int .i64 (recF ⟨s, h, a, l, t⟩ tm).2]) ∧ Below w.heap.size w w' := by
  obtain ⟨r1, r2, r3, r4⟩ := okR_facts hr
  have HC := Lib.hid (fun w => check_ok s h a l t m w hs)
  have HRec := Lib.hid (fun w => rec_walk s h a l t tm w)
  clear hs hr
  generalize recF ⟨s, h, a, l, t⟩ tm = R at *
  go_enter Tryd.func4, Tryd.ntmps4
  go_wp2_with (fail)
  refine (HC.out _).mono ?_
  rintro e w1 ⟨rfl, hb1⟩
  have k5 := ((Blk.new w 25 #[.int .i64 s, .bool h, .int .i64 a, .int .i64 l, .int .i64 t]).alloc (.cells #[.int .i64 0, .bool false, .int .i64 0, .int .i64 0, .int .i64 0] 25)).below hb1
  have k6 := (Blk.new1 w (.cells #[.int .i64 s, .bool h, .int .i64 a, .int .i64 l, .int .i64 t] 25) 25 #[.int .i64 0, .bool false, .int .i64 0, .int .i64 0, .int .i64 0]).below hb1
  have hB := below_trans (((Below.refl w.heap.size w).alloc (Nat.le_refl _) _).alloc (by simp) _) hb1
  have z1 := k5.lt
  have z2 := k6.lt
  obtain ⟨⟨c0, c1, c2, c3, c4⟩, ⟨f0, f1, f2, f3, f4⟩, _⟩ := blk5 k5
  obtain ⟨⟨d0, d1, d2, d3, d4⟩, ⟨g0, g1, g2, g3, g4⟩, _⟩ := blk5 k6
  have K6 := Lib.hid k6; clear k5 k6
  go_wp2_with (fail)
  refine (HRec.out _).mono ?_
  rintro e w2 ⟨rfl, hb2⟩
  unfold stV
  have n6 := K6.out.below hb2
  have nB := below_trans hB hb2
  clear c0 c1 c2 c3 c4 f0 f1 f2 f3 f4 d0 d1 d2 d3 d4 g0 g1 g2 g3 g4
  obtain ⟨⟨d0, d1, d2, d3, d4⟩, ⟨g0, g1, g2, g3, g4⟩, _⟩ := blk5 n6
  have N6 := Lib.hid n6; clear n6
  go_wp2
  refine bodyPost_ret (v := .tuple #[.agg #[.int .i64 R.1.s, .bool R.1.h, .int .i64 R.1.a, .int .i64 R.1.l, .int .i64 R.1.t], .int .i64 R.2]) (res_cell_tmp (p := 8) (u := 9) rfl _ _ (w.heap.size + 1) 25 _ _ rfl (blk_put5 (N6.out)) Tryd.underlying25 rfl (by kernel_rfl)) rfl ⟨rfl, below_put5 (nB) (by omega)⟩

set_option maxHeartbeats 2000000 in
theorem res_P_eq (s a l t m tm : Int) (w : World) (hs : okS ⟨s, true, a, l, t⟩ m) (hr : okR s tm) (hst : s ≠ 0) (hs0 : s ≠ 0) (hl : l = s) :
    Calls Tryd.prog 4 #[.agg #[.int .i64 s, .bool true, .int .i64 a, .int .i64 l, .int .i64 t], .int .i64 m, .int .i64 s, .int .i64 tm] w fun e w' => e = .returned (.tuple #[.agg #[.int .i64 s, .bool true, .int .i64 a, .int .i64 s, .int .i64 t], .int .i64 0]) ∧ Below w.heap.size w w' := by
  obtain ⟨r1, r2, r3, r4⟩ := okR_facts hr
  have HC := Lib.hid (fun w => check_ok s true a l t m w hs)
  have b1 : (s == 0) = false := beq_eq_false_iff_ne.2 hst
  have b3 : (s == 0) = false := beq_eq_false_iff_ne.2 hs0
  have b4 : (decide (s ≠ 0)) = true := decide_eq_true hs0
  have HL := Lib.hid hl; clear hl
  clear hs hr hst hs0
  go_enter Tryd.func4, Tryd.ntmps4
  go_wp2_with (fail)
  refine (HC.out _).mono ?_
  rintro e w1 ⟨rfl, hb1⟩
  have k5 := ((Blk.new w 25 #[.int .i64 s, .bool true, .int .i64 a, .int .i64 l, .int .i64 t]).alloc (.cells #[.int .i64 0, .bool false, .int .i64 0, .int .i64 0, .int .i64 0] 25)).below hb1
  have k6 := (Blk.new1 w (.cells #[.int .i64 s, .bool true, .int .i64 a, .int .i64 l, .int .i64 t] 25) 25 #[.int .i64 0, .bool false, .int .i64 0, .int .i64 0, .int .i64 0]).below hb1
  have hB := below_trans (((Below.refl w.heap.size w).alloc (Nat.le_refl _) _).alloc (by simp) _) hb1
  have z1 := k5.lt
  have z2 := k6.lt
  obtain ⟨⟨c0, c1, c2, c3, c4⟩, ⟨f0, f1, f2, f3, f4⟩, _⟩ := blk5 k5
  obtain ⟨⟨d0, d1, d2, d3, d4⟩, ⟨g0, g1, g2, g3, g4⟩, _⟩ := blk5 k6
  have K5 := Lib.hid k5; have K6 := Lib.hid k6; clear k5 k6
  clear d0 d1 d2 d3 d4 g0 g1 g2 g3 g4
  go_upto_region 9 with (fail)
  have m5 : Blk (w1.alloc (.cells #[.int .i64 s, .bool true, .int .i64 a, .int .i64 l, .int .i64 t] 25)) w.heap.size 25 #[.int .i64 s, .bool true, .int .i64 a, .int .i64 l, .int .i64 t] := K5.out.alloc _
  have m6 : Blk (w1.alloc (.cells #[.int .i64 s, .bool true, .int .i64 a, .int .i64 l, .int .i64 t] 25)) (w.heap.size + 1) 25 #[.int .i64 0, .bool false, .int .i64 0, .int .i64 0, .int .i64 0] := K6.out.alloc _
  have m7 : Blk (w1.alloc (.cells #[.int .i64 s, .bool true, .int .i64 a, .int .i64 l, .int .i64 t] 25)) w1.heap.size 25 #[.int .i64 s, .bool true, .int .i64 a, .int .i64 l, .int .i64 t] := Blk.new w1 25 _
  have mB : Below w.heap.size w (w1.alloc (.cells #[.int .i64 s, .bool true, .int .i64 a, .int .i64 l, .int .i64 t] 25)) := below_al hB _
  generalize w1.alloc (.cells #[.int .i64 s, .bool true, .int .i64 a, .int .i64 l, .int .i64 t] 25) = W at *
  have hgn : w1.heap.size ≠ w.heap.size := by omega
  generalize w1.heap.size = g at *
  clear c0 c1 c2 c3 c4 f0 f1 f2 f3 f4 hB hb1
  obtain ⟨⟨c0, c1, c2, c3, c4⟩, ⟨f0, f1, f2, f3, f4⟩, _⟩ := blk5 m7
  have M5 := Lib.hid m5; have M6 := Lib.hid m6; have M7 := Lib.hid m7; clear m5 m6 m7
  go_wp2_with (fail)
  refine (prob_walk s true a l t _).mono ?_
  rintro e w2 ⟨rfl, hb2⟩
  have n5 := M5.out.below hb2
  have n6 := M6.out.below hb2
  have n7 := M7.out.below hb2
  have nB := below_trans mB hb2
  have z5 := n5.lt
  have z6 := n6.lt
  have z7 := n7.lt
  clear c0 c1 c2 c3 c4 f0 f1 f2 f3 f4 mB hb2
  obtain ⟨⟨c0, c1, c2, c3, c4⟩, ⟨f0, f1, f2, f3, f4⟩, _⟩ := blk5 n5
  obtain ⟨⟨d0, d1, d2, d3, d4⟩, ⟨g0, g1, g2, g3, g4⟩, _⟩ := blk5 n6
  have o0 : w2.cell? ⟨g, 0, none⟩ = some (.int .i64 s) := n7.cell 0
  have hg : g ≠ w.heap.size := hgn
  have hg' : (g == w.heap.size) = false := beq_eq_false_iff_ne.2 hgn
  have N6 := Lib.hid n6; clear n6 n7
  clear n5
  go_wp2
  refine bodyPost_ret (v := .tuple #[.agg #[.int .i64 s, .bool true, .int .i64 a, .int .i64 s, .int .i64 t], .int .i64 0]) (res_cell_tmp (p := 8) (u := 9) rfl _ _ (w.heap.size + 1) 25 _ _ rfl (blk_put5 (by repeat (first | exact N6.out | refine Blk.far ?_ (by simp) _))) Tryd.underlying25 rfl (by kernel_rfl)) rfl ⟨rfl, below_put5 (by repeat (first | exact nB | refine Below.setCell ?_ (by simp) _)) (by omega)⟩

set_option maxHeartbeats 2000000 in
theorem res_P_ne (s a l t m st tm : Int) (w : World) (hs : okS ⟨s, true, a, l, t⟩ m) (hr : okR st tm) (hst : st ≠ 0) (hs0 : s ≠ 0) (hl : l = s) (hne : st ≠ s) :
    Calls Tryd.prog 4 #[.agg #[.int .i64 s, .bool true, .int .i64 a, .int .i64 l, .int .i64 t], .int .i64 m, .int .i64 st, .int .i64 tm] w fun e w' => e = .returned (.tuple #[.agg #[.int .i64 st, .bool true, .int .i64 a, .int .i64 st, .int .i64 tm], .int .i64 5]) ∧ Below w.heap.size w w' := by
  obtain ⟨r1, r2, r3, r4⟩ := okR_facts hr
  have HC := Lib.hid (fun w => check_ok s true a l t m w hs)
  have b1 : (st == 0) = false := beq_eq_false_iff_ne.2 hst
  have b2 : (st != s) = true := bne_iff_ne.2 hne
  have b2' : (st == s) = false := beq_eq_false_iff_ne.2 hne
  have b3 : (s == 0) = false := beq_eq_false_iff_ne.2 hs0
  have b4 : (decide (s ≠ 0)) = true := decide_eq_true hs0
  have HL := Lib.hid hl; clear hl
  clear hs hr hst hs0 hne
  go_enter Tryd.func4, Tryd.ntmps4
  go_wp2_with (fail)
  refine (HC.out _).mono ?_
  rintro e w1 ⟨rfl, hb1⟩
  have k5 := ((Blk.new w 25 #[.int .i64 s, .bool true, .int .i64 a, .int .i64 l, .int .i64 t]).alloc (.cells #[.int .i64 0, .bool false, .int .i64 0, .int .i64 0, .int .i64 0] 25)).below hb1
  have k6 := (Blk.new1 w (.cells #[.int .i64 s, .bool true, .int .i64 a, .int .i64 l, .int .i64 t] 25) 25 #[.int .i64 0, .bool false, .int .i64 0, .int .i64 0, .int .i64 0]).below hb1
  have hB := below_trans (((Below.refl w.heap.size w).alloc (Nat.le_refl _) _).alloc (by simp) _) hb1
  have z1 := k5.lt
  have z2 := k6.lt
  obtain ⟨⟨c0, c1, c2, c3, c4⟩, ⟨f0, f1, f2, f3, f4⟩, _⟩ := blk5 k5
  obtain ⟨⟨d0, d1, d2, d3, d4⟩, ⟨g0, g1, g2, g3, g4⟩, _⟩ := blk5 k6
  have K5 := Lib.hid k5; have K6 := Lib.hid k6; clear k5 k6
  clear d0 d1 d2 d3 d4 g0 g1 g2 g3 g4
  go_upto_region 9 with (fail)
  have m5 : Blk (((w1.setCell ⟨w.heap.size, 0, none⟩ (.int .i64 st)).setCell ⟨w.heap.size, 4, none⟩ (.int .i64 tm)).alloc (.cells #[.int .i64 s, .bool true, .int .i64 a, .int .i64 l, .int .i64 t] 25)) w.heap.size 25 #[.int .i64 st, .bool true, .int .i64 a, .int .i64 l, .int .i64 tm] := ((K5.out.put 0 _ rfl).put 4 _ rfl).alloc _
  have m6 : Blk (((w1.setCell ⟨w.heap.size, 0, none⟩ (.int .i64 st)).setCell ⟨w.heap.size, 4, none⟩ (.int .i64 tm)).alloc (.cells #[.int .i64 s, .bool true, .int .i64 a, .int .i64 l, .int .i64 t] 25)) (w.heap.size + 1) 25 #[.int .i64 0, .bool false, .int .i64 0, .int .i64 0, .int .i64 0] := ((K6.out.far (by simp) _).far (by simp) _).alloc _
  have m7 : Blk (((w1.setCell ⟨w.heap.size, 0, none⟩ (.int .i64 st)).setCell ⟨w.heap.size, 4, none⟩ (.int .i64 tm)).alloc (.cells #[.int .i64 s, .bool true, .int .i64 a, .int .i64 l, .int .i64 t] 25)) w1.heap.size 25 #[.int .i64 s, .bool true, .int .i64 a, .int .i64 l, .int .i64 t] := by have h := Blk.new ((w1.setCell ⟨w.heap.size, 0, none⟩ (.int .i64 st)).setCell ⟨w.heap.size, 4, none⟩ (.int .i64 tm)) 25 #[.int .i64 s, .bool true, .int .i64 a, .int .i64 l, .int .i64 t]; simpa using h
  have mB : Below w.heap.size w (((w1.setCell ⟨w.heap.size, 0, none⟩ (.int .i64 st)).setCell ⟨w.heap.size, 4, none⟩ (.int .i64 tm)).alloc (.cells #[.int .i64 s, .bool true, .int .i64 a, .int .i64 l, .int .i64 t] 25)) := below_al ((hB.setCell (by simp) _).setCell (by simp) _) _
  generalize ((w1.setCell ⟨w.heap.size, 0, none⟩ (.int .i64 st)).setCell ⟨w.heap.size, 4, none⟩ (.int .i64 tm)).alloc (.cells #[.int .i64 s, .bool true, .int .i64 a, .int .i64 l, .int .i64 t] 25) = W at *
  have hgn : w1.heap.size ≠ w.heap.size := by omega
  generalize w1.heap.size = g at *
  clear c0 c1 c2 c3 c4 f0 f1 f2 f3 f4 hB hb1
  obtain ⟨⟨c0, c1, c2, c3, c4⟩, ⟨f0, f1, f2, f3, f4⟩, _⟩ := blk5 m7
  have M5 := Lib.hid m5; have M6 := Lib.hid m6; have M7 := Lib.hid m7; clear m5 m6 m7
  go_wp2_with (fail)
  refine (prob_walk s true a l t _).mono ?_
  rintro e w2 ⟨rfl, hb2⟩
  have n5 := M5.out.below hb2
  have n6 := M6.out.below hb2
  have n7 := M7.out.below hb2
  have nB := below_trans mB hb2
  have z5 := n5.lt
  have z6 := n6.lt
  have z7 := n7.lt
  clear c0 c1 c2 c3 c4 f0 f1 f2 f3 f4 mB hb2
  obtain ⟨⟨c0, c1, c2, c3, c4⟩, ⟨f0, f1, f2, f3, f4⟩, _⟩ := blk5 n5
  obtain ⟨⟨d0, d1, d2, d3, d4⟩, ⟨g0, g1, g2, g3, g4⟩, _⟩ := blk5 n6
  have o0 : w2.cell? ⟨g, 0, none⟩ = some (.int .i64 s) := n7.cell 0
  have hg : g ≠ w.heap.size := hgn
  have hg' : (g == w.heap.size) = false := beq_eq_false_iff_ne.2 hgn
  have N6 := Lib.hid n6; clear n6 n7
  clear n5
  go_wp2
  refine bodyPost_ret (v := .tuple #[.agg #[.int .i64 st, .bool true, .int .i64 a, .int .i64 st, .int .i64 tm], .int .i64 5]) (res_cell_tmp (p := 8) (u := 9) rfl _ _ (w.heap.size + 1) 25 _ _ rfl (blk_put5 (by repeat (first | exact N6.out | refine Blk.far ?_ (by simp) _))) Tryd.underlying25 rfl (by kernel_rfl)) rfl ⟨rfl, below_put5 (by repeat (first | exact nB | refine Below.setCell ?_ (by simp) _)) (by omega)⟩

set_option maxHeartbeats 2000000 in
theorem res_Z_lt (t m st tm : Int) (w : World) (hs : okS ⟨0, true, 1, 0, t⟩ m) (hr : okR st tm) (hst : st ≠ 0) (hlt : 1 < m) :
    Calls Tryd.prog 4 #[.agg #[.int .i64 0, .bool true, .int .i64 1, .int .i64 0, .int .i64 t], .int .i64 m, .int .i64 st, .int .i64 tm] w fun e w' => e = .returned (.tuple #[.agg #[.int .i64 st, .bool false, .int .i64 1, .int .i64 0, .int .i64 tm], .int .i64 1]) ∧ Below w.heap.size w w' := by
  obtain ⟨r1, r2, r3, r4⟩ := okR_facts hr
  have HC := Lib.hid (fun w => check_ok 0 true 1 0 t m w hs)
  have b1 : (st == 0) = false := beq_eq_false_iff_ne.2 hst
  have b2 : (st != 0) = true := bne_iff_ne.2 hst
  have b5 : decide (1 < m) = true := decide_eq_true hlt
  clear hs hr hst hlt
  go_enter Tryd.func4, Tryd.ntmps4
  go_wp2_with (fail)
  refine (HC.out _).mono ?_
  rintro e w1 ⟨rfl, hb1⟩
  have k5 := ((Blk.new w 25 #[.int .i64 0, .bool true, .int .i64 1, .int .i64 0, .int .i64 t]).alloc (.cells #[.int .i64 0, .bool false, .int .i64 0, .int .i64 0, .int .i64 0] 25)).below hb1
  have k6 := (Blk.new1 w (.cells #[.int .i64 0, .bool true, .int .i64 1, .int .i64 0, .int .i64 t] 25) 25 #[.int .i64 0, .bool false, .int .i64 0, .int .i64 0, .int .i64 0]).below hb1
  have hB := below_trans (((Below.refl w.heap.size w).alloc (Nat.le_refl _) _).alloc (by simp) _) hb1
  have z1 := k5.lt
  have z2 := k6.lt
  obtain ⟨⟨c0, c1, c2, c3, c4⟩, ⟨f0, f1, f2, f3, f4⟩, _⟩ := blk5 k5
  obtain ⟨⟨d0, d1, d2, d3, d4⟩, ⟨g0, g1, g2, g3, g4⟩, _⟩ := blk5 k6
  have K5 := Lib.hid k5; have K6 := Lib.hid k6; clear k5 k6
  clear d0 d1 d2 d3 d4 g0 g1 g2 g3 g4
  go_upto_region 9 with (fail)
  have m5 : Blk (((w1.setCell ⟨w.heap.size, 0, none⟩ (.int .i64 st)).setCell ⟨w.heap.size, 4, none⟩ (.int .i64 tm)).alloc (.cells #[.int .i64 0, .bool true, .int .i64 1, .int .i64 0, .int .i64 t] 25)) w.heap.size 25 #[.int .i64 st, .bool true, .int .i64 1, .int .i64 0, .int .i64 tm] := ((K5.out.put 0 _ rfl).put 4 _ rfl).alloc _
  have m6 : Blk (((w1.setCell ⟨w.heap.size, 0, none⟩ (.int .i64 st)).setCell ⟨w.heap.size, 4, none⟩ (.int .i64 tm)).alloc (.cells #[.int .i64 0, .bool true, .int .i64 1, .int .i64 0, .int .i64 t] 25)) (w.heap.size + 1) 25 #[.int .i64 0, .bool false, .int .i64 0, .int .i64 0, .int .i64 0] := ((K6.out.far (by simp) _).far (by simp) _).alloc _
  have m7 : Blk (((w1.setCell ⟨w.heap.size, 0, none⟩ (.int .i64 st)).setCell ⟨w.heap.size, 4, none⟩ (.int .i64 tm)).alloc (.cells #[.int .i64 0, .bool true, .int .i64 1, .int .i64 0, .int .i64 t] 25)) w1.heap.size 25 #[.int .i64 0, .bool true, .int .i64 1, .int .i64 0, .int .i64 t] := by have h := Blk.new ((w1.setCell ⟨w.heap.size, 0, none⟩ (.int .i64 st)).setCell ⟨w.heap.size, 4, none⟩ (.int .i64 tm)) 25 #[.int .i64 0, .bool true, .int .i64 1, .int .i64 0, .int .i64 t]; simpa using h
  have mB : Below w.heap.size w (((w1.setCell ⟨w.heap.size, 0, none⟩ (.int .i64 st)).setCell ⟨w.heap.size, 4, none⟩ (.int .i64 tm)).alloc (.cells #[.int .i64 0, .bool true, .int .i64 1, .int .i64 0, .int .i64 t] 25)) := below_al ((hB.setCell (by simp) _).setCell (by simp) _) _
  generalize ((w1.setCell ⟨w.heap.size, 0, none⟩ (.int .i64 st)).setCell ⟨w.heap.size, 4, none⟩ (.int .i64 tm)).alloc (.cells #[.int .i64 0, .bool true, .int .i64 1, .int .i64 0, .int .i64 t] 25) = W at *
  have hgn : w1.heap.size ≠ w.heap.size := by omega
  generalize w1.heap.size = g at *
  clear c0 c1 c2 c3 c4 f0 f1 f2 f3 f4 hB hb1
  obtain ⟨⟨c0, c1, c2, c3, c4⟩, ⟨f0, f1, f2, f3, f4⟩, _⟩ := blk5 m7
  have M5 := Lib.hid m5; have M6 := Lib.hid m6; have M7 := Lib.hid m7; clear m5 m6 m7
  go_wp2_with (fail)
  refine (prob_walk 0 true 1 0 t _).mono ?_
  rintro e w2 ⟨rfl, hb2⟩
  have n5 := M5.out.below hb2
  have n6 := M6.out.below hb2
  have n7 := M7.out.below hb2
  have nB := below_trans mB hb2
  have z5 := n5.lt
  have z6 := n6.lt
  have z7 := n7.lt
  clear c0 c1 c2 c3 c4 f0 f1 f2 f3 f4 mB hb2
  obtain ⟨⟨c0, c1, c2, c3, c4⟩, ⟨f0, f1, f2, f3, f4⟩, _⟩ := blk5 n5
  obtain ⟨⟨d0, d1, d2, d3, d4⟩, ⟨g0, g1, g2, g3, g4⟩, _⟩ := blk5 n6
  have o0 : w2.cell? ⟨g, 0, none⟩ = some (.int .i64 0) := n7.cell 0
  have hg : g ≠ w.heap.size := hgn
  have hg' : (g == w.heap.size) = false := beq_eq_false_iff_ne.2 hgn
  have N6 := Lib.hid n6; clear n6 n7
  go_upto_region 16 with (fail)
  have p5 : Blk ((w2.setCell ⟨w.heap.size, 2, none⟩ (.int .i64 1)).setCell ⟨w.heap.size, 1, none⟩ (.bool false)) w.heap.size 25 #[.int .i64 st, .bool false, .int .i64 1, .int .i64 0, .int .i64 tm] := (n5.put 2 _ rfl).put 1 _ rfl
  have p6 : Blk ((w2.setCell ⟨w.heap.size, 2, none⟩ (.int .i64 1)).setCell ⟨w.heap.size, 1, none⟩ (.bool false)) (w.heap.size + 1) 25 #[.int .i64 0, .bool false, .int .i64 0, .int .i64 0, .int .i64 0] := (N6.out.far (by simp) _).far (by simp) _
  have pB : Below w.heap.size w ((w2.setCell ⟨w.heap.size, 2, none⟩ (.int .i64 1)).setCell ⟨w.heap.size, 1, none⟩ (.bool false)) := (nB.setCell (by simp) _).setCell (by simp) _
  generalize (w2.setCell ⟨w.heap.size, 2, none⟩ (.int .i64 1)).setCell ⟨w.heap.size, 1, none⟩ (.bool false) = W3 at *
  clear c0 c1 c2 c3 c4 f0 f1 f2 f3 f4 d0 d1 d2 d3 d4 g0 g1 g2 g3 g4 n5 N6 nB z5 z6 z7 o0
  obtain ⟨⟨c0, c1, c2, c3, c4⟩, ⟨f0, f1, f2, f3, f4⟩, _⟩ := blk5 p5
  obtain ⟨⟨d0, d1, d2, d3, d4⟩, ⟨g0, g1, g2, g3, g4⟩, _⟩ := blk5 p6
  have N6 := Lib.hid p6; clear p5 p6
  have nB := pB; clear pB
  go_wp2
  refine bodyPost_ret (v := .tuple #[.agg #[.int .i64 st, .bool false, .int .i64 1, .int .i64 0, .int .i64 tm], .int .i64 1]) (res_cell_tmp (p := 8) (u := 9) rfl _ _ (w.heap.size + 1) 25 _ _ rfl (blk_put5 (by repeat (first | exact N6.out | refine Blk.far ?_ (by simp) _))) Tryd.underlying25 rfl (by kernel_rfl)) rfl ⟨rfl, below_put5 (by repeat (first | exact nB | refine Below.setCell ?_ (by simp) _)) (by omega)⟩

set_option maxHeartbeats 2000000 in
theorem res_Z_ge (t m st tm : Int) (w : World) (hs : okS ⟨0, true, 1, 0, t⟩ m) (hr : okR st tm) (hst : st ≠ 0) (hlt : ¬ 1 < m) :
    Calls Tryd.prog 4 #[.agg #[.int .i64 0, .bool true, .int .i64 1, .int .i64 0, .int .i64 t], .int .i64 m, .int .i64 st, .int .i64 tm] w fun e w' => e = .returned (.tuple #[.agg #[.int .i64 st, .bool true, .int .i64 1, .int .i64 st, .int .i64 tm], .int .i64 2]) ∧ Below w.heap.size w w' := by
  obtain ⟨r1, r2, r3, r4⟩ := okR_facts hr
  have HC := Lib.hid (fun w => check_ok 0 true 1 0 t m w hs)
  have b1 : (st == 0) = false := beq_eq_false_iff_ne.2 hst
  have b2 : (st != 0) = true := bne_iff_ne.2 hst
  have b5 : decide (1 < m) = false := decide_eq_false hlt
  clear hs hr hst hlt
  go_enter Tryd.func4, Tryd.ntmps4
  go_wp2_with (fail)
  refine (HC.out _).mono ?_
  rintro e w1 ⟨rfl, hb1⟩
  have k5 := ((Blk.new w 25 #[.int .i64 0, .bool true, .int .i64 1, .int .i64 0, .int .i64 t]).alloc (.cells #[.int .i64 0, .bool false, .int .i64 0, .int .i64 0, .int .i64 0] 25)).below hb1
  have k6 := (Blk.new1 w (.cells #[.int .i64 0, .bool true, .int .i64 1, .int .i64 0, .int .i64 t] 25) 25 #[.int .i64 0, .bool false, .int .i64 0, .int .i64 0, .int .i64 0]).below hb1
  have hB := below_trans (((Below.refl w.heap.size w).alloc (Nat.le_refl _) _).alloc (by simp) _) hb1
  have z1 := k5.lt
  have z2 := k6.lt
  obtain ⟨⟨c0, c1, c2, c3, c4⟩, ⟨f0, f1, f2, f3, f4⟩, _⟩ := blk5 k5
  obtain ⟨⟨d0, d1, d2, d3, d4⟩, ⟨g0, g1, g2, g3, g4⟩, _⟩ := blk5 k6
  have K5 := Lib.hid k5; have K6 := Lib.hid k6; clear k5 k6
  clear d0 d1 d2 d3 d4 g0 g1 g2 g3 g4
  go_upto_region 9 with (fail)
  have m5 : Blk (((w1.setCell ⟨w.heap.size, 0, none⟩ (.int .i64 st)).setCell ⟨w.heap.size, 4, none⟩ (.int .i64 tm)).alloc (.cells #[.int .i64 0, .bool true, .int .i64 1, .int .i64 0, .int .i64 t] 25)) w.heap.size 25 #[.int .i64 st, .bool true, .int .i64 1, .int .i64 0, .int .i64 tm] := ((K5.out.put 0 _ rfl).put 4 _ rfl).alloc _
  have m6 : Blk (((w1.setCell ⟨w.heap.size, 0, none⟩ (.int .i64 st)).setCell ⟨w.heap.size, 4, none⟩ (.int .i64 tm)).alloc (.cells #[.int .i64 0, .bool true, .int .i64 1, .int .i64 0, .int .i64 t] 25)) (w.heap.size + 1) 25 #[.int .i64 0, .bool false, .int .i64 0, .int .i64 0, .int .i64 0] := ((K6.out.far (by simp) _).far (by simp) _).alloc _
  have m7 : Blk (((w1.setCell ⟨w.heap.size, 0, none⟩ (.int .i64 st)).setCell ⟨w.heap.size, 4, none⟩ (.int .i64 tm)).alloc (.cells #[.int .i64 0, .bool true, .int .i64 1, .int .i64 0, .int .i64 t] 25)) w1.heap.size 25 #[.int .i64 0, .bool true, .int .i64 1, .int .i64 0, .int .i64 t] := by have h := Blk.new ((w1.setCell ⟨w.heap.size, 0, none⟩ (.int .i64 st)).setCell ⟨w.heap.size, 4, none⟩ (.int .i64 tm)) 25 #[.int .i64 0, .bool true, .int .i64 1, .int .i64 0, .int .i64 t]; simpa using h
  have mB : Below w.heap.size w (((w1.setCell ⟨w.heap.size, 0, none⟩ (.int .i64 st)).setCell ⟨w.heap.size, 4, none⟩ (.int .i64 tm)).alloc (.cells #[.int .i64 0, .bool true, .int .i64 1, .int .i64 0, .int .i64 t] 25)) := below_al ((hB.setCell (by simp) _).setCell (by simp) _) _
  generalize ((w1.setCell ⟨w.heap.size, 0, none⟩ (.int .i64 st)).setCell ⟨w.heap.size, 4, none⟩ (.int .i64 tm)).alloc (.cells #[.int .i64 0, .bool true, .int .i64 1, .int .i64 0, .int .i64 t] 25) = W at *
  have hgn : w1.heap.size ≠ w.heap.size := by omega
  generalize w1.heap.size = g at *
  clear c0 c1 c2 c3 c4 f0 f1 f2 f3 f4 hB hb1
  obtain ⟨⟨c0, c1, c2, c3, c4⟩, ⟨f0, f1, f2, f3, f4⟩, _⟩ := blk5 m7
  have M5 := Lib.hid m5; have M6 := Lib.hid m6; have M7 := Lib.hid m7; clear m5 m6 m7
  go_wp2_with (fail)
  refine (prob_walk 0 true 1 0 t _).mono ?_
  rintro e w2 ⟨rfl, hb2⟩
  have n5 := M5.out.below hb2
  have n6 := M6.out.below hb2
  have n7 := M7.out.below hb2
  have nB := below_trans mB hb2
  have z5 := n5.lt
  have z6 := n6.lt
  have z7 := n7.lt
  clear c0 c1 c2 c3 c4 f0 f1 f2 f3 f4 mB hb2
  obtain ⟨⟨c0, c1, c2, c3, c4⟩, ⟨f0, f1, f2, f3, f4⟩, _⟩ := blk5 n5
  obtain ⟨⟨d0, d1, d2, d3, d4⟩, ⟨g0, g1, g2, g3, g4⟩, _⟩ := blk5 n6
  have o0 : w2.cell? ⟨g, 0, none⟩ = some (.int .i64 0) := n7.cell 0
  have hg : g ≠ w.heap.size := hgn
  have hg' : (g == w.heap.size) = false := beq_eq_false_iff_ne.2 hgn
  have N6 := Lib.hid n6; clear n6 n7
  go_upto_region 16 with (fail)
  have p5 : Blk ((w2.setCell ⟨w.heap.size, 2, none⟩ (.int .i64 1)).setCell ⟨w.heap.size, 1, none⟩ (.bool false)) w.heap.size 25 #[.int .i64 st, .bool false, .int .i64 1, .int .i64 0, .int .i64 tm] := (n5.put 2 _ rfl).put 1 _ rfl
  have p6 : Blk ((w2.setCell ⟨w.heap.size, 2, none⟩ (.int .i64 1)).setCell ⟨w.heap.size, 1, none⟩ (.bool false)) (w.heap.size + 1) 25 #[.int .i64 0, .bool false, .int .i64 0, .int .i64 0, .int .i64 0] := (N6.out.far (by simp) _).far (by simp) _
  have pB : Below w.heap.size w ((w2.setCell ⟨w.heap.size, 2, none⟩ (.int .i64 1)).setCell ⟨w.heap.size, 1, none⟩ (.bool false)) := (nB.setCell (by simp) _).setCell (by simp) _
  generalize (w2.setCell ⟨w.heap.size, 2, none⟩ (.int .i64 1)).setCell ⟨w.heap.size, 1, none⟩ (.bool false) = W3 at *
  clear c0 c1 c2 c3 c4 f0 f1 f2 f3 f4 d0 d1 d2 d3 d4 g0 g1 g2 g3 g4 n5 N6 nB z5 z6 z7 o0
  obtain ⟨⟨c0, c1, c2, c3, c4⟩, ⟨f0, f1, f2, f3, f4⟩, _⟩ := blk5 p5
  obtain ⟨⟨d0, d1, d2, d3, d4⟩, ⟨g0, g1, g2, g3, g4⟩, _⟩ := blk5 p6
  have N6 := Lib.hid p6; clear p5 p6
  have nB := pB; clear pB
  go_wp2
  refine bodyPost_ret (v := .tuple #[.agg #[.int .i64 st, .bool true, .int .i64 1, .int .i64 st, .int .i64 tm], .int .i64 2]) (res_cell_tmp (p := 8) (u := 9) rfl _ _ (w.heap.size + 1) 25 _ _ rfl (blk_put5 (by repeat (first | exact N6.out | refine Blk.far ?_ (by simp) _))) Tryd.underlying25 rfl (by kernel_rfl)) rfl ⟨rfl, below_put5 (by repeat (first | exact nB | refine Below.setCell ?_ (by simp) _)) (by omega)⟩

set_option maxHeartbeats 2000000 in
theorem res_F_eq_lt (s a t m tm : Int) (w : World) (hs : okS ⟨s, false, a, 0, t⟩ m) (hr : okR s tm) (hst : s ≠ 0) (hs0 : s ≠ 0) (hlt : a + 1 < m) (ha1 : 1 ≤ a) (ha2 : a ≤ 100) :
    Calls Tryd.prog 4 #[.agg #[.int .i64 s, .bool false, .int .i64 a, .int .i64 0, .int .i64 t], .int .i64 m, .int .i64 s, .int .i64 tm] w fun e w' => e = .returned (.tuple #[.agg #[.int .i64 s, .bool false, .int .i64 (a + 1), .int .i64 0, .int .i64 t], .int .i64 1]) ∧ Below w.heap.size w w' := by
  obtain ⟨r1, r2, r3, r4⟩ := okR_facts hr
  have HC := Lib.hid (fun w => check_ok s false a 0 t m w hs)
  have b1 : (s == 0) = false := beq_eq_false_iff_ne.2 hst
  have b3 : (s == 0) = false := beq_eq_false_iff_ne.2 hs0
  have b4 : (decide (s ≠ 0)) = true := decide_eq_true hs0
  have b5 : decide (a + 1 < m) = true := decide_eq_true hlt
  clear hs hr hst hs0 hlt
  go_enter Tryd.func4, Tryd.ntmps4
  go_wp2_with (fail)
  refine (HC.out _).mono ?_
  rintro e w1 ⟨rfl, hb1⟩
  have k5 := ((Blk.new w 25 #[.int .i64 s, .bool false, .int .i64 a, .int .i64 0, .int .i64 t]).alloc (.cells #[.int .i64 0, .bool false, .int .i64 0, .int .i64 0, .int .i64 0] 25)).below hb1
  have k6 := (Blk.new1 w (.cells #[.int .i64 s, .bool false, .int .i64 a, .int .i64 0, .int .i64 t] 25) 25 #[.int .i64 0, .bool false, .int .i64 0, .int .i64 0, .int .i64 0]).below hb1
  have hB := below_trans (((Below.refl w.heap.size w).alloc (Nat.le_refl _) _).alloc (by simp) _) hb1
  have z1 := k5.lt
  have z2 := k6.lt
  obtain ⟨⟨c0, c1, c2, c3, c4⟩, ⟨f0, f1, f2, f3, f4⟩, _⟩ := blk5 k5
  obtain ⟨⟨d0, d1, d2, d3, d4⟩, ⟨g0, g1, g2, g3, g4⟩, _⟩ := blk5 k6
  have K5 := Lib.hid k5; have K6 := Lib.hid k6; clear k5 k6
  clear d0 d1 d2 d3 d4 g0 g1 g2 g3 g4
  go_upto_region 9 with (fail)
  have m5 : Blk (w1.alloc (.cells #[.int .i64 s, .bool false, .int .i64 a, .int .i64 0, .int .i64 t] 25)) w.heap.size 25 #[.int .i64 s, .bool false, .int .i64 a, .int .i64 0, .int .i64 t] := K5.out.alloc _
  have m6 : Blk (w1.alloc (.cells #[.int .i64 s, .bool false, .int .i64 a, .int .i64 0, .int .i64 t] 25)) (w.heap.size + 1) 25 #[.int .i64 0, .bool false, .int .i64 0, .int .i64 0, .int .i64 0] := K6.out.alloc _
  have m7 : Blk (w1.alloc (.cells #[.int .i64 s, .bool false, .int .i64 a, .int .i64 0, .int .i64 t] 25)) w1.heap.size 25 #[.int .i64 s, .bool false, .int .i64 a, .int .i64 0, .int .i64 t] := Blk.new w1 25 _
  have mB : Below w.heap.size w (w1.alloc (.cells #[.int .i64 s, .bool false, .int .i64 a, .int .i64 0, .int .i64 t] 25)) := below_al hB _
  generalize w1.alloc (.cells #[.int .i64 s, .bool false, .int .i64 a, .int .i64 0, .int .i64 t] 25) = W at *
  have hgn : w1.heap.size ≠ w.heap.size := by omega
  generalize w1.heap.size = g at *
  clear c0 c1 c2 c3 c4 f0 f1 f2 f3 f4 hB hb1
  obtain ⟨⟨c0, c1, c2, c3, c4⟩, ⟨f0, f1, f2, f3, f4⟩, _⟩ := blk5 m7
  have M5 := Lib.hid m5; have M6 := Lib.hid m6; have M7 := Lib.hid m7; clear m5 m6 m7
  go_wp2_with (fail)
  refine (prob_walk s false a 0 t _).mono ?_
  rintro e w2 ⟨rfl, hb2⟩
  have n5 := M5.out.below hb2
  have n6 := M6.out.below hb2
  have n7 := M7.out.below hb2
  have nB := below_trans mB hb2
  have z5 := n5.lt
  have z6 := n6.lt
  have z7 := n7.lt
  clear c0 c1 c2 c3 c4 f0 f1 f2 f3 f4 mB hb2
  obtain ⟨⟨c0, c1, c2, c3, c4⟩, ⟨f0, f1, f2, f3, f4⟩, _⟩ := blk5 n5
  obtain ⟨⟨d0, d1, d2, d3, d4⟩, ⟨g0, g1, g2, g3, g4⟩, _⟩ := blk5 n6
  have o0 : w2.cell? ⟨g, 0, none⟩ = some (.int .i64 s) := n7.cell 0
  have hg : g ≠ w.heap.size := hgn
  have hg' : (g == w.heap.size) = false := beq_eq_false_iff_ne.2 hgn
  have N6 := Lib.hid n6; clear n6 n7
  clear n5
  go_wp2
  refine bodyPost_ret (v := .tuple #[.agg #[.int .i64 s, .bool false, .int .i64 (a + 1), .int .i64 0, .int .i64 t], .int .i64 1]) (res_cell_tmp (p := 8) (u := 9) rfl _ _ (w.heap.size + 1) 25 _ _ rfl (blk_put5 (by repeat (first | exact N6.out | refine Blk.far ?_ (by simp) _))) Tryd.underlying25 rfl (by kernel_rfl)) rfl ⟨rfl, below_put5 (by repeat (first | exact nB | refine Below.setCell ?_ (by simp) _)) (by omega)⟩

set_option maxHeartbeats 2000000 in
theorem res_F_eq_ge (s a t m tm : Int) (w : World) (hs : okS ⟨s, false, a, 0, t⟩ m) (hr : okR s tm) (hst : s ≠ 0) (hs0 : s ≠ 0) (hlt : ¬ a + 1 < m) (ha1 : 1 ≤ a) (ha2 : a ≤ 100) :
    Calls Tryd.prog 4 #[.agg #[.int .i64 s, .bool false, .int .i64 a, .int .i64 0, .int .i64 t], .int .i64 m, .int .i64 s, .int .i64 tm] w fun e w' => e = .returned (.tuple #[.agg #[.int .i64 s, .bool true, .int .i64 (a + 1), .int .i64 s, .int .i64 t], .int .i64 2]) ∧ Below w.heap.size w w' := by
  obtain ⟨r1, r2, r3, r4⟩ := okR_facts hr
  have HC := Lib.hid (fun w => check_ok s false a 0 t m w hs)
  have b1 : (s == 0) = false := beq_eq_false_iff_ne.2 hst
  have b3 : (s == 0) = false := beq_eq_false_iff_ne.2 hs0
  have b4 : (decide (s ≠ 0)) = true := decide_eq_true hs0
  have b5 : decide (a + 1 < m) = false := decide_eq_false hlt
  clear hs hr hst hs0 hlt
  go_enter Tryd.func4, Tryd.ntmps4
  go_wp2_with (fail)
  refine (HC.out _).mono ?_
  rintro e w1 ⟨rfl, hb1⟩
  have k5 := ((Blk.new w 25 #[.int .i64 s, .bool false, .int .i64 a, .int .i64 0, .int .i64 t]).alloc (.cells #[.int .i64 0, .bool false, .int .i64 0, .int .i64 0, .int .i64 0] 25)).below hb1
  have k6 := (Blk.new1 w (.cells #[.int .i64 s, .bool false, .int .i64 a, .int .i64 0, .int .i64 t] 25) 25 #[.int .i64 0, .bool false, .int .i64 0, .int .i64 0, .int .i64 0]).below hb1
  have hB := below_trans (((Below.refl w.heap.size w).alloc (Nat.le_refl _) _).alloc (by simp) _) hb1
  have z1 := k5.lt
  have z2 := k6.lt
  obtain ⟨⟨c0, c1, c2, c3, c4⟩, ⟨f0, f1, f2, f3, f4⟩, _⟩ := blk5 k5
  obtain ⟨⟨d0, d1, d2, d3, d4⟩, ⟨g0, g1, g2, g3, g4⟩, _⟩ := blk5 k6
  have K5 := Lib.hid k5; have K6 := Lib.hid k6; clear k5 k6
  clear d0 d1 d2 d3 d4 g0 g1 g2 g3 g4
  go_upto_region 9 with (fail)
  have m5 : Blk (w1.alloc (.cells #[.int .i64 s, .bool false, .int .i64 a, .int .i64 0, .int .i64 t] 25)) w.heap.size 25 #[.int .i64 s, .bool false, .int .i64 a, .int .i64 0, .int .i64 t] := K5.out.alloc _
  have m6 : Blk (w1.alloc (.cells #[.int .i64 s, .bool false, .int .i64 a, .int .i64 0, .int .i64 t] 25)) (w.heap.size + 1) 25 #[.int .i64 0, .bool false, .int .i64 0, .int .i64 0, .int .i64 0] := K6.out.alloc _
  have m7 : Blk (w1.alloc (.cells #[.int .i64 s, .bool false, .int .i64 a, .int .i64 0, .int .i64 t] 25)) w1.heap.size 25 #[.int .i64 s, .bool false, .int .i64 a, .int .i64 0, .int .i64 t] := Blk.new w1 25 _
  have mB : Below w.heap.size w (w1.alloc (.cells #[.int .i64 s, .bool false, .int .i64 a, .int .i64 0, .int .i64 t] 25)) := below_al hB _
  generalize w1.alloc (.cells #[.int .i64 s, .bool false, .int .i64 a, .int .i64 0, .int .i64 t] 25) = W at *
  have hgn : w1.heap.size ≠ w.heap.size := by omega
  generalize w1.heap.size = g at *
  clear c0 c1 c2 c3 c4 f0 f1 f2 f3 f4 hB hb1
  obtain ⟨⟨c0, c1, c2, c3, c4⟩, ⟨f0, f1, f2, f3, f4⟩, _⟩ := blk5 m7
  have M5 := Lib.hid m5; have M6 := Lib.hid m6; have M7 := Lib.hid m7; clear m5 m6 m7
  go_wp2_with (fail)
  refine (prob_walk s false a 0 t _).mono ?_
  rintro e w2 ⟨rfl, hb2⟩
  have n5 := M5.out.below hb2
  have n6 := M6.out.below hb2
  have n7 := M7.out.below hb2
  have nB := below_trans mB hb2
  have z5 := n5.lt
  have z6 := n6.lt
  have z7 := n7.lt
  clear c0 c1 c2 c3 c4 f0 f1 f2 f3 f4 mB hb2
  obtain ⟨⟨c0, c1, c2, c3, c4⟩, ⟨f0, f1, f2, f3, f4⟩, _⟩ := blk5 n5
  obtain ⟨⟨d0, d1, d2, d3, d4⟩, ⟨g0, g1, g2, g3, g4⟩, _⟩ := blk5 n6
  have o0 : w2.cell? ⟨g, 0, none⟩ = some (.int .i64 s) := n7.cell 0
  have hg : g ≠ w.heap.size := hgn
  have hg' : (g == w.heap.size) = false := beq_eq_false_iff_ne.2 hgn
  have N6 := Lib.hid n6; clear n6 n7
  clear n5
  go_wp2
  refine bodyPost_ret (v := .tuple #[.agg #[.int .i64 s, .bool true, .int .i64 (a + 1), .int .i64 s, .int .i64 t], .int .i64 2]) (res_cell_tmp (p := 8) (u := 9) rfl _ _ (w.heap.size + 1) 25 _ _ rfl (blk_put5 (by repeat (first | exact N6.out | refine Blk.far ?_ (by simp) _))) Tryd.underlying25 rfl (by kernel_rfl)) rfl ⟨rfl, below_put5 (by repeat (first | exact nB | refine Below.setCell ?_ (by simp) _)) (by omega)⟩

set_option maxHeartbeats 2000000 in
theorem res_F_ne_lt (s a t m st tm : Int) (w : World) (hs : okS ⟨s, false, a, 0, t⟩ m) (hr : okR st tm) (hst : st ≠ 0) (hs0 : s ≠ 0) (hne : st ≠ s) (hlt : a + 1 < m) (ha1 : 1 ≤ a) (ha2 : a ≤ 100) :
    Calls Tryd.prog 4 #[.agg #[.int .i64 s, .bool false, .int .i64 a, .int .i64 0, .int .i64 t], .int .i64 m, .int .i64 st, .int .i64 tm] w fun e w' => e = .returned (.tuple #[.agg #[.int .i64 st, .bool false, .int .i64 (a + 1), .int .i64 0, .int .i64 tm], .int .i64 1]) ∧ Below w.heap.size w w' := by
  obtain ⟨r1, r2, r3, r4⟩ := okR_facts hr
  have HC := Lib.hid (fun w => check_ok s false a 0 t m w hs)
  have b1 : (st == 0) = false := beq_eq_false_iff_ne.2 hst
  have b2 : (st != s) = true := bne_iff_ne.2 hne
  have b2' : (st == s) = false := beq_eq_false_iff_ne.2 hne
  have b3 : (s == 0) = false := beq_eq_false_iff_ne.2 hs0
  have b4 : (decide (s ≠ 0)) = true := decide_eq_true hs0
  have b5 : decide (a + 1 < m) = true := decide_eq_true hlt
  clear hs hr hst hs0 hne hlt
  go_enter Tryd.func4, Tryd.ntmps4
  go_wp2_with (fail)
  refine (HC.out _).mono ?_
  rintro e w1 ⟨rfl, hb1⟩
  have k5 := ((Blk.new w 25 #[.int .i64 s, .bool false, .int .i64 a, .int .i64 0, .int .i64 t]).alloc (.cells #[.int .i64 0, .bool false, .int .i64 0, .int .i64 0, .int .i64 0] 25)).below hb1
  have k6 := (Blk.new1 w (.cells #[.int .i64 s, .bool false, .int .i64 a, .int .i64 0, .int .i64 t] 25) 25 #[.int .i64 0, .bool false, .int .i64 0, .int .i64 0, .int .i64 0]).below hb1
  have hB := below_trans (((Below.refl w.heap.size w).alloc (Nat.le_refl _) _).alloc (by simp) _) hb1
  have z1 := k5.lt
  have z2 := k6.lt
  obtain ⟨⟨c0, c1, c2, c3, c4⟩, ⟨f0, f1, f2, f3, f4⟩, _⟩ := blk5 k5
  obtain ⟨⟨d0, d1, d2, d3, d4⟩, ⟨g0, g1, g2, g3, g4⟩, _⟩ := blk5 k6
  have K5 := Lib.hid k5; have K6 := Lib.hid k6; clear k5 k6
  clear d0 d1 d2 d3 d4 g0 g1 g2 g3 g4
  go_upto_region 9 with (fail)
  have m5 : Blk (((w1.setCell ⟨w.heap.size, 0, none⟩ (.int .i64 st)).setCell ⟨w.heap.size, 4, none⟩ (.int .i64 tm)).alloc (.cells #[.int .i64 s, .bool false, .int .i64 a, .int .i64 0, .int .i64 t] 25)) w.heap.size 25 #[.int .i64 st, .bool false, .int .i64 a, .int .i64 0, .int .i64 tm] := ((K5.out.put 0 _ rfl).put 4 _ rfl).alloc _
  have m6 : Blk (((w1.setCell ⟨w.heap.size, 0, none⟩ (.int .i64 st)).setCell ⟨w.heap.size, 4, none⟩ (.int .i64 tm)).alloc (.cells #[.int .i64 s, .bool false, .int .i64 a, .int .i64 0, .int .i64 t] 25)) (w.heap.size + 1) 25 #[.int .i64 0, .bool false, .int .i64 0, .int .i64 0, .int .i64 0] := ((K6.out.far (by simp) _).far (by simp) _).alloc _
  have m7 : Blk (((w1.setCell ⟨w.heap.size, 0, none⟩ (.int .i64 st)).setCell ⟨w.heap.size, 4, none⟩ (.int .i64 tm)).alloc (.cells #[.int .i64 s, .bool false, .int .i64 a, .int .i64 0, .int .i64 t] 25)) w1.heap.size 25 #[.int .i64 s, .bool false, .int .i64 a, .int .i64 0, .int .i64 t] := by have h := Blk.new ((w1.setCell ⟨w.heap.size, 0, none⟩ (.int .i64 st)).setCell ⟨w.heap.size, 4, none⟩ (.int .i64 tm)) 25 #[.int .i64 s, .bool false, .int .i64 a, .int .i64 0, .int .i64 t]; simpa using h
  have mB : Below w.heap.size w (((w1.setCell ⟨w.heap.size, 0, none⟩ (.int .i64 st)).setCell ⟨w.heap.size, 4, none⟩ (.int .i64 tm)).alloc (.cells #[.int .i64 s, .bool false, .int .i64 a, .int .i64 0, .int .i64 t] 25)) := below_al ((hB.setCell (by simp) _).setCell (by simp) _) _
  generalize ((w1.setCell ⟨w.heap.size, 0, none⟩ (.int .i64 st)).setCell ⟨w.heap.size, 4, none⟩ (.int .i64 tm)).alloc (.cells #[.int .i64 s, .bool false, .int .i64 a, .int .i64 0, .int .i64 t] 25) = W at *
  have hgn : w1.heap.size ≠ w.heap.size := by omega
  generalize w1.heap.size = g at *
  clear c0 c1 c2 c3 c4 f0 f1 f2 f3 f4 hB hb1
  obtain ⟨⟨c0, c1, c2, c3, c4⟩, ⟨f0, f1, f2, f3, f4⟩, _⟩ := blk5 m7
  have M5 := Lib.hid m5; have M6 := Lib.hid m6; have M7 := Lib.hid m7; clear m5 m6 m7
  go_wp2_with (fail)
  refine (prob_walk s false a 0 t _).mono ?_
  rintro e w2 ⟨rfl, hb2⟩
  have n5 := M5.out.below hb2
  have n6 := M6.out.below hb2
  have n7 := M7.out.below hb2
  have nB := below_trans mB hb2
  have z5 := n5.lt
  have z6 := n6.lt
  have z7 := n7.lt
  clear c0 c1 c2 c3 c4 f0 f1 f2 f3 f4 mB hb2
  obtain ⟨⟨c0, c1, c2, c3, c4⟩, ⟨f0, f1, f2, f3, f4⟩, _⟩ := blk5 n5
  obtain ⟨⟨d0, d1, d2, d3, d4⟩, ⟨g0, g1, g2, g3, g4⟩, _⟩ := blk5 n6
  have o0 : w2.cell? ⟨g, 0, none⟩ = some (.int .i64 s) := n7.cell 0
  have hg : g ≠ w.heap.size := hgn
  have hg' : (g == w.heap.size) = false := beq_eq_false_iff_ne.2 hgn
  have N6 := Lib.hid n6; clear n6 n7
  clear n5
  go_wp2
  refine bodyPost_ret (v := .tuple #[.agg #[.int .i64 st, .bool false, .int .i64 (a + 1), .int .i64 0, .int .i64 tm], .int .i64 1]) (res_cell_tmp (p := 8) (u := 9) rfl _ _ (w.heap.size + 1) 25 _ _ rfl (blk_put5 (by repeat (first | exact N6.out | refine Blk.far ?_ (by simp) _))) Tryd.underlying25 rfl (by kernel_rfl)) rfl ⟨rfl, below_put5 (by repeat (first | exact nB | refine Below.setCell ?_ (by simp) _)) (by omega)⟩

set_option maxHeartbeats 2000000 in
theorem res_F_ne_ge (s a t m st tm : Int) (w : World) (hs : okS ⟨s, false, a, 0, t⟩ m) (hr : okR st tm) (hst : st ≠ 0) (hs0 : s ≠ 0) (hne : st ≠ s) (hlt : ¬ a + 1 < m) (ha1 : 1 ≤ a) (ha2 : a ≤ 100) :
    Calls Tryd.prog 4 #[.agg #[.int .i64 s, .bool false, .int .i64 a, .int .i64 0, .int .i64 t], .int .i64 m, .int .i64 st, .int .i64 tm] w fun e w' => e = .returned (.tuple #[.agg #[.int .i64 st, .bool true, .int .i64 (a + 1), .int .i64 st, .int .i64 tm], .int .i64 2]) ∧ Below w.heap.size w w' := by
  obtain ⟨r1, r2, r3, r4⟩ := okR_facts hr
  have HC := Lib.hid (fun w => check_ok s false a 0 t m w hs)
  have b1 : (st == 0) = false := beq_eq_false_iff_ne.2 hst
  have b2 : (st != s) = true := bne_iff_ne.2 hne
  have b2' : (st == s) = false := beq_eq_false_iff_ne.2 hne
  have b3 : (s == 0) = false := beq_eq_false_iff_ne.2 hs0
  have b4 : (decide (s ≠ 0)) = true := decide_eq_true hs0
  have b5 : decide (a + 1 < m) = false := decide_eq_false hlt
  clear hs hr hst hs0 hne hlt
  go_enter Tryd.func4, Tryd.ntmps4
  go_wp2_with (fail)
  refine (HC.out _).mono ?_
  rintro e w1 ⟨rfl, hb1⟩
  have k5 := ((Blk.new w 25 #[.int .i64 s, .bool false, .int .i64 a, .int .i64 0, .int .i64 t]).alloc (.cells #[.int .i64 0, .bool false, .int .i64 0, .int .i64 0, .int .i64 0] 25)).below hb1
  have k6 := (Blk.new1 w (.cells #[.int .i64 s, .bool false, .int .i64 a, .int .i64 0, .int .i64 t] 25) 25 #[.int .i64 0, .bool false, .int .i64 0, .int .i64 0, .int .i64 0]).below hb1
  have hB := below_trans (((Below.refl w.heap.size w).alloc (Nat.le_refl _) _).alloc (by simp) _) hb1
  have z1 := k5.lt
  have z2 := k6.lt
  obtain ⟨⟨c0, c1, c2, c3, c4⟩, ⟨f0, f1, f2, f3, f4⟩, _⟩ := blk5 k5
  obtain ⟨⟨d0, d1, d2, d3, d4⟩, ⟨g0, g1, g2, g3, g4⟩, _⟩ := blk5 k6
  have K5 := Lib.hid k5; have K6 := Lib.hid k6; clear k5 k6
  clear d0 d1 d2 d3 d4 g0 g1 g2 g3 g4
  go_upto_region 9 with (fail)
  have m5 : Blk (((w1.setCell ⟨w.heap.size, 0, none⟩ (.int .i64 st)).setCell ⟨w.heap.size, 4, none⟩ (.int .i64 tm)).alloc (.cells #[.int .i64 s, .bool false, .int .i64 a, .int .i64 0, .int .i64 t] 25)) w.heap.size 25 #[.int .i64 st, .bool false, .int .i64 a, .int .i64 0, .int .i64 tm] := ((K5.out.put 0 _ rfl).put 4 _ rfl).alloc _
  have m6 : Blk (((w1.setCell ⟨w.heap.size, 0, none⟩ (.int .i64 st)).setCell ⟨w.heap.size, 4, none⟩ (.int .i64 tm)).alloc (.cells #[.int .i64 s, .bool false, .int .i64 a, .int .i64 0, .int .i64 t] 25)) (w.heap.size + 1) 25 #[.int .i64 0, .bool false, .int .i64 0, .int .i64 0, .int .i64 0] := ((K6.out.far (by simp) _).far (by simp) _).alloc _
  have m7 : Blk (((w1.setCell ⟨w.heap.size, 0, none⟩ (.int .i64 st)).setCell ⟨w.heap.size, 4, none⟩ (.int .i64 tm)).alloc (.cells #[.int .i64 s, .bool false, .int .i64 a, .int .i64 0, .int .i64 t] 25)) w1.heap.size 25 #[.int .i64 s, .bool false, .int .i64 a, .int .i64 0, .int .i64 t] := by have h := Blk.new ((w1.setCell ⟨w.heap.size, 0, none⟩ (.int .i64 st)).setCell ⟨w.heap.size, 4, none⟩ (.int .i64 tm)) 25 #[.int .i64 s, .bool false, .int .i64 a, .int .i64 0, .int .i64 t]; simpa using h
  have mB : Below w.heap.size w (((w1.setCell ⟨w.heap.size, 0, none⟩ (.int .i64 st)).setCell ⟨w.heap.size, 4, none⟩ (.int .i64 tm)).alloc (.cells #[.int .i64 s, .bool false, .int .i64 a, .int .i64 0, .int .i64 t] 25)) := below_al ((hB.setCell (by simp) _).setCell (by simp) _) _
  generalize ((w1.setCell ⟨w.heap.size, 0, none⟩ (.int .i64 st)).setCell ⟨w.heap.size, 4, none⟩ (.int .i64 tm)).alloc (.cells #[.int .i64 s, .bool false, .int .i64 a, .int .i64 0, .int .i64 t] 25) = W at *
  have hgn : w1.heap.size ≠ w.heap.size := by omega
  generalize w1.heap.size = g at *
  clear c0 c1 c2 c3 c4 f0 f1 f2 f3 f4 hB hb1
  obtain ⟨⟨c0, c1, c2, c3, c4⟩, ⟨f0, f1, f2, f3, f4⟩, _⟩ := blk5 m7
  have M5 := Lib.hid m5; have M6 := Lib.hid m6; have M7 := Lib.hid m7; clear m5 m6 m7
  go_wp2_with (fail)
  refine (prob_walk s false a 0 t _).mono ?_
  rintro e w2 ⟨rfl, hb2⟩
  have n5 := M5.out.below hb2
  have n6 := M6.out.below hb2
  have n7 := M7.out.below hb2
  have nB := below_trans mB hb2
  have z5 := n5.lt
  have z6 := n6.lt
  have z7 := n7.lt
  clear c0 c1 c2 c3 c4 f0 f1 f2 f3 f4 mB hb2
  obtain ⟨⟨c0, c1, c2, c3, c4⟩, ⟨f0, f1, f2, f3, f4⟩, _⟩ := blk5 n5
  obtain ⟨⟨d0, d1, d2, d3, d4⟩, ⟨g0, g1, g2, g3, g4⟩, _⟩ := blk5 n6
  have o0 : w2.cell? ⟨g, 0, none⟩ = some (.int .i64 s) := n7.cell 0
  have hg : g ≠ w.heap.size := hgn
  have hg' : (g == w.heap.size) = false := beq_eq_false_iff_ne.2 hgn
  have N6 := Lib.hid n6; clear n6 n7
  clear n5
  go_wp2
  refine bodyPost_ret (v := .tuple #[.agg #[.int .i64 st, .bool true, .int .i64 (a + 1), .int .i64 st, .int .i64 tm], .int .i64 2]) (res_cell_tmp (p := 8) (u := 9) rfl _ _ (w.heap.size + 1) 25 _ _ rfl (blk_put5 (by repeat (first | exact N6.out | refine Blk.far ?_ (by simp) _))) Tryd.underlying25 rfl (by kernel_rfl)) rfl ⟨rfl, below_put5 (by repeat (first | exact nB | refine Below.setCell ?_ (by simp) _)) (by omega)⟩
theorem result_walk (s : Int) (h : Bool) (a l t m st tm : Int) (w : World) : Calls Tryd.prog 4 #[.agg #[.int .i64 s, .bool h, .int .i64 a, .int .i64 l, .int .i64 t], .int .i64 m, .int .i64 st, .int .i64 tm] w
    fun e w' => e = .returned (.tuple #[stV (resF ⟨s, h, a, l, t⟩ m st tm).1, .int .i64 (resF ⟨s, h, a, l, t⟩ m st tm).2]) ∧ Below w.heap.size w w' := by
  have key : ∀ R : St × Int, resF ⟨s, h, a, l, t⟩ m st tm = R → Calls Tryd.prog 4 #[.agg #[.int .i64 s, .bool h, .int .i64 a, .int .i64 l, .int .i64 t], .int .i64 m, .int .i64 st, .int .i64 tm] w (fun e w' => e = .returned (.tuple #[stV R.1, .int .i64 R.2]) ∧ Below w.heap.size w w') →
      Calls Tryd.prog 4 #[.agg #[.int .i64 s, .bool h, .int .i64 a, .int .i64 l, .int .i64 t], .int .i64 m, .int .i64 st, .int .i64 tm] w
    fun e w' => e = .returned (.tuple #[stV (resF ⟨s, h, a, l, t⟩ m st tm).1, .int .i64 (resF ⟨s, h, a, l, t⟩ m st tm).2]) ∧ Below w.heap.size w w' := fun R hR hc => by rw [hR]; exact hc
  by_cases hok : okS ⟨s, h, a, l, t⟩ m ∧ okR st tm
  · obtain ⟨hs, hr⟩ := id hok
    have hF : resF ⟨s, h, a, l, t⟩ m st tm = resG ⟨s, h, a, l, t⟩ m st tm := by unfold resF; rw [if_pos hok]
    unfold resG at hF
    dsimp only at hF
    by_cases h0 : st = 0
    · subst h0
      refine key (recF ⟨s, h, a, l, t⟩ tm) ?_ (result_zero s h a l t m tm w hs hr)
      rw [hF, if_pos rfl]; rfl
    rw [if_neg h0] at hF
    have hs2 := hs
    unfold okS at hs2
    dsimp only at hs2
    obtain ⟨o1, o2, o3, o4, o5, o6, o7⟩ := hs2
    rcases o7 with ⟨rfl, rfl, rfl, rfl⟩ | ⟨rfl, hs0, rfl, rfl⟩ | ⟨rfl, hs0, ha1, ha2, rfl⟩
    · simp only [if_true, if_neg h0] at hF
      rw [if_neg (by simp)] at hF
      by_cases hlt : 1 < m
      · rw [if_pos hlt] at hF
        exact key _ hF (res_Z_lt t m st tm w hs hr h0 hlt)
      · rw [if_neg hlt] at hF
        exact key _ hF (res_Z_ge t m st tm w hs hr h0 hlt)
    · rw [if_pos (show (true = true ∧ l ≠ 0) from ⟨rfl, hs0⟩)] at hF
      by_cases he : st = l
      · subst he
        rw [if_pos rfl] at hF
        exact key _ hF (res_P_eq st a st t a tm w hs hr h0 hs0 rfl)
      · rw [if_neg he] at hF
        exact key _ hF (res_P_ne l a l t a st tm w hs hr h0 hs0 rfl he)
    · rw [if_neg (by simp)] at hF
      simp only [if_neg hs0] at hF
      by_cases he : st = s
      · subst he
        simp only [if_true] at hF
        by_cases hlt : a + 1 < m
        · rw [if_pos hlt] at hF
          exact key _ hF (res_F_eq_lt st a t m tm w hs hr h0 hs0 hlt ha1 (by omega))
        · rw [if_neg hlt] at hF
          exact key _ hF (res_F_eq_ge st a t m tm w hs hr h0 hs0 hlt ha1 (by omega))
      · simp only [if_neg he] at hF
        by_cases hlt : a + 1 < m
        · rw [if_pos hlt] at hF
          exact key _ hF (res_F_ne_lt s a t m st tm w hs hr h0 hs0 he hlt ha1 (by omega))
        · rw [if_neg hlt] at hF
          exact key _ hF (res_F_ne_ge s a t m st tm w hs hr h0 hs0 he hlt ha1 (by omega))
  · refine key (⟨s, h, a, l, t⟩, 0) ?_ (result_bad s h a l t m st tm w hok)
    unfold resF; rw [if_neg hok]
end Go.Proofs.YtimibkjjcnpkjaaDoor
