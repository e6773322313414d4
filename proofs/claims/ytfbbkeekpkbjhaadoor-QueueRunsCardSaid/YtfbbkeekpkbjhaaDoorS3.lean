/- Set of an event there is no room for; Drop. -/
import Derived.Test.YtfbbkeekpkbjhaaDoorN1
namespace Go.Proofs.YtfbbkeekpkbjhaaDoor
open Go.RowKit
attribute [local irreducible] wpQuiet
set_option linter.unusedSimpArgs false in
set_option linter.unusedVariables false in
set_option maxRecDepth 100000 in
set_option maxHeartbeats 1000000 in
theorem set_full (q r cap n : Nat) (A : Option Addr) (room : Int) (m : Int → Int → Option Nat) (e : Ev) (w : World) (hqb : Blk w q 56 #[.int .i64 room, .slice A n cap, .map (some r)]) (hmr : MapRep w r m)
    (hmi : m e.k e.d = none) (hn : room ≤ (n : Int)) (t0 : 0 ≤ e.t) (t1 : e.t ≤ 4611686018427387904) (k0 : 0 ≤ e.k) (d0 : 0 ≤ e.d) :
    Calls Tryd.prog 7 #[.pointer (some ⟨q, 0, none⟩), .agg (evV e)] w fun x w' => x = .returned (.iface 53 (.int .i64 10)) ∧ Below w.heap.size w w' := by
  have B1 := below_al (Below.refl w.heap.size w) (.cells (evV e) 30)
  have hbx := Blk.new w 30 (evV e)
  have hq1 := hqb.alloc (.cells (evV e) 30)
  have hmr1 := hmr.alloc (.cells (evV e) 30)
  have HMI := Lib.hid hmi
  clear hqb hmr hmi
  have e0 : decide (e.t < 0) = false := decide_eq_false (by omega)
  have e1 : decide (4611686018427387904 < e.t) = false := decide_eq_false (by omega)
  have e2 : decide (e.k < 0) = false := decide_eq_false (by omega)
  have e3 : decide (e.d < 0) = false := decide_eq_false (by omega)
  have x0 : (w.alloc (.cells (evV e) 30)).cell? ⟨w.heap.size, 0, none⟩ = some (.int .i64 e.t) := by rw [hbx.cell]; rfl
  have x1 : (w.alloc (.cells (evV e) 30)).cell? ⟨w.heap.size, 1, none⟩ = some (.int .i64 e.k) := by rw [hbx.cell]; rfl
  have x2 : (w.alloc (.cells (evV e) 30)).cell? ⟨w.heap.size, 2, none⟩ = some (.int .i64 e.d) := by rw [hbx.cell]; rfl
  have zb := hbx.lt
  have zq := hq1.lt
  have c2 : (w.alloc (.cells (evV e) 30)).cell? ⟨q, 2, none⟩ = some (.map (some r)) := by rw [hq1.cell]; rfl
  have HQ := Lib.hid hq1
  have MR := Lib.hid hmr1
  clear hq1 hmr1 hbx
  go_enter Tryd.func7, Tryd.ntmps7
  go_upto_region 1 with (fail)
  generalize hW : w.alloc (Obj.cells (evV e) 30) = W at *
  generalize hb : w.heap.size = b at *
  clear hW
  go_upto_region 3 with (fail)
  clear e0 e1 e2 e3
  go_cut [3, 5, 6] from 30 to 42 (fun v3 v5 v6 wx => v3 = .pointer (some ⟨b, 0, none⟩) ∧ v5 = .int .i64 0 ∧ v6 = .bool false ∧ Below W.heap.size W wx)
  case first =>
    refine wp_quiet_class (fun w' => Below W.heap.size W w') (by kernel_rfl) (by kernel_rfl) (below_drewN (Below.refl _ _) 1) ?_
    refine quiet_at (v := ?_) (by rfl) ?_ ?_
    rotate_left
    · intro w' hSw; replace c2 := bel_cell hSw c2; replace x1 := bel_cell hSw x1; replace x2 := bel_cell hSw x2; replace zq := Nat.lt_of_lt_of_le zq hSw.size; replace zb := Nat.lt_of_lt_of_le zb hSw.size; have hlk := run_lookT (MR.out.of_block (hSw.block _ MR.out.lt)) e.k e.d; unfold keyV at hlk; rw [HMI.out] at hlk; go_simp; try with_reducible rfl
    (try simp only [Act.put, List.setIfInBounds_toArray, List.set_cons_zero, List.set_cons_succ])
    refine quiet_at (v := ?_) (by rfl) ?_ ?_
    rotate_left
    · intro w' hSw; replace c2 := bel_cell hSw c2; replace x1 := bel_cell hSw x1; replace x2 := bel_cell hSw x2; replace zq := Nat.lt_of_lt_of_le zq hSw.size; replace zb := Nat.lt_of_lt_of_le zb hSw.size; have hlk := run_lookT (MR.out.of_block (hSw.block _ MR.out.lt)) e.k e.d; unfold keyV at hlk; rw [HMI.out] at hlk; go_simp; try with_reducible rfl
    (try simp only [Act.put, List.setIfInBounds_toArray, List.set_cons_zero, List.set_cons_succ])
    refine quiet_at (v := ?_) (by rfl) ?_ ?_
    rotate_left
    · intro w' hSw; replace c2 := bel_cell hSw c2; replace x1 := bel_cell hSw x1; replace x2 := bel_cell hSw x2; replace zq := Nat.lt_of_lt_of_le zq hSw.size; replace zb := Nat.lt_of_lt_of_le zb hSw.size; have hlk := run_lookT (MR.out.of_block (hSw.block _ MR.out.lt)) e.k e.d; unfold keyV at hlk; rw [HMI.out] at hlk; go_simp; try with_reducible rfl
    (try simp only [Act.put, List.setIfInBounds_toArray, List.set_cons_zero, List.set_cons_succ])
    refine quiet_at (v := ?_) (by rfl) ?_ ?_
    rotate_left
    · intro w' hSw; replace c2 := bel_cell hSw c2; replace x1 := bel_cell hSw x1; replace x2 := bel_cell hSw x2; replace zq := Nat.lt_of_lt_of_le zq hSw.size; replace zb := Nat.lt_of_lt_of_le zb hSw.size; have hlk := run_lookT (MR.out.of_block (hSw.block _ MR.out.lt)) e.k e.d; unfold keyV at hlk; rw [HMI.out] at hlk; go_simp; try with_reducible rfl
    (try simp only [Act.put, List.setIfInBounds_toArray, List.set_cons_zero, List.set_cons_succ])
    refine quiet_at (v := ?_) (by rfl) ?_ ?_
    rotate_left
    · intro w' hSw; replace c2 := bel_cell hSw c2; replace x1 := bel_cell hSw x1; replace x2 := bel_cell hSw x2; replace zq := Nat.lt_of_lt_of_le zq hSw.size; replace zb := Nat.lt_of_lt_of_le zb hSw.size; have hlk := run_lookT (MR.out.of_block (hSw.block _ MR.out.lt)) e.k e.d; unfold keyV at hlk; rw [HMI.out] at hlk; go_simp; try with_reducible rfl
    (try simp only [Act.put, List.setIfInBounds_toArray, List.set_cons_zero, List.set_cons_succ])
    refine quiet_at (v := ?_) (by rfl) ?_ ?_
    rotate_left
    · intro w' hSw; replace c2 := bel_cell hSw c2; replace x1 := bel_cell hSw x1; replace x2 := bel_cell hSw x2; replace zq := Nat.lt_of_lt_of_le zq hSw.size; replace zb := Nat.lt_of_lt_of_le zb hSw.size; have hlk := run_lookT (MR.out.of_block (hSw.block _ MR.out.lt)) e.k e.d; unfold keyV at hlk; rw [HMI.out] at hlk; go_simp; try with_reducible rfl
    (try simp only [Act.put, List.setIfInBounds_toArray, List.set_cons_zero, List.set_cons_succ])
    refine quiet_at (v := ?_) (by rfl) ?_ ?_
    rotate_left
    · intro w' hSw; replace c2 := bel_cell hSw c2; replace x1 := bel_cell hSw x1; replace x2 := bel_cell hSw x2; replace zq := Nat.lt_of_lt_of_le zq hSw.size; replace zb := Nat.lt_of_lt_of_le zb hSw.size; have hlk := run_lookT (MR.out.of_block (hSw.block _ MR.out.lt)) e.k e.d; unfold keyV at hlk; rw [HMI.out] at hlk; go_simp; try with_reducible rfl
    (try simp only [Act.put, List.setIfInBounds_toArray, List.set_cons_zero, List.set_cons_succ])
    refine quiet_at (v := ?_) (by rfl) ?_ ?_
    rotate_left
    · intro w' hSw; replace c2 := bel_cell hSw c2; replace x1 := bel_cell hSw x1; replace x2 := bel_cell hSw x2; replace zq := Nat.lt_of_lt_of_le zq hSw.size; replace zb := Nat.lt_of_lt_of_le zb hSw.size; have hlk := run_lookT (MR.out.of_block (hSw.block _ MR.out.lt)) e.k e.d; unfold keyV at hlk; rw [HMI.out] at hlk; go_simp; try with_reducible rfl
    (try simp only [Act.put, List.setIfInBounds_toArray, List.set_cons_zero, List.set_cons_succ])
    refine quiet_at (v := ?_) (by rfl) ?_ ?_
    rotate_left
    · intro w' hSw; replace c2 := bel_cell hSw c2; replace x1 := bel_cell hSw x1; replace x2 := bel_cell hSw x2; replace zq := Nat.lt_of_lt_of_le zq hSw.size; replace zb := Nat.lt_of_lt_of_le zb hSw.size; have hlk := run_lookT (MR.out.of_block (hSw.block _ MR.out.lt)) e.k e.d; unfold keyV at hlk; rw [HMI.out] at hlk; go_simp; try with_reducible rfl
    (try simp only [Act.put, List.setIfInBounds_toArray, List.set_cons_zero, List.set_cons_succ])
    refine quiet_at (v := ?_) (by rfl) ?_ ?_
    rotate_left
    · intro w' hSw; replace c2 := bel_cell hSw c2; replace x1 := bel_cell hSw x1; replace x2 := bel_cell hSw x2; replace zq := Nat.lt_of_lt_of_le zq hSw.size; replace zb := Nat.lt_of_lt_of_le zb hSw.size; have hlk := run_lookT (MR.out.of_block (hSw.block _ MR.out.lt)) e.k e.d; unfold keyV at hlk; rw [HMI.out] at hlk; go_simp; try with_reducible rfl
    (try simp only [Act.put, List.setIfInBounds_toArray, List.set_cons_zero, List.set_cons_succ])
    refine quiet_at (v := ?_) (by rfl) ?_ ?_
    rotate_left
    · intro w' hSw; replace c2 := bel_cell hSw c2; replace x1 := bel_cell hSw x1; replace x2 := bel_cell hSw x2; replace zq := Nat.lt_of_lt_of_le zq hSw.size; replace zb := Nat.lt_of_lt_of_le zb hSw.size; have hlk := run_lookT (MR.out.of_block (hSw.block _ MR.out.lt)) e.k e.d; unfold keyV at hlk; rw [HMI.out] at hlk; go_simp; try with_reducible rfl
    (try simp only [Act.put, List.setIfInBounds_toArray, List.set_cons_zero, List.set_cons_succ])
    refine quiet_at (v := ?_) (by rfl) ?_ ?_
    rotate_left
    · intro w' hSw; replace c2 := bel_cell hSw c2; replace x1 := bel_cell hSw x1; replace x2 := bel_cell hSw x2; replace zq := Nat.lt_of_lt_of_le zq hSw.size; replace zb := Nat.lt_of_lt_of_le zb hSw.size; have hlk := run_lookT (MR.out.of_block (hSw.block _ MR.out.lt)) e.k e.d; unfold keyV at hlk; rw [HMI.out] at hlk; go_simp; try with_reducible rfl
    (try simp only [Act.put, List.setIfInBounds_toArray, List.set_cons_zero, List.set_cons_succ])
    refine quiet_at (v := ?_) (by rfl) ?_ ?_
    rotate_left
    · intro w' hSw; replace c2 := bel_cell hSw c2; replace x1 := bel_cell hSw x1; replace x2 := bel_cell hSw x2; replace zq := Nat.lt_of_lt_of_le zq hSw.size; replace zb := Nat.lt_of_lt_of_le zb hSw.size; have hlk := run_lookT (MR.out.of_block (hSw.block _ MR.out.lt)) e.k e.d; unfold keyV at hlk; rw [HMI.out] at hlk; go_simp; try with_reducible rfl
    (try simp only [Act.put, List.setIfInBounds_toArray, List.set_cons_zero, List.set_cons_succ])
    refine quiet_at (v := ?_) (by rfl) ?_ ?_
    rotate_left
    · intro w' hSw; replace c2 := bel_cell hSw c2; replace x1 := bel_cell hSw x1; replace x2 := bel_cell hSw x2; replace zq := Nat.lt_of_lt_of_le zq hSw.size; replace zb := Nat.lt_of_lt_of_le zb hSw.size; have hlk := run_lookT (MR.out.of_block (hSw.block _ MR.out.lt)) e.k e.d; unfold keyV at hlk; rw [HMI.out] at hlk; go_simp; try with_reducible rfl
    (try simp only [Act.put, List.setIfInBounds_toArray, List.set_cons_zero, List.set_cons_succ])
    refine quiet_at (v := ?_) (by rfl) ?_ ?_
    rotate_left
    · intro w' hSw; replace c2 := bel_cell hSw c2; replace x1 := bel_cell hSw x1; replace x2 := bel_cell hSw x2; replace zq := Nat.lt_of_lt_of_le zq hSw.size; replace zb := Nat.lt_of_lt_of_le zb hSw.size; have hlk := run_lookT (MR.out.of_block (hSw.block _ MR.out.lt)) e.k e.d; unfold keyV at hlk; rw [HMI.out] at hlk; go_simp; try with_reducible rfl
    (try simp only [Act.put, List.setIfInBounds_toArray, List.set_cons_zero, List.set_cons_succ])
    refine wpQuiet_nil ?_
    intro wq hSq
    go_wp2_with (fail)
    go_meet
    exact ⟨rfl, rfl, rfl, hSq⟩
  case rest =>
    obtain ⟨rfl, rfl, rfl, hB⟩ := hcut
    have hq2 := HQ.out.below hB
    have B2 := B1.trans (hB.mono (by have := B1.size; omega))
    clear HQ MR x0 x1 x2 c2 zb zq hB B1
    have c0 : wc.cell? ⟨q, 0, none⟩ = some (.int .i64 room) := by rw [hq2.cell]; rfl
    have c1 : wc.cell? ⟨q, 1, none⟩ = some (.slice A n cap) := by rw [hq2.cell]; rfl
    have zq := hq2.lt
    have HQ := Lib.hid hq2
    clear hq2
    generalize hV : wc = V at *
    clear hV
    go_upto_region 9 with (fail)
    go_cut [71] from 72 to 81 (fun v71 wx => v71 = .bool true ∧ Below V.heap.size V wx)
    case first =>
      have d : decide (room ≤ (n : Int)) = true := decide_eq_true hn
      refine wp_quiet_class (fun w' => Below V.heap.size V w') (by kernel_rfl) (by kernel_rfl) (below_drewN (Below.refl _ _) 1) ?_
      refine quiet_at (v := ?_) (by rfl) ?_ ?_
      rotate_left
      · intro w' hSw; replace c0 := bel_cell hSw c0; replace c1 := bel_cell hSw c1; replace zq := Nat.lt_of_lt_of_le zq hSw.size; go_simp; try with_reducible rfl
      (try simp only [Act.put, List.setIfInBounds_toArray, List.set_cons_zero, List.set_cons_succ])
      refine quiet_at (v := ?_) (by rfl) ?_ ?_
      rotate_left
      · intro w' hSw; replace c0 := bel_cell hSw c0; replace c1 := bel_cell hSw c1; replace zq := Nat.lt_of_lt_of_le zq hSw.size; go_simp; try with_reducible rfl
      (try simp only [Act.put, List.setIfInBounds_toArray, List.set_cons_zero, List.set_cons_succ])
      refine quiet_at (v := ?_) (by rfl) ?_ ?_
      rotate_left
      · intro w' hSw; replace c0 := bel_cell hSw c0; replace c1 := bel_cell hSw c1; replace zq := Nat.lt_of_lt_of_le zq hSw.size; go_simp; try with_reducible rfl
      (try simp only [Act.put, List.setIfInBounds_toArray, List.set_cons_zero, List.set_cons_succ])
      refine quiet_at (v := ?_) (by rfl) ?_ ?_
      rotate_left
      · intro w' hSw; replace c0 := bel_cell hSw c0; replace c1 := bel_cell hSw c1; replace zq := Nat.lt_of_lt_of_le zq hSw.size; go_simp; try with_reducible rfl
      (try simp only [Act.put, List.setIfInBounds_toArray, List.set_cons_zero, List.set_cons_succ])
      refine quiet_at (v := ?_) (by rfl) ?_ ?_
      rotate_left
      · intro w' hSw; replace c0 := bel_cell hSw c0; replace c1 := bel_cell hSw c1; replace zq := Nat.lt_of_lt_of_le zq hSw.size; go_simp; try with_reducible rfl
      (try simp only [Act.put, List.setIfInBounds_toArray, List.set_cons_zero, List.set_cons_succ])
      refine quiet_at (v := ?_) (by rfl) ?_ ?_
      rotate_left
      · intro w' hSw; replace c0 := bel_cell hSw c0; replace c1 := bel_cell hSw c1; replace zq := Nat.lt_of_lt_of_le zq hSw.size; go_simp; try with_reducible rfl
      (try simp only [Act.put, List.setIfInBounds_toArray, List.set_cons_zero, List.set_cons_succ])
      refine quiet_at (v := ?_) (by rfl) ?_ ?_
      rotate_left
      · intro w' hSw; replace c0 := bel_cell hSw c0; replace c1 := bel_cell hSw c1; replace zq := Nat.lt_of_lt_of_le zq hSw.size; go_simp; try with_reducible rfl
      (try simp only [Act.put, List.setIfInBounds_toArray, List.set_cons_zero, List.set_cons_succ])
      refine quiet_at (v := ?_) (by rfl) ?_ ?_
      rotate_left
      · intro w' hSw; replace c0 := bel_cell hSw c0; replace c1 := bel_cell hSw c1; replace zq := Nat.lt_of_lt_of_le zq hSw.size; go_simp; try with_reducible rfl
      (try simp only [Act.put, List.setIfInBounds_toArray, List.set_cons_zero, List.set_cons_succ])
      refine quiet_at (v := ?_) (by rfl) ?_ ?_
      rotate_left
      · intro w' hSw; replace c0 := bel_cell hSw c0; replace c1 := bel_cell hSw c1; replace zq := Nat.lt_of_lt_of_le zq hSw.size; go_simp; try with_reducible rfl
      (try simp only [Act.put, List.setIfInBounds_toArray, List.set_cons_zero, List.set_cons_succ])
      refine quiet_at (v := ?_) (by rfl) ?_ ?_
      rotate_left
      · intro w' hSw; replace c0 := bel_cell hSw c0; replace c1 := bel_cell hSw c1; replace zq := Nat.lt_of_lt_of_le zq hSw.size; go_simp; try with_reducible rfl
      (try simp only [Act.put, List.setIfInBounds_toArray, List.set_cons_zero, List.set_cons_succ])
      refine quiet_at (v := ?_) (by rfl) ?_ ?_
      rotate_left
      · intro w' hSw; replace c0 := bel_cell hSw c0; replace c1 := bel_cell hSw c1; replace zq := Nat.lt_of_lt_of_le zq hSw.size; go_simp; try with_reducible rfl
      (try simp only [Act.put, List.setIfInBounds_toArray, List.set_cons_zero, List.set_cons_succ])
      refine wpQuiet_nil ?_
      intro wq hSq
      go_wp2_with (fail)
      go_meet
      exact ⟨rfl, hSq⟩
    case rest =>
      obtain ⟨rfl, hB⟩ := hcut
      have B3 := B2.trans (hB.mono (by have := B2.size; omega))
      clear c0 c1 zq HQ hB B2
      go_wp2
      go_ret
      exact ⟨rfl, by rw [hb]; exact B3⟩
theorem full_ok (B q r n : Nat) (hv : Value) (room : Int) (f : Nat → Ev) (m : Int → Int → Option Nat) (e : Ev) (w : World) (h : QS B w q r hv room n f m) (hmi : m e.k e.d = none) (hn : room ≤ (n : Int)) (t0 : 0 ≤ e.t) (t1 : e.t ≤ 4611686018427387904) (k0 : 0 ≤ e.k) (d0 : 0 ≤ e.d) :
    Calls Tryd.prog 7 #[.pointer (some ⟨q, 0, none⟩), .agg (evV e)] w fun x w' => x = .returned (eN 10) ∧ Below w.heap.size w w' := by
  obtain ⟨A, cap, rfl⟩ := h.slice
  exact set_full q r cap n A room m e w h.qb h.mr hmi hn t0 t1 k0 d0
set_option maxRecDepth 100000 in
theorem drop_ok (B q r n i : Nat) (hv : Value) (room : Int) (f : Nat → Ev) (m : Int → Int → Option Nat) (a b : Int) (w : World) (h : QS B w q r hv room (n + 1) f m) (hB : B ≤ w.heap.size) (hn : n + 1 ≤ 65536) (hm : m a b = some i) :
    Calls Tryd.prog 11 #[.pointer (some ⟨q, 0, none⟩), .int .i64 a, .int .i64 b] w fun x w' => x = .returned (.bool true) ∧ (∃ hv' f' m', QS B w' q r hv' room n f' m' ∧ hv'.ownBlock = hv.ownBlock ∧ (∀ x, Mem n f' x → Mem (n + 1) f x ∧ ¬ (x.k = a ∧ x.d = b))) ∧ QF B w w' q r hv := by
  obtain ⟨g, cap, rfl, hq, hb⟩ := h.rep (by omega)
  obtain ⟨hi, e1, e2⟩ := h.mo.of_ _ _ _ hm
  have TK := Lib.hid (take_walk q r g cap n i room f m w hq h.mo h.od hi hn)
  have MO := Lib.hid h.mo
  have BQ := Lib.hid (show B ≤ q ∧ B ≤ r from ⟨h.bq, h.br⟩)
  have E12 := Lib.hid (show (f i).k = a ∧ (f i).d = b from ⟨e1, e2⟩)
  obtain ⟨zq, c1, c2⟩ := hq.slots
  have hlk := run_lookT hq.mr a b
  rw [hm] at hlk
  unfold keyV at hlk
  clear h hq hm e1 e2
  go_enter Tryd.func11, Tryd.ntmps11
  go_wp2_with (fail)
  refine TK.out.mono ?_
  rintro x w2 ⟨rfl, ⟨f2, m2, h2, hm2, ho2, hs2⟩, F2⟩
  have key : ∀ x, Mem n f2 x → Mem (n + 1) f x ∧ ¬ (x.k = a ∧ x.d = b) := fun y hy => by
    obtain ⟨j, hj, rfl⟩ := (hs2 y).2 hy
    have key : ∃ i', i' ≠ i ∧ i' < n + 1 ∧ swp f i n j = f i' := by
      by_cases h0 : j = i
      · subst h0; exact ⟨n, by omega, by omega, swp_i⟩
      · exact ⟨j, h0, by omega, swp_o h0 (by omega)⟩
    obtain ⟨i', i0, i1, e⟩ := key
    rw [e]
    exact ⟨⟨i', i1, rfl⟩, fun hk => i0 (MO.out.inj i1 hi (by rw [E12.out.1, E12.out.2]; exact hk))⟩
  have KEY := Lib.hid key
  have H2 := Lib.hid (show QS B w2 q r (.slice (some ⟨g, 0, none⟩) n cap) room n f2 m2 from ⟨h2.qb, h2.mr, hm2, ho2, Or.inr ⟨g, cap, rfl, h2.hr, hb⟩, BQ.out.1, BQ.out.2⟩)
  have QF2 := Lib.hid (QF.of_fr (hv := .slice (some ⟨g, 0, none⟩) (n + 1) cap) F2 hB BQ.out.1 BQ.out.2 hb (Or.inl rfl))
  clear TK key h2 hm2 ho2 hs2 F2 c1 c2 zq hlk
  go_wp2
  go_ret
  exact ⟨rfl, ⟨_, f2, m2, H2.out, rfl, KEY.out⟩, QF2.out⟩
end Go.Proofs.YtfbbkeekpkbjhaaDoor
