/- Set of an event whose kind is there, walked. -/
import Derived.Test.YtfbbkeekpkbjhaaDoorU2
namespace Go.Proofs.YtfbbkeekpkbjhaaDoor
open Go.RowKit
theorem ExI.of_ord {n : Nat} {f : Nat → Ev} (h : Ord n f) {i : Nat} (hi : i < n) (e : Ev) : ExI n (fupd f i e) i := by
  intro c c0 cn
  refine ⟨fun h1 h2 => ?_, fun h1 h2 => ?_⟩
  · unfold fupd; rw [if_neg h2, if_neg h1]; exact h c c0 cn
  · have hc : c ≠ i := by omega
    have hp : (i - 1) / 2 ≠ i := by omega
    unfold fupd; rw [if_neg hp, if_neg hc]
    have a := h i h2 hi
    have b := h c c0 cn
    rw [h1] at b
    exact ltE_trans a b
theorem MapOk.over {n : Nat} {f : Nat → Ev} {m : Int → Int → Option Nat} (h : MapOk n f m) {i : Nat} {e : Ev} (hm : m e.k e.d = some i) : MapOk n (fupd f i e) m := by
  obtain ⟨hi, k1, k2⟩ := h.of_ _ _ _ hm
  refine ⟨fun j hj => ?_, fun a b v hv => ?_⟩
  · unfold fupd
    by_cases hji : j = i
    · rw [if_pos hji, hji]; exact hm
    · rw [if_neg hji]; exact h.at_ j hj
  · obtain ⟨hv1, hv2, hv3⟩ := h.of_ a b v hv
    unfold fupd
    by_cases hvi : v = i
    · subst hvi
      rw [if_pos rfl]; exact ⟨hv1, by rw [← k1, hv2], by rw [← k2, hv3]⟩
    · rw [if_neg hvi]; exact ⟨hv1, hv2, hv3⟩
def Mem (n : Nat) (f : Nat → Ev) (x : Ev) : Prop := ∃ i, i < n ∧ f i = x
theorem mem_over {n : Nat} {f : Nat → Ev} {m : Int → Int → Option Nat} (h : MapOk n f m) {i : Nat} {e : Ev} (hm : m e.k e.d = some i) (x : Ev) : Mem n (fupd f i e) x ↔ x = e ∨ (Mem n f x ∧ ¬ (x.k = e.k ∧ x.d = e.d)) := by
  obtain ⟨hi, k1, k2⟩ := h.of_ _ _ _ hm
  constructor
  · rintro ⟨j, hj, rfl⟩
    unfold fupd
    by_cases hji : j = i
    · rw [if_pos hji]; exact Or.inl rfl
    · rw [if_neg hji]
      exact Or.inr ⟨⟨j, hj, rfl⟩, fun hk => hji (h.inj hj hi (by rw [k1, k2]; exact hk))⟩
  · rintro (rfl | ⟨⟨j, hj, rfl⟩, hk⟩)
    · exact ⟨i, hi, by unfold fupd; rw [if_pos rfl]⟩
    · refine ⟨j, hj, ?_⟩
      unfold fupd
      rw [if_neg (fun hji => hk (by rw [hji, k1, k2]; exact ⟨rfl, rfl⟩))]
theorem MapRep.alloc {w : World} {r : Nat} {m : Int → Int → Option Nat} (h : MapRep w r m) (o : Obj) : MapRep (w.alloc o) r m := h.of_block (Below.heap_alloc w o r h.lt)
attribute [local irreducible] wpQuiet
set_option linter.unusedSimpArgs false in
set_option linter.unusedVariables false in
set_option maxRecDepth 100000 in
set_option maxHeartbeats 1000000 in
theorem set_found (q r g cap n i : Nat) (room : Int) (f : Nat → Ev) (m : Int → Int → Option Nat) (e : Ev) (w : World) (h : QRep w q r g cap room n f m) (hm : MapOk n f m) (ho : Ord n f) (hmi : m e.k e.d = some i) (hn : n ≤ 65536)
    (t0 : 0 ≤ e.t) (t1 : e.t ≤ 4611686018427387904) (k0 : 0 ≤ e.k) (d0 : 0 ≤ e.d) :
    Calls Tryd.prog 7 #[.pointer (some ⟨q, 0, none⟩), .agg (evV e)] w fun x w' => x = .returned .nilIface ∧ (∃ f' m', QRep w' q r g cap room n f' m' ∧ MapOk n f' m' ∧ Ord n f' ∧ Same n (fupd f i e) f') ∧ QFr w w' q r g := by
  have hi := (hm.of_ _ _ _ hmi).1
  have h1 := h.below (below_al (Below.refl w.heap.size w) (.cells (evV e) 30))
  have F1 : QFr w (w.alloc (.cells (evV e) 30)) q r g := QFr.of_below (below_al (Below.refl w.heap.size w) (.cells (evV e) 30))
  have hbx := Blk.new w 30 (evV e)
  have zb0 : q < w.heap.size ∧ g < w.heap.size ∧ r < w.heap.size := ⟨h.qb.lt, h.hr.lt, h.mr.lt⟩
  have NE := h.ne
  have HMI := Lib.hid hmi
  have HMO := Lib.hid (hm.over hmi)
  have HEX := Lib.hid (ExI.of_ord ho hi e)
  have HFI := Lib.hid (show fupd f i e i = e by unfold fupd; rw [if_pos rfl])
  clear h hmi hm ho
  have e0 : decide (e.t < 0) = false := decide_eq_false (by omega)
  have e1 : decide (4611686018427387904 < e.t) = false := decide_eq_false (by omega)
  have e2 : decide (e.k < 0) = false := decide_eq_false (by omega)
  have e3 : decide (e.d < 0) = false := decide_eq_false (by omega)
  have x0 : (w.alloc (.cells (evV e) 30)).cell? ⟨w.heap.size, 0, none⟩ = some (.int .i64 e.t) := by rw [hbx.cell]; rfl
  have x1 : (w.alloc (.cells (evV e) 30)).cell? ⟨w.heap.size, 1, none⟩ = some (.int .i64 e.k) := by rw [hbx.cell]; rfl
  have x2 : (w.alloc (.cells (evV e) 30)).cell? ⟨w.heap.size, 2, none⟩ = some (.int .i64 e.d) := by rw [hbx.cell]; rfl
  have zb := hbx.lt
  have zq := h1.qb.lt
  have c2 : (w.alloc (.cells (evV e) 30)).cell? ⟨q, 2, none⟩ = some (.map (some r)) := by rw [h1.qb.cell]; rfl
  have H := Lib.hid h1
  have HB := Lib.hid hbx
  clear h1 hbx
  go_enter Tryd.func7, Tryd.ntmps7
  go_upto_region 1 with (fail)
  generalize hW : w.alloc (Obj.cells (evV e) 30) = W at *
  generalize hb : w.heap.size = b at *
  clear hW
  go_upto_region 3 with (fail)
  clear e0 e1 e2 e3
  go_cut [3, 5, 6] from 30 to 42 (fun v3 v5 v6 wx => v3 = .pointer (some ⟨b, 0, none⟩) ∧ v5 = .int .i64 i ∧ v6 = .bool true ∧ Below W.heap.size W wx)
  case first =>
    refine wp_quiet_class (fun w' => Below W.heap.size W w') (by kernel_rfl) (by kernel_rfl) (below_drewN (Below.refl _ _) 1) ?_
    refine quiet_at (v := ?_) (by rfl) ?_ ?_
    rotate_left
    · intro w' hSw; replace c2 := bel_cell hSw c2; replace x1 := bel_cell hSw x1; replace x2 := bel_cell hSw x2; replace zq := Nat.lt_of_lt_of_le zq hSw.size; replace zb := Nat.lt_of_lt_of_le zb hSw.size; have hlk := run_lookT (H.out.mr.of_block (hSw.block _ H.out.mr.lt)) e.k e.d; unfold keyV at hlk; rw [HMI.out] at hlk; go_simp; try with_reducible rfl
    (try simp only [Act.put, List.setIfInBounds_toArray, List.set_cons_zero, List.set_cons_succ])
    refine quiet_at (v := ?_) (by rfl) ?_ ?_
    rotate_left
    · intro w' hSw; replace c2 := bel_cell hSw c2; replace x1 := bel_cell hSw x1; replace x2 := bel_cell hSw x2; replace zq := Nat.lt_of_lt_of_le zq hSw.size; replace zb := Nat.lt_of_lt_of_le zb hSw.size; have hlk := run_lookT (H.out.mr.of_block (hSw.block _ H.out.mr.lt)) e.k e.d; unfold keyV at hlk; rw [HMI.out] at hlk; go_simp; try with_reducible rfl
    (try simp only [Act.put, List.setIfInBounds_toArray, List.set_cons_zero, List.set_cons_succ])
    refine quiet_at (v := ?_) (by rfl) ?_ ?_
    rotate_left
    · intro w' hSw; replace c2 := bel_cell hSw c2; replace x1 := bel_cell hSw x1; replace x2 := bel_cell hSw x2; replace zq := Nat.lt_of_lt_of_le zq hSw.size; replace zb := Nat.lt_of_lt_of_le zb hSw.size; have hlk := run_lookT (H.out.mr.of_block (hSw.block _ H.out.mr.lt)) e.k e.d; unfold keyV at hlk; rw [HMI.out] at hlk; go_simp; try with_reducible rfl
    (try simp only [Act.put, List.setIfInBounds_toArray, List.set_cons_zero, List.set_cons_succ])
    refine quiet_at (v := ?_) (by rfl) ?_ ?_
    rotate_left
    · intro w' hSw; replace c2 := bel_cell hSw c2; replace x1 := bel_cell hSw x1; replace x2 := bel_cell hSw x2; replace zq := Nat.lt_of_lt_of_le zq hSw.size; replace zb := Nat.lt_of_lt_of_le zb hSw.size; have hlk := run_lookT (H.out.mr.of_block (hSw.block _ H.out.mr.lt)) e.k e.d; unfold keyV at hlk; rw [HMI.out] at hlk; go_simp; try with_reducible rfl
    (try simp only [Act.put, List.setIfInBounds_toArray, List.set_cons_zero, List.set_cons_succ])
    refine quiet_at (v := ?_) (by rfl) ?_ ?_
    rotate_left
    · intro w' hSw; replace c2 := bel_cell hSw c2; replace x1 := bel_cell hSw x1; replace x2 := bel_cell hSw x2; replace zq := Nat.lt_of_lt_of_le zq hSw.size; replace zb := Nat.lt_of_lt_of_le zb hSw.size; have hlk := run_lookT (H.out.mr.of_block (hSw.block _ H.out.mr.lt)) e.k e.d; unfold keyV at hlk; rw [HMI.out] at hlk; go_simp; try with_reducible rfl
    (try simp only [Act.put, List.setIfInBounds_toArray, List.set_cons_zero, List.set_cons_succ])
    refine quiet_at (v := ?_) (by rfl) ?_ ?_
    rotate_left
    · intro w' hSw; replace c2 := bel_cell hSw c2; replace x1 := bel_cell hSw x1; replace x2 := bel_cell hSw x2; replace zq := Nat.lt_of_lt_of_le zq hSw.size; replace zb := Nat.lt_of_lt_of_le zb hSw.size; have hlk := run_lookT (H.out.mr.of_block (hSw.block _ H.out.mr.lt)) e.k e.d; unfold keyV at hlk; rw [HMI.out] at hlk; go_simp; try with_reducible rfl
    (try simp only [Act.put, List.setIfInBounds_toArray, List.set_cons_zero, List.set_cons_succ])
    refine quiet_at (v := ?_) (by rfl) ?_ ?_
    rotate_left
    · intro w' hSw; replace c2 := bel_cell hSw c2; replace x1 := bel_cell hSw x1; replace x2 := bel_cell hSw x2; replace zq := Nat.lt_of_lt_of_le zq hSw.size; replace zb := Nat.lt_of_lt_of_le zb hSw.size; have hlk := run_lookT (H.out.mr.of_block (hSw.block _ H.out.mr.lt)) e.k e.d; unfold keyV at hlk; rw [HMI.out] at hlk; go_simp; try with_reducible rfl
    (try simp only [Act.put, List.setIfInBounds_toArray, List.set_cons_zero, List.set_cons_succ])
    refine quiet_at (v := ?_) (by rfl) ?_ ?_
    rotate_left
    · intro w' hSw; replace c2 := bel_cell hSw c2; replace x1 := bel_cell hSw x1; replace x2 := bel_cell hSw x2; replace zq := Nat.lt_of_lt_of_le zq hSw.size; replace zb := Nat.lt_of_lt_of_le zb hSw.size; have hlk := run_lookT (H.out.mr.of_block (hSw.block _ H.out.mr.lt)) e.k e.d; unfold keyV at hlk; rw [HMI.out] at hlk; go_simp; try with_reducible rfl
    (try simp only [Act.put, List.setIfInBounds_toArray, List.set_cons_zero, List.set_cons_succ])
    refine quiet_at (v := ?_) (by rfl) ?_ ?_
    rotate_left
    · intro w' hSw; replace c2 := bel_cell hSw c2; replace x1 := bel_cell hSw x1; replace x2 := bel_cell hSw x2; replace zq := Nat.lt_of_lt_of_le zq hSw.size; replace zb := Nat.lt_of_lt_of_le zb hSw.size; have hlk := run_lookT (H.out.mr.of_block (hSw.block _ H.out.mr.lt)) e.k e.d; unfold keyV at hlk; rw [HMI.out] at hlk; go_simp; try with_reducible rfl
    (try simp only [Act.put, List.setIfInBounds_toArray, List.set_cons_zero, List.set_cons_succ])
    refine quiet_at (v := ?_) (by rfl) ?_ ?_
    rotate_left
    · intro w' hSw; replace c2 := bel_cell hSw c2; replace x1 := bel_cell hSw x1; replace x2 := bel_cell hSw x2; replace zq := Nat.lt_of_lt_of_le zq hSw.size; replace zb := Nat.lt_of_lt_of_le zb hSw.size; have hlk := run_lookT (H.out.mr.of_block (hSw.block _ H.out.mr.lt)) e.k e.d; unfold keyV at hlk; rw [HMI.out] at hlk; go_simp; try with_reducible rfl
    (try simp only [Act.put, List.setIfInBounds_toArray, List.set_cons_zero, List.set_cons_succ])
    refine quiet_at (v := ?_) (by rfl) ?_ ?_
    rotate_left
    · intro w' hSw; replace c2 := bel_cell hSw c2; replace x1 := bel_cell hSw x1; replace x2 := bel_cell hSw x2; replace zq := Nat.lt_of_lt_of_le zq hSw.size; replace zb := Nat.lt_of_lt_of_le zb hSw.size; have hlk := run_lookT (H.out.mr.of_block (hSw.block _ H.out.mr.lt)) e.k e.d; unfold keyV at hlk; rw [HMI.out] at hlk; go_simp; try with_reducible rfl
    (try simp only [Act.put, List.setIfInBounds_toArray, List.set_cons_zero, List.set_cons_succ])
    refine quiet_at (v := ?_) (by rfl) ?_ ?_
    rotate_left
    · intro w' hSw; replace c2 := bel_cell hSw c2; replace x1 := bel_cell hSw x1; replace x2 := bel_cell hSw x2; replace zq := Nat.lt_of_lt_of_le zq hSw.size; replace zb := Nat.lt_of_lt_of_le zb hSw.size; have hlk := run_lookT (H.out.mr.of_block (hSw.block _ H.out.mr.lt)) e.k e.d; unfold keyV at hlk; rw [HMI.out] at hlk; go_simp; try with_reducible rfl
    (try simp only [Act.put, List.setIfInBounds_toArray, List.set_cons_zero, List.set_cons_succ])
    refine quiet_at (v := ?_) (by rfl) ?_ ?_
    rotate_left
    · intro w' hSw; replace c2 := bel_cell hSw c2; replace x1 := bel_cell hSw x1; replace x2 := bel_cell hSw x2; replace zq := Nat.lt_of_lt_of_le zq hSw.size; replace zb := Nat.lt_of_lt_of_le zb hSw.size; have hlk := run_lookT (H.out.mr.of_block (hSw.block _ H.out.mr.lt)) e.k e.d; unfold keyV at hlk; rw [HMI.out] at hlk; go_simp; try with_reducible rfl
    (try simp only [Act.put, List.setIfInBounds_toArray, List.set_cons_zero, List.set_cons_succ])
    refine quiet_at (v := ?_) (by rfl) ?_ ?_
    rotate_left
    · intro w' hSw; replace c2 := bel_cell hSw c2; replace x1 := bel_cell hSw x1; replace x2 := bel_cell hSw x2; replace zq := Nat.lt_of_lt_of_le zq hSw.size; replace zb := Nat.lt_of_lt_of_le zb hSw.size; have hlk := run_lookT (H.out.mr.of_block (hSw.block _ H.out.mr.lt)) e.k e.d; unfold keyV at hlk; rw [HMI.out] at hlk; go_simp; try with_reducible rfl
    (try simp only [Act.put, List.setIfInBounds_toArray, List.set_cons_zero, List.set_cons_succ])
    refine quiet_at (v := ?_) (by rfl) ?_ ?_
    rotate_left
    · intro w' hSw; replace c2 := bel_cell hSw c2; replace x1 := bel_cell hSw x1; replace x2 := bel_cell hSw x2; replace zq := Nat.lt_of_lt_of_le zq hSw.size; replace zb := Nat.lt_of_lt_of_le zb hSw.size; have hlk := run_lookT (H.out.mr.of_block (hSw.block _ H.out.mr.lt)) e.k e.d; unfold keyV at hlk; rw [HMI.out] at hlk; go_simp; try with_reducible rfl
    (try simp only [Act.put, List.setIfInBounds_toArray, List.set_cons_zero, List.set_cons_succ])
    refine wpQuiet_nil ?_
    intro wq hSq
    go_wp2_with (fail)
    go_meet
    exact ⟨rfl, rfl, rfl, hSq⟩
  case rest =>
    obtain ⟨rfl, rfl, rfl, hB⟩ := hcut
    have h2 := H.out.below hB
    have hx2 := HB.out.below hB
    have F2 := F1.trans (QFr.of_below hB)
    clear H HB x0 x1 x2 c2 zb zq hB F1
    have c1 : wc.cell? ⟨q, 1, none⟩ = some (.slice (some ⟨g, 0, none⟩) n cap) := by rw [h2.qb.cell]; rfl
    have x0 : wc.cell? ⟨b, 0, none⟩ = some (.int .i64 e.t) := by rw [hx2.cell]; rfl
    have x1 : wc.cell? ⟨b, 1, none⟩ = some (.int .i64 e.k) := by rw [hx2.cell]; rfl
    have x2 : wc.cell? ⟨b, 2, none⟩ = some (.int .i64 e.d) := by rw [hx2.cell]; rfl
    have zb := hx2.lt
    have zq := h2.qb.lt
    have zg := h2.hr.lt
    have i0 : (0 : Int) ≤ i := by omega
    have i1 : (i : Int) < n := by omega
    obtain ⟨y0, y1, y2⟩ := h2.hr.cells hi
    have z0 := h2.hr.frozen (i * 3)
    have z1 := h2.hr.frozen (i * 3 + 1)
    have z2 := h2.hr.frozen (i * 3 + 2)
    have H := Lib.hid h2
    have HB := Lib.hid hx2
    clear h2 hx2
    go_upto_region 8 with (fail)
    refine wp_region_still_tail 7 (by kernel_rfl) (by kernel_rfl) ?_
    simp only [List.take_succ_cons, List.take_zero, List.drop_succ_cons, List.drop_zero]
    iterate 7 still_step
    refine wpStill_nil ?_
    change wpList _ _ _ _ _ wc.drew
    go_upto_region 11 with (fail)
    have hs := (H.out.hr.put hi e).of_block (w' := (((wc.setCell ⟨g, i * 3, none⟩ (.int .i64 e.t)).setCell ⟨g, i * 3 + 1, none⟩ (.int .i64 e.k)).setCell ⟨g, i * 3 + 2, none⟩ (.int .i64 e.d)).drew) rfl
    have u1 : ∀ k, k ≠ g → ((((wc.setCell ⟨g, i * 3, none⟩ (.int .i64 e.t)).setCell ⟨g, i * 3 + 1, none⟩ (.int .i64 e.k)).setCell ⟨g, i * 3 + 2, none⟩ (.int .i64 e.d)).drew).heap[k]? = wc.heap[k]? := fun k hk => by
      show (((wc.setCell ⟨g, i * 3, none⟩ (.int .i64 e.t)).setCell ⟨g, i * 3 + 1, none⟩ (.int .i64 e.k)).setCell ⟨g, i * 3 + 2, none⟩ (.int .i64 e.d)).heap[k]? = wc.heap[k]?
      rw [Below.heap_setCell _ _ _ _ hk, Below.heap_setCell _ _ _ _ hk, Below.heap_setCell _ _ _ _ hk]
    have F3 := F2.trans (w2 := (((wc.setCell ⟨g, i * 3, none⟩ (.int .i64 e.t)).setCell ⟨g, i * 3 + 1, none⟩ (.int .i64 e.k)).setCell ⟨g, i * 3 + 2, none⟩ (.int .i64 e.d)).drew) ⟨rfl, rfl, rfl, by simp, fun k _ _ _ hk => u1 k hk⟩
    have h3 : QRep ((((wc.setCell ⟨g, i * 3, none⟩ (.int .i64 e.t)).setCell ⟨g, i * 3 + 1, none⟩ (.int .i64 e.k)).setCell ⟨g, i * 3 + 2, none⟩ (.int .i64 e.d)).drew) q r g cap room n (fupd f i e) m := ⟨(u1 q NE.1).trans H.out.qb, hs, H.out.mr.of_block (u1 r (Ne.symm NE.2.2))⟩
    have hx3 : Blk ((((wc.setCell ⟨g, i * 3, none⟩ (.int .i64 e.t)).setCell ⟨g, i * 3 + 1, none⟩ (.int .i64 e.k)).setCell ⟨g, i * 3 + 2, none⟩ (.int .i64 e.d)).drew) b 30 (evV e) := (u1 b (by omega)).trans HB.out
    clear hs u1 F2 H HB c1 x0 x1 x2 zb zq zg y0 y1 y2 z0 z1 z2
    generalize (((wc.setCell ⟨g, i * 3, none⟩ (.int .i64 e.t)).setCell ⟨g, i * 3 + 1, none⟩ (.int .i64 e.k)).setCell ⟨g, i * 3 + 2, none⟩ (.int .i64 e.d)).drew = W3 at *
    have zb3 := hx3.lt
    have nb : b ≠ q ∧ b ≠ r ∧ b ≠ g := by omega
    have UP := Lib.hid (up_walk q r g cap n i room (fupd f i e) m W3 h3 HMO.out HEX.out hi (by simp only [maxLen]; omega))
    rw [HFI.out] at UP
    have HX := Lib.hid hx3
    clear h3 hx3 HMO HEX
    go_wp2_with (fail)
    refine UP.out.mono ?_
    rintro x w4 ⟨rfl, ⟨f', m', j, h4, hm4, hd4, hj, hfj, hs4⟩, F4⟩
    have hx4 : Blk w4 b 30 (evV e) := (F4.block b zb3 nb.1 nb.2.1 nb.2.2).trans HX.out
    have F5 := F3.trans F4
    clear UP HX F3 F4 zb3
    have hmj := hm4.at_ j hj
    rw [hfj] at hmj
    have c2 : w4.cell? ⟨q, 2, none⟩ = some (.map (some r)) := by rw [h4.qb.cell]; rfl
    have x1 : w4.cell? ⟨b, 1, none⟩ = some (.int .i64 e.k) := by rw [hx4.cell]; rfl
    have x2 : w4.cell? ⟨b, 2, none⟩ = some (.int .i64 e.d) := by rw [hx4.cell]; rfl
    have zb := hx4.lt
    have zq := h4.qb.lt
    have hlk := run_lookF (h4.mr.of_block (w' := w4.drew) rfl) e.k e.d
    rw [hmj] at hlk
    unfold keyV at hlk
    have DN := Lib.hid (down_walk q r g cap n j room f' m' w4.drew (h4.below (below_drewN (Below.refl _ _) 1)) hm4 hd4 hj hn)
    have HS := Lib.hid hs4
    clear h4 hm4 hd4 hs4 hmj hfj hx4
    go_upto_region 12 with (fail)
    refine wp_region_still_tail 11 (by kernel_rfl) (by kernel_rfl) ?_
    simp only [List.take_succ_cons, List.take_zero, List.drop_succ_cons, List.drop_zero]
    iterate 11 still_step
    refine wpStill_nil ?_
    change wpList _ _ _ _ _ w4.drew
    clear hlk c2 x1 x2 zb zq
    go_wp2_with (fail)
    refine DN.out.mono ?_
    rintro x w5 ⟨rfl, ⟨f5, m5, h5, hm5, ho5, hs5⟩, F6⟩
    have F7 := (F5.trans (QFr.of_below (below_drewN (Below.refl _ _) 1))).trans F6
    go_wp2
    go_ret
    exact ⟨rfl, ⟨f5, m5, h5, hm5, ho5, HS.out.trans hs5⟩, F7⟩
end Go.Proofs.YtfbbkeekpkbjhaaDoor
