/- Set of a new event, walked. -/
import Derived.Test.YtfbbkeekpkbjhaaDoorS1
import Derived.Deep.AppendLies
import Derived.OwnWalk
namespace Go.Proofs.YtfbbkeekpkbjhaaDoor
open Go.RowKit
def CellsOf (xs : List Value) (n : Nat) (f : Nat → Ev) : Prop := ∀ i, i < n → xs[i * 3]? = some (.int .i64 (f i).t) ∧ xs[i * 3 + 1]? = some (.int .i64 (f i).k) ∧ xs[i * 3 + 2]? = some (.int .i64 (f i).d)
theorem HeapRep.own {w : World} {g cap n : Nat} {f : Nat → Ev} (h : HeapRep w g cap n f) {B : Nat} (hB : B ≤ g) : ∃ xs, w.ownsRow B 30 3 (.slice (some ⟨g, 0, none⟩) n cap) n xs ∧ CellsOf xs n f := by
  obtain ⟨cur, hb, hs, hn, hm, hc⟩ := h
  refine ⟨cur.toList.take (n * 3), ⟨by simp [hs]; omega, Or.inr ⟨g, cap, cur, rfl, hB, hb, hn, hm, hs, rfl⟩⟩, fun i hi => ?_⟩
  obtain ⟨h1, h2, h3⟩ := hc i hi
  simp only [List.getElem?_take, Array.getElem?_toList]
  rw [if_pos (by omega), if_pos (by omega), if_pos (by omega)]
  exact ⟨h1, h2, h3⟩
theorem HeapRep.of_own {w : World} {B g cap n : Nat} {f : Nat → Ev} {xs : List Value} (h : w.ownsRow B 30 3 (.slice (some ⟨g, 0, none⟩) n cap) n xs) (hc : CellsOf xs n f) : HeapRep w g cap n f := by
  rcases h.2 with ⟨h, _⟩ | ⟨g', c', cur, e, _, hb, hn, hm, hs, ht⟩
  · cases h
  · cases e
    refine ⟨cur, hb, hs, hn, hm, fun i hi => ?_⟩
    obtain ⟨h1, h2, h3⟩ := hc i hi
    rw [← ht] at h1 h2 h3
    simp only [List.getElem?_take, Array.getElem?_toList] at h1 h2 h3
    rw [if_pos (by omega)] at h1 h2 h3
    exact ⟨h1, h2, h3⟩
theorem CellsOf.push {xs : List Value} {n : Nat} {f : Nat → Ev} (h : CellsOf xs n f) (hl : xs.length = n * 3) (e : Ev) : CellsOf (xs ++ (evV e).toList) (n + 1) (fupd f n e) := by
  intro i hi
  unfold fupd
  by_cases hin : i = n
  · subst hin
    rw [if_pos rfl, List.getElem?_append_right (by omega), List.getElem?_append_right (by omega), List.getElem?_append_right (by omega)]
    rw [hl, Nat.sub_self, Nat.add_sub_cancel_left, Nat.add_sub_cancel_left]
    exact ⟨rfl, rfl, rfl⟩
  · rw [if_neg hin, List.getElem?_append_left (by omega), List.getElem?_append_left (by omega), List.getElem?_append_left (by omega)]
    exact h i (by omega)
theorem MapOk.add {n : Nat} {f : Nat → Ev} {m : Int → Int → Option Nat} (h : MapOk n f m) {e : Ev} (hm : m e.k e.d = none) : MapOk (n + 1) (fupd f n e) (mupd m e.k e.d n) := by
  have no : ∀ i, i < n → ¬ ((f i).k = e.k ∧ (f i).d = e.d) := fun i hi hk => by
    have := h.at_ i hi
    rw [hk.1, hk.2, hm] at this; cases this
  refine ⟨fun i hi => ?_, fun a b v hv => ?_⟩
  · unfold fupd mupd
    by_cases hin : i = n
    · rw [if_pos hin, if_pos ⟨rfl, rfl⟩, hin]
    · rw [if_neg hin, if_neg (no i (by omega))]; exact h.at_ i (by omega)
  · unfold mupd at hv
    split at hv
    · rename_i hk; cases hv; unfold fupd; rw [if_pos rfl]; exact ⟨by omega, hk.1.symm, hk.2.symm⟩
    · obtain ⟨h1, h2, h3⟩ := h.of_ a b v hv
      unfold fupd; rw [if_neg (by omega)]; exact ⟨by omega, h2, h3⟩
theorem ExI.add {n : Nat} {f : Nat → Ev} (h : Ord n f) (e : Ev) : ExI (n + 1) (fupd f n e) n := by
  intro c c0 cn
  refine ⟨fun h1 h2 => ?_, fun h1 h2 => by omega⟩
  unfold fupd; rw [if_neg (by omega), if_neg h1]; exact h c c0 (by omega)
theorem fupd_twice (f : Nat → Ev) (i : Nat) (e : Ev) : fupd (fupd f i e) i e = fupd f i e := by funext j; unfold fupd; split <;> rfl
theorem mem_add {n : Nat} {f : Nat → Ev} {m : Int → Int → Option Nat} (h : MapOk n f m) {e : Ev} (hm : m e.k e.d = none) (x : Ev) : Mem (n + 1) (fupd f n e) x ↔ x = e ∨ (Mem n f x ∧ ¬ (x.k = e.k ∧ x.d = e.d)) := by
  constructor
  · rintro ⟨j, hj, rfl⟩
    unfold fupd
    by_cases hjn : j = n
    · rw [if_pos hjn]; exact Or.inl rfl
    · rw [if_neg hjn]
      refine Or.inr ⟨⟨j, by omega, rfl⟩, fun hk => ?_⟩
      have := h.at_ j (by omega)
      rw [hk.1, hk.2, hm] at this; cases this
  · rintro (rfl | ⟨⟨j, hj, rfl⟩, _⟩)
    · exact ⟨n, by omega, by unfold fupd; rw [if_pos rfl]⟩
    · exact ⟨j, by omega, by unfold fupd; rw [if_neg (by omega)]⟩
theorem info31 : (Tryd.prog.info? 30).map (fun i => (i.zero, i.size, i.bytes)) = some (some (.agg #[.int .i64 0, .int .i64 0, .int .i64 0]), 3, 24) := by kernel_rfl
attribute [local irreducible] wpQuiet
set_option linter.unusedSimpArgs false in
set_option linter.unusedVariables false in
set_option maxRecDepth 100000 in
set_option maxHeartbeats 1000000 in
theorem set_new (q r g cap n : Nat) (A : Option Addr) (xs : List Value) (room : Int) (f : Nat → Ev) (m : Int → Int → Option Nat) (e : Ev) (w : World) (hqb : Blk w q 56 #[.int .i64 room, .slice A n cap, .map (some r)]) (hown : w.ownsRow 0 30 3 (.slice A n cap) n xs) (hg : ∀ k, (Value.slice A n cap).ownBlock = some k → k = g) (hcs : CellsOf xs n f) (hmr : MapRep w r m)
    (hm : MapOk n f m) (ho : Ord n f) (hmi : m e.k e.d = none) (hn : (n : Int) < room) (hroom : room ≤ 65536)
    (t0 : 0 ≤ e.t) (t1 : e.t ≤ 4611686018427387904) (k0 : 0 ≤ e.k) (d0 : 0 ≤ e.d) :
    Calls Tryd.prog 7 #[.pointer (some ⟨q, 0, none⟩), .agg (evV e)] w fun x w' => x = .returned .nilIface ∧ (∃ g' cap' f' m', QRep w' q r g' cap' room (n + 1) f' m' ∧ MapOk (n + 1) f' m' ∧ Ord (n + 1) f' ∧ Same (n + 1) (fupd f n e) f' ∧ (g' = g ∨ w.heap.size ≤ g')) ∧ QFr w w' q r g := by
  have F1 : QFr w (w.alloc (.cells (evV e) 30)) q r g := QFr.of_below (below_al (Below.refl w.heap.size w) (.cells (evV e) 30))
  have hbx := Blk.new w 30 (evV e)
  have hq1 := hqb.alloc (.cells (evV e) 30)
  have hown1 := hown.alloc (.cells (evV e) 30)
  have hmr1 := hmr.alloc (.cells (evV e) 30)
  have zb0 : q < w.heap.size ∧ r < w.heap.size := ⟨hqb.lt, hmr.lt⟩
  have HMI := Lib.hid hmi
  have HMO := Lib.hid (hm.add hmi)
  have HEX := Lib.hid (ExI.add ho e)
  have HG := Lib.hid hg
  have GN := Lib.hid (show ∀ (U : World), U.ownsRow 0 30 3 (.slice A n cap) n xs → Blk U q 56 #[.int .i64 room, .slice A n cap, .map (some r)] → MapRep U r m → ∀ k, (Value.slice A n cap).ownBlock = some k → k ≠ q ∧ k ≠ r ∧ k < w.heap.size from fun U h1 h2 h3 k hk => by
    have hlt := (hown.lt k hk).2
    rcases h1.2 with ⟨e, _⟩ | ⟨g', c', cur, e, _, hb, _⟩
    · rw [e] at hk; cases hk
    · rw [e] at hk
      have hk' : k = g' := by simpa [Value.ownBlock] using hk.symm
      subst hk'
      refine ⟨fun e => ?_, fun e => ?_, hlt⟩
      · subst e; rw [h2] at hb; injection hb with h1; injection h1 with _ h2; cases h2
      · subst e; obtain ⟨L, c, hm, _⟩ := h3; rw [hb] at hm; cases hm)
  have HCS := Lib.hid (hcs.push hown.1 e)
  clear hqb hown hmr hm ho hmi hg hcs
  have e0 : decide (e.t < 0) = false := decide_eq_false (by omega)
  have e1 : decide (4611686018427387904 < e.t) = false := decide_eq_false (by omega)
  have e2 : decide (e.k < 0) = false := decide_eq_false (by omega)
  have e3 : decide (e.d < 0) = false := decide_eq_false (by omega)
  have x0 : (w.alloc (.cells (evV e) 30)).cell? ⟨w.heap.size, 0, none⟩ = some (.int .i64 e.t) := by rw [hbx.cell]; rfl
  have x1 : (w.alloc (.cells (evV e) 30)).cell? ⟨w.heap.size, 1, none⟩ = some (.int .i64 e.k) := by rw [hbx.cell]; rfl
  have x2 : (w.alloc (.cells (evV e) 30)).cell? ⟨w.heap.size, 2, none⟩ = some (.int .i64 e.d) := by rw [hbx.cell]; rfl
  have zb := hbx.lt
  have zq := hq1.lt
  have c2 : (w.alloc (.cells (evV e) 30)).cell? ⟨q, 2, none⟩ = some (.map (some r)) := by rw [hq1.cell]; rfl
  have HQ := Lib.hid hq1
  have OW := Lib.hid hown1
  have MR := Lib.hid hmr1
  have HB := Lib.hid hbx
  clear hq1 hown1 hmr1 hbx
  go_enter Tryd.func7, Tryd.ntmps7
  go_upto_region 1 with (fail)
  generalize hW : w.alloc (Obj.cells (evV e) 30) = W at *
  generalize hb : w.heap.size = b at *
  clear hW
  go_upto_region 3 with (fail)
  clear e0 e1 e2 e3
  go_cut [3, 5, 6] from 30 to 42 (fun v3 v5 v6 wx => v3 = .pointer (some ⟨b, 0, none⟩) ∧ v5 = .int .i64 0 ∧ v6 = .bool false ∧ Below W.heap.size W wx)
  case first =>
    refine wp_quiet_class (fun w' => Below W.heap.size W w') (by kernel_rfl) (by kernel_rfl) (below_drewN (Below.refl _ _) 1) ?_
    refine quiet_at (v := ?_) (by rfl) ?_ ?_
    rotate_left
    · intro w' hSw; replace c2 := bel_cell hSw c2; replace x1 := bel_cell hSw x1; replace x2 := bel_cell hSw x2; replace zq := Nat.lt_of_lt_of_le zq hSw.size; replace zb := Nat.lt_of_lt_of_le zb hSw.size; have hlk := run_lookT (MR.out.of_block (hSw.block _ MR.out.lt)) e.k e.d; unfold keyV at hlk; rw [HMI.out] at hlk; go_simp; try with_reducible rfl
    (try simp only [Act.put, List.setIfInBounds_toArray, List.set_cons_zero, List.set_cons_succ])
    refine quiet_at (v := ?_) (by rfl) ?_ ?_
    rotate_left
    · intro w' hSw; replace c2 := bel_cell hSw c2; replace x1 := bel_cell hSw x1; replace x2 := bel_cell hSw x2; replace zq := Nat.lt_of_lt_of_le zq hSw.size; replace zb := Nat.lt_of_lt_of_le zb hSw.size; have hlk := run_lookT (MR.out.of_block (hSw.block _ MR.out.lt)) e.k e.d; unfold keyV at hlk; rw [HMI.out] at hlk; go_simp; try with_reducible rfl
    (try simp only [Act.put, List.setIfInBounds_toArray, List.set_cons_zero, List.set_cons_succ])
    refine quiet_at (v := ?_) (by rfl) ?_ ?_
    rotate_left
    · intro w' hSw; replace c2 := bel_cell hSw c2; replace x1 := bel_cell hSw x1; replace x2 := bel_cell hSw x2; replace zq := Nat.lt_of_lt_of_le zq hSw.size; replace zb := Nat.lt_of_lt_of_le zb hSw.size; have hlk := run_lookT (MR.out.of_block (hSw.block _ MR.out.lt)) e.k e.d; unfold keyV at hlk; rw [HMI.out] at hlk; go_simp; try with_reducible rfl
    (try simp only [Act.put, List.setIfInBounds_toArray, List.set_cons_zero, List.set_cons_succ])
    refine quiet_at (v := ?_) (by rfl) ?_ ?_
    rotate_left
    · intro w' hSw; replace c2 := bel_cell hSw c2; replace x1 := bel_cell hSw x1; replace x2 := bel_cell hSw x2; replace zq := Nat.lt_of_lt_of_le zq hSw.size; replace zb := Nat.lt_of_lt_of_le zb hSw.size; have hlk := run_lookT (MR.out.of_block (hSw.block _ MR.out.lt)) e.k e.d; unfold keyV at hlk; rw [HMI.out] at hlk; go_simp; try with_reducible rfl
    (try simp only [Act.put, List.setIfInBounds_toArray, List.set_cons_zero, List.set_cons_succ])
    refine quiet_at (v := ?_) (by rfl) ?_ ?_
    rotate_left
    · intro w' hSw; replace c2 := bel_cell hSw c2; replace x1 := bel_cell hSw x1; replace x2 := bel_cell hSw x2; replace zq := Nat.lt_of_lt_of_le zq hSw.size; replace zb := Nat.lt_of_lt_of_le zb hSw.size; have hlk := run_lookT (MR.out.of_block (hSw.block _ MR.out.lt)) e.k e.d; unfold keyV at hlk; rw [HMI.out] at hlk; go_simp; try with_reducible rfl
    (try simp only [Act.put, List.setIfInBounds_toArray, List.set_cons_zero, List.set_cons_succ])
    refine quiet_at (v := ?_) (by rfl) ?_ ?_
    rotate_left
    · intro w' hSw; replace c2 := bel_cell hSw c2; replace x1 := bel_cell hSw x1; replace x2 := bel_cell hSw x2; replace zq := Nat.lt_of_lt_of_le zq hSw.size; replace zb := Nat.lt_of_lt_of_le zb hSw.size; have hlk := run_lookT (MR.out.of_block (hSw.block _ MR.out.lt)) e.k e.d; unfold keyV at hlk; rw [HMI.out] at hlk; go_simp; try with_reducible rfl
    (try simp only [Act.put, List.setIfInBounds_toArray, List.set_cons_zero, List.set_cons_succ])
    refine quiet_at (v := ?_) (by rfl) ?_ ?_
    rotate_left
    · intro w' hSw; replace c2 := bel_cell hSw c2; replace x1 := bel_cell hSw x1; replace x2 := bel_cell hSw x2; replace zq := Nat.lt_of_lt_of_le zq hSw.size; replace zb := Nat.lt_of_lt_of_le zb hSw.size; have hlk := run_lookT (MR.out.of_block (hSw.block _ MR.out.lt)) e.k e.d; unfold keyV at hlk; rw [HMI.out] at hlk; go_simp; try with_reducible rfl
    (try simp only [Act.put, List.setIfInBounds_toArray, List.set_cons_zero, List.set_cons_succ])
    refine quiet_at (v := ?_) (by rfl) ?_ ?_
    rotate_left
    · intro w' hSw; replace c2 := bel_cell hSw c2; replace x1 := bel_cell hSw x1; replace x2 := bel_cell hSw x2; replace zq := Nat.lt_of_lt_of_le zq hSw.size; replace zb := Nat.lt_of_lt_of_le zb hSw.size; have hlk := run_lookT (MR.out.of_block (hSw.block _ MR.out.lt)) e.k e.d; unfold keyV at hlk; rw [HMI.out] at hlk; go_simp; try with_reducible rfl
    (try simp only [Act.put, List.setIfInBounds_toArray, List.set_cons_zero, List.set_cons_succ])
    refine quiet_at (v := ?_) (by rfl) ?_ ?_
    rotate_left
    · intro w' hSw; replace c2 := bel_cell hSw c2; replace x1 := bel_cell hSw x1; replace x2 := bel_cell hSw x2; replace zq := Nat.lt_of_lt_of_le zq hSw.size; replace zb := Nat.lt_of_lt_of_le zb hSw.size; have hlk := run_lookT (MR.out.of_block (hSw.block _ MR.out.lt)) e.k e.d; unfold keyV at hlk; rw [HMI.out] at hlk; go_simp; try with_reducible rfl
    (try simp only [Act.put, List.setIfInBounds_toArray, List.set_cons_zero, List.set_cons_succ])
    refine quiet_at (v := ?_) (by rfl) ?_ ?_
    rotate_left
    · intro w' hSw; replace c2 := bel_cell hSw c2; replace x1 := bel_cell hSw x1; replace x2 := bel_cell hSw x2; replace zq := Nat.lt_of_lt_of_le zq hSw.size; replace zb := Nat.lt_of_lt_of_le zb hSw.size; have hlk := run_lookT (MR.out.of_block (hSw.block _ MR.out.lt)) e.k e.d; unfold keyV at hlk; rw [HMI.out] at hlk; go_simp; try with_reducible rfl
    (try simp only [Act.put, List.setIfInBounds_toArray, List.set_cons_zero, List.set_cons_succ])
    refine quiet_at (v := ?_) (by rfl) ?_ ?_
    rotate_left
    · intro w' hSw; replace c2 := bel_cell hSw c2; replace x1 := bel_cell hSw x1; replace x2 := bel_cell hSw x2; replace zq := Nat.lt_of_lt_of_le zq hSw.size; replace zb := Nat.lt_of_lt_of_le zb hSw.size; have hlk := run_lookT (MR.out.of_block (hSw.block _ MR.out.lt)) e.k e.d; unfold keyV at hlk; rw [HMI.out] at hlk; go_simp; try with_reducible rfl
    (try simp only [Act.put, List.setIfInBounds_toArray, List.set_cons_zero, List.set_cons_succ])
    refine quiet_at (v := ?_) (by rfl) ?_ ?_
    rotate_left
    · intro w' hSw; replace c2 := bel_cell hSw c2; replace x1 := bel_cell hSw x1; replace x2 := bel_cell hSw x2; replace zq := Nat.lt_of_lt_of_le zq hSw.size; replace zb := Nat.lt_of_lt_of_le zb hSw.size; have hlk := run_lookT (MR.out.of_block (hSw.block _ MR.out.lt)) e.k e.d; unfold keyV at hlk; rw [HMI.out] at hlk; go_simp; try with_reducible rfl
    (try simp only [Act.put, List.setIfInBounds_toArray, List.set_cons_zero, List.set_cons_succ])
    refine quiet_at (v := ?_) (by rfl) ?_ ?_
    rotate_left
    · intro w' hSw; replace c2 := bel_cell hSw c2; replace x1 := bel_cell hSw x1; replace x2 := bel_cell hSw x2; replace zq := Nat.lt_of_lt_of_le zq hSw.size; replace zb := Nat.lt_of_lt_of_le zb hSw.size; have hlk := run_lookT (MR.out.of_block (hSw.block _ MR.out.lt)) e.k e.d; unfold keyV at hlk; rw [HMI.out] at hlk; go_simp; try with_reducible rfl
    (try simp only [Act.put, List.setIfInBounds_toArray, List.set_cons_zero, List.set_cons_succ])
    refine quiet_at (v := ?_) (by rfl) ?_ ?_
    rotate_left
    · intro w' hSw; replace c2 := bel_cell hSw c2; replace x1 := bel_cell hSw x1; replace x2 := bel_cell hSw x2; replace zq := Nat.lt_of_lt_of_le zq hSw.size; replace zb := Nat.lt_of_lt_of_le zb hSw.size; have hlk := run_lookT (MR.out.of_block (hSw.block _ MR.out.lt)) e.k e.d; unfold keyV at hlk; rw [HMI.out] at hlk; go_simp; try with_reducible rfl
    (try simp only [Act.put, List.setIfInBounds_toArray, List.set_cons_zero, List.set_cons_succ])
    refine quiet_at (v := ?_) (by rfl) ?_ ?_
    rotate_left
    · intro w' hSw; replace c2 := bel_cell hSw c2; replace x1 := bel_cell hSw x1; replace x2 := bel_cell hSw x2; replace zq := Nat.lt_of_lt_of_le zq hSw.size; replace zb := Nat.lt_of_lt_of_le zb hSw.size; have hlk := run_lookT (MR.out.of_block (hSw.block _ MR.out.lt)) e.k e.d; unfold keyV at hlk; rw [HMI.out] at hlk; go_simp; try with_reducible rfl
    (try simp only [Act.put, List.setIfInBounds_toArray, List.set_cons_zero, List.set_cons_succ])
    refine wpQuiet_nil ?_
    intro wq hSq
    go_wp2_with (fail)
    go_meet
    exact ⟨rfl, rfl, rfl, hSq⟩
  case rest =>
    obtain ⟨rfl, rfl, rfl, hB⟩ := hcut
    have hq2 := HQ.out.below hB
    have ho2 := OW.out.kept (World.grownBy.mk hB.os hB.tape hB.output hB.size (fun k hk _ => hB.block k hk) : W.grownBy wc none) (by cases hv : (Value.slice A n cap).ownBlock <;> simp)
    have hm2 := MR.out.of_block (hB.block _ MR.out.lt)
    have hx2 := HB.out.below hB
    have F2 := F1.trans (QFr.of_below hB)
    clear HQ OW MR HB x0 x1 x2 c2 zb zq hB F1
    have c0 : wc.cell? ⟨q, 0, none⟩ = some (.int .i64 room) := by rw [hq2.cell]; rfl
    have c1 : wc.cell? ⟨q, 1, none⟩ = some (.slice A n cap) := by rw [hq2.cell]; rfl
    have zq := hq2.lt
    have HQ := Lib.hid hq2
    have OW := Lib.hid ho2
    have MR := Lib.hid hm2
    have HB := Lib.hid hx2
    clear hq2 ho2 hm2 hx2
    generalize hV : wc = V at *
    clear hV
    go_upto_region 9 with (fail)
    go_cut [71] from 72 to 81 (fun v71 wx => v71 = .bool false ∧ Below V.heap.size V wx)
    case first =>
      have d : decide (room ≤ (n : Int)) = false := decide_eq_false (by omega)
      refine wp_quiet_class (fun w' => Below V.heap.size V w') (by kernel_rfl) (by kernel_rfl) (below_drewN (Below.refl _ _) 1) ?_
      refine quiet_at (v := ?_) (by rfl) ?_ ?_
      rotate_left
      · intro w' hSw; replace c0 := bel_cell hSw c0; replace c1 := bel_cell hSw c1; replace zq := Nat.lt_of_lt_of_le zq hSw.size; go_simp; try with_reducible rfl
      (try simp only [Act.put, List.setIfInBounds_toArray, List.set_cons_zero, List.set_cons_succ])
      refine quiet_at (v := ?_) (by rfl) ?_ ?_
      rotate_left
      · intro w' hSw; replace c0 := bel_cell hSw c0; replace c1 := bel_cell hSw c1; replace zq := Nat.lt_of_lt_of_le zq hSw.size; go_simp; try with_reducible rfl
      (try simp only [Act.put, List.setIfInBounds_toArray, List.set_cons_zero, List.set_cons_succ])
      refine quiet_at (v := ?_) (by rfl) ?_ ?_
      rotate_left
      · intro w' hSw; replace c0 := bel_cell hSw c0; replace c1 := bel_cell hSw c1; replace zq := Nat.lt_of_lt_of_le zq hSw.size; go_simp; try with_reducible rfl
      (try simp only [Act.put, List.setIfInBounds_toArray, List.set_cons_zero, List.set_cons_succ])
      refine quiet_at (v := ?_) (by rfl) ?_ ?_
      rotate_left
      · intro w' hSw; replace c0 := bel_cell hSw c0; replace c1 := bel_cell hSw c1; replace zq := Nat.lt_of_lt_of_le zq hSw.size; go_simp; try with_reducible rfl
      (try simp only [Act.put, List.setIfInBounds_toArray, List.set_cons_zero, List.set_cons_succ])
      refine quiet_at (v := ?_) (by rfl) ?_ ?_
      rotate_left
      · intro w' hSw; replace c0 := bel_cell hSw c0; replace c1 := bel_cell hSw c1; replace zq := Nat.lt_of_lt_of_le zq hSw.size; go_simp; try with_reducible rfl
      (try simp only [Act.put, List.setIfInBounds_toArray, List.set_cons_zero, List.set_cons_succ])
      refine quiet_at (v := ?_) (by rfl) ?_ ?_
      rotate_left
      · intro w' hSw; replace c0 := bel_cell hSw c0; replace c1 := bel_cell hSw c1; replace zq := Nat.lt_of_lt_of_le zq hSw.size; go_simp; try with_reducible rfl
      (try simp only [Act.put, List.setIfInBounds_toArray, List.set_cons_zero, List.set_cons_succ])
      refine quiet_at (v := ?_) (by rfl) ?_ ?_
      rotate_left
      · intro w' hSw; replace c0 := bel_cell hSw c0; replace c1 := bel_cell hSw c1; replace zq := Nat.lt_of_lt_of_le zq hSw.size; go_simp; try with_reducible rfl
      (try simp only [Act.put, List.setIfInBounds_toArray, List.set_cons_zero, List.set_cons_succ])
      refine quiet_at (v := ?_) (by rfl) ?_ ?_
      rotate_left
      · intro w' hSw; replace c0 := bel_cell hSw c0; replace c1 := bel_cell hSw c1; replace zq := Nat.lt_of_lt_of_le zq hSw.size; go_simp; try with_reducible rfl
      (try simp only [Act.put, List.setIfInBounds_toArray, List.set_cons_zero, List.set_cons_succ])
      refine quiet_at (v := ?_) (by rfl) ?_ ?_
      rotate_left
      · intro w' hSw; replace c0 := bel_cell hSw c0; replace c1 := bel_cell hSw c1; replace zq := Nat.lt_of_lt_of_le zq hSw.size; go_simp; try with_reducible rfl
      (try simp only [Act.put, List.setIfInBounds_toArray, List.set_cons_zero, List.set_cons_succ])
      refine quiet_at (v := ?_) (by rfl) ?_ ?_
      rotate_left
      · intro w' hSw; replace c0 := bel_cell hSw c0; replace c1 := bel_cell hSw c1; replace zq := Nat.lt_of_lt_of_le zq hSw.size; go_simp; try with_reducible rfl
      (try simp only [Act.put, List.setIfInBounds_toArray, List.set_cons_zero, List.set_cons_succ])
      refine quiet_at (v := ?_) (by rfl) ?_ ?_
      rotate_left
      · intro w' hSw; replace c0 := bel_cell hSw c0; replace c1 := bel_cell hSw c1; replace zq := Nat.lt_of_lt_of_le zq hSw.size; go_simp; try with_reducible rfl
      (try simp only [Act.put, List.setIfInBounds_toArray, List.set_cons_zero, List.set_cons_succ])
      refine wpQuiet_nil ?_
      intro wq hSq
      go_wp2_with (fail)
      go_meet
      exact ⟨rfl, hSq⟩
    case rest =>
      obtain ⟨rfl, hB⟩ := hcut
      have hq2 := HQ.out.below hB
      have ho2 := OW.out.kept (World.grownBy.mk hB.os hB.tape hB.output hB.size (fun k hk _ => hB.block k hk) : V.grownBy wc none) (by cases hv : (Value.slice A n cap).ownBlock <;> simp)
      have hm2 := MR.out.of_block (hB.block _ MR.out.lt)
      have hx2 := HB.out.below hB
      have F3 := F2.trans (QFr.of_below hB)
      clear HQ OW MR HB c0 c1 zq hB F2
      generalize hV : wc = U at *
      clear hV
      have c1 : U.cell? ⟨q, 1, none⟩ = some (.slice A n cap) := by rw [hq2.cell]; rfl
      have x0 : U.cell? ⟨b, 0, none⟩ = some (.int .i64 e.t) := by rw [hx2.cell]; rfl
      have x1 : U.cell? ⟨b, 1, none⟩ = some (.int .i64 e.k) := by rw [hx2.cell]; rfl
      have x2 : U.cell? ⟨b, 2, none⟩ = some (.int .i64 e.d) := by rw [hx2.cell]; rfl
      have zb := hx2.lt
      have zq := hq2.lt
      have HQ := Lib.hid hq2
      have OW := Lib.hid ho2
      have MR := Lib.hid hm2
      have HB := Lib.hid hx2
      clear hq2 ho2 hm2 hx2
      go_upto_region 5 with (fail)
      obtain ⟨i0, hi0, hz0, hz1, hz2⟩ := info_parts info31
      have OWA := Lib.hid (show ((U.alloc (Obj.cells #[Value.int IntKind.i64 e.t, Value.int IntKind.i64 e.k, Value.int IntKind.i64 e.d] 30)).drew).ownsRow 0 30 3 (.slice A n cap) n xs from OW.out.alloc (Obj.cells #[Value.int IntKind.i64 e.t, Value.int IntKind.i64 e.k, Value.int IntKind.i64 e.d] 30))
      have NEW := Lib.hid (show ∀ j u, (evV e).toList[j]? = some u → ((U.alloc (Obj.cells #[Value.int IntKind.i64 e.t, Value.int IntKind.i64 e.k, Value.int IntKind.i64 e.d] 30)).drew).cell? ((⟨U.heap.size, 0, none⟩ : Addr).add j) = some u from World.news_of_block (t := 30) (fr := (0, 0)) (cs := evV e) (heap_alloc_new U _))
      have HQA := Lib.hid (show ((U.alloc (Obj.cells #[Value.int IntKind.i64 e.t, Value.int IntKind.i64 e.k, Value.int IntKind.i64 e.d] 30)).drew).heap[q]? = some (.cells #[.int .i64 room, .slice A n cap, .map (some r)] 56 (0, 0)) from HQ.out.alloc _)
      have c1a : (U.alloc (Obj.cells #[Value.int IntKind.i64 e.t, Value.int IntKind.i64 e.k, Value.int IntKind.i64 e.d] 30)).cell? ⟨q, 1, none⟩ = some (.slice A n cap) := by rw [Blk.cell (HQ.out.alloc _)]; rfl
      have nq0 : ∀ k, (Value.slice A n cap).ownBlock = some k → k ≠ q ∧ k ≠ r ∧ k < b := GN.out U OW.out HQ.out MR.out
      have NQ := Lib.hid (show some q ≠ (Value.slice A n cap).ownBlock from fun h => (nq0 q h.symm).1 rfl)
      have NR := Lib.hid (show some r ≠ (Value.slice A n cap).ownBlock from fun h => (nq0 r h.symm).2.1 rfl)
      have NB := Lib.hid (show some b ≠ (Value.slice A n cap).ownBlock from fun h => Nat.lt_irrefl _ (nq0 b h.symm).2.2)
      have zr := MR.out.lt
      have bU : b ≤ U.heap.size := by omega
      have G2 := Lib.hid (show ∀ g2, ((Value.slice A n cap).ownBlock = some g2 ∨ g2 = ((U.alloc (Obj.cells #[Value.int IntKind.i64 e.t, Value.int IntKind.i64 e.k, Value.int IntKind.i64 e.d] 30)).drew).heap.size) → g2 ≠ q from fun g2 h => by
        rcases h with h | h
        · exact (nq0 g2 h).1
        · rw [h]; simp; omega)
      have G3 := Lib.hid (show ∀ g2, ((Value.slice A n cap).ownBlock = some g2 ∨ g2 = ((U.alloc (Obj.cells #[Value.int IntKind.i64 e.t, Value.int IntKind.i64 e.k, Value.int IntKind.i64 e.d] 30)).drew).heap.size) → ((g2 = g ∨ b < g2) ∧ b ≠ g2) from fun g2 h => by
        rcases h with h | h
        · exact ⟨Or.inl (HG.out g2 h), fun e => by have := (nq0 g2 h).2.2; omega⟩
        · have : b < g2 := by rw [h]; simp; omega
          exact ⟨Or.inr this, by omega⟩)
      have nqb : b ≠ q := by omega
      have nqr : q ≠ r := fun h => by
        obtain ⟨L, c, hb, _⟩ := MR.out
        rw [← h, HQ.out] at hb; cases hb
      clear nq0
      go_cut [5] from 48 to 57 (fun v5 wx => v5 = .int .i64 n ∧ ∃ g2 c2, Blk wx q 56 #[.int .i64 room, .slice (some ⟨g2, 0, none⟩) (n + 1) c2, .map (some r)] ∧ HeapRep wx g2 c2 (n + 1) (fupd f n e) ∧ MapRep wx r m ∧ Blk wx b 30 (evV e) ∧ (g2 = g ∨ b < g2) ∧ b ≠ g2 ∧ QFr w wx q r g)
      case first =>
        refine wp_region_noPanic ?_
        refine wp_region_held_drew (S := (fun w' => U.heap.size ≤ w'.heap.size ∧ w'.heap[b]? = U.heap[b]?)) (by kernel_rfl) ?_ (fun hHeld => ?_)
        · exact ⟨Nat.le_refl _, rfl⟩
        refine reg_take (i := 0) (oi := _) (v := ?_) rfl (by kernel_rfl) (by kernel_rfl) (by kernel_rfl) (fun _ _ _ h => h) (by rfl) ?_ (by assumption) ?_
        rotate_left
        · intro w hSw; (try dsimp only at hSw); replace x0 := (World.cell?_of_block hSw.2).trans x0; replace x1 := (World.cell?_of_block hSw.2).trans x1; replace x2 := (World.cell?_of_block hSw.2).trans x2; replace zq := Nat.lt_of_lt_of_le zq hSw.1; replace zb := Nat.lt_of_lt_of_le zb hSw.1; go_simp; try with_reducible rfl
        (try simp only [Act.put, List.setIfInBounds_toArray, List.set_cons_zero, List.set_cons_succ])
        refine reg_take (i := 1) (oi := _) (v := ?_) rfl (by kernel_rfl) (by kernel_rfl) (by kernel_rfl) (fun _ _ _ h => h) (by rfl) ?_ (by assumption) ?_
        rotate_left
        · intro w hSw; (try dsimp only at hSw); replace x0 := (World.cell?_of_block hSw.2).trans x0; replace x1 := (World.cell?_of_block hSw.2).trans x1; replace x2 := (World.cell?_of_block hSw.2).trans x2; replace zq := Nat.lt_of_lt_of_le zq hSw.1; replace zb := Nat.lt_of_lt_of_le zb hSw.1; go_simp; try with_reducible rfl
        (try simp only [Act.put, List.setIfInBounds_toArray, List.set_cons_zero, List.set_cons_succ])
        refine reg_take (i := 2) (oi := _) (v := ?_) rfl (by kernel_rfl) (by kernel_rfl) (by kernel_rfl) (fun _ _ _ h => h) (by rfl) ?_ (by assumption) ?_
        rotate_left
        · intro w hSw; (try dsimp only at hSw); replace x0 := (World.cell?_of_block hSw.2).trans x0; replace x1 := (World.cell?_of_block hSw.2).trans x1; replace x2 := (World.cell?_of_block hSw.2).trans x2; replace zq := Nat.lt_of_lt_of_le zq hSw.1; replace zb := Nat.lt_of_lt_of_le zb hSw.1; go_simp; try with_reducible rfl
        (try simp only [Act.put, List.setIfInBounds_toArray, List.set_cons_zero, List.set_cons_succ])
        refine reg_take (i := 3) (oi := _) (v := ?_) rfl (by kernel_rfl) (by kernel_rfl) (by kernel_rfl) (fun _ _ _ h => h) (by rfl) ?_ (by assumption) ?_
        rotate_left
        · intro w hSw; (try dsimp only at hSw); replace x0 := (World.cell?_of_block hSw.2).trans x0; replace x1 := (World.cell?_of_block hSw.2).trans x1; replace x2 := (World.cell?_of_block hSw.2).trans x2; replace zq := Nat.lt_of_lt_of_le zq hSw.1; replace zb := Nat.lt_of_lt_of_le zb hSw.1; go_simp; try with_reducible rfl
        (try simp only [Act.put, List.setIfInBounds_toArray, List.set_cons_zero, List.set_cons_succ])
        refine reg_take (i := 5) (oi := _) (v := ?_) rfl (by kernel_rfl) (by kernel_rfl) (by kernel_rfl) (fun _ _ _ h => h) (by rfl) ?_ (by assumption) ?_
        rotate_left
        · intro w hSw; (try dsimp only at hSw); replace x0 := (World.cell?_of_block hSw.2).trans x0; replace x1 := (World.cell?_of_block hSw.2).trans x1; replace x2 := (World.cell?_of_block hSw.2).trans x2; replace zq := Nat.lt_of_lt_of_le zq hSw.1; replace zb := Nat.lt_of_lt_of_le zb hSw.1; go_simp; try with_reducible rfl
        (try simp only [Act.put, List.setIfInBounds_toArray, List.set_cons_zero, List.set_cons_succ])
        refine wpAnyH_ready (rs := [4, 6]) (by kernel_rfl) (by simp) ?_
        refine reg_each (o := _) rfl (fun K hK => ?_) ?_
        · skip
          go_simp
          refine hK.out _ _ ?_ (fun hHeld2 => ?_)
          · exact hHeld
          clear hK K hHeld
          have hHeld := hHeld2
          clear hHeld2
          (try simp only [Act.put, List.setIfInBounds_toArray, List.set_cons_zero, List.set_cons_succ])
          refine wpAnyH_ready (rs := [6]) (by kernel_rfl) (by simp) ?_
          refine reg_each (o := _) rfl (fun K hK => ?_) ?_
          · skip
            go_simp
            refine hK.out _ _ ?_ (fun hHeld2 => ?_)
            · exact ⟨by simp, Below.heap_alloc U _ b zb⟩
            clear hK K hHeld
            have hHeld := hHeld2
            clear hHeld2
            (try simp only [Act.put, List.setIfInBounds_toArray, List.set_cons_zero, List.set_cons_succ])
            refine wpAnyH_ready (rs := [7]) (by kernel_rfl) (by simp) ?_
            refine reg_each (o := _) rfl (fun K hK => ?_) ?_
            · skip
              refine step_append_lies _ rfl (.tmp 52) (.tmp 54) 49 rfl 0 30 i0 (.agg #[.int .i64 0, .int .i64 0, .int .i64 0]) 3 24 Tryd.underlying49 hi0 hz0 hz1 hz2 rfl (by decide) (.slice A n cap) n xs rfl OWA.out ⟨U.heap.size, 0, none⟩ 1 1 (evV e).toList rfl rfl NEW.out (by simp [evV, Value.oneCell']) (by omega) (by simp only [maxLen]; omega) (by omega) (Nat.zero_le _) _ rfl ?_
              intro g2 c2 w2 own2 gr2 at2 lt2
              have bq2 : Blk w2 q 56 #[.int .i64 room, .slice A n cap, .map (some r)] := (gr2.block q (by simp; omega) (NQ.out)).trans HQA.out
              have c1 : w2.cell? ⟨q, 1, none⟩ = some (.slice A n cap) := by rw [bq2.cell]; rfl
              have z1 := bq2.frozen 1
              have bb2 : w2.heap[b]? = U.heap[b]? := (gr2.block b (by simp; omega) NB.out).trans (Below.heap_alloc U _ b zb)
              refine hK.out _ _ ?_ (fun hHeld2 => ?_)
              · exact ⟨Nat.le_trans (by simp) gr2.size, bb2⟩
              clear hK K hHeld
              have hHeld := hHeld2
              clear hHeld2
              (try simp only [Act.put, List.setIfInBounds_toArray, List.set_cons_zero, List.set_cons_succ])
              refine reg_take (i := 8) (oi := _) (v := ?_) rfl (by kernel_rfl) (by kernel_rfl) (by kernel_rfl) (fun _ _ _ h => h) (by rfl) ?_ (by assumption) ?_
              rotate_left
              · intro w hSw; (try dsimp only at hSw); replace x0 := (World.cell?_of_block hSw.2).trans x0; replace x1 := (World.cell?_of_block hSw.2).trans x1; replace x2 := (World.cell?_of_block hSw.2).trans x2; replace zq := Nat.lt_of_lt_of_le zq hSw.1; replace zb := Nat.lt_of_lt_of_le zb hSw.1; go_simp; try with_reducible rfl
              (try simp only [Act.put, List.setIfInBounds_toArray, List.set_cons_zero, List.set_cons_succ])
              refine reg_take (i := 9) (oi := _) (v := ?_) rfl (by kernel_rfl) (by kernel_rfl) (by kernel_rfl) (fun _ _ _ h => h) (by rfl) ?_ (by assumption) ?_
              rotate_left
              · intro w hSw; (try dsimp only at hSw); replace x0 := (World.cell?_of_block hSw.2).trans x0; replace x1 := (World.cell?_of_block hSw.2).trans x1; replace x2 := (World.cell?_of_block hSw.2).trans x2; replace zq := Nat.lt_of_lt_of_le zq hSw.1; replace zb := Nat.lt_of_lt_of_le zb hSw.1; go_simp; try with_reducible rfl
              (try simp only [Act.put, List.setIfInBounds_toArray, List.set_cons_zero, List.set_cons_succ])
              refine wpAnyH_ready (rs := [10]) (by kernel_rfl) (by simp) ?_
              refine reg_each (o := _) rfl (fun K hK => ?_) ?_
              · skip
                go_simp
                refine hK.out _ _ ?_ (fun hHeld2 => ?_)
                · exact ⟨by have h := gr2.size; simp at h ⊢; omega, (Below.heap_setCell w2 _ _ b nqb).trans bb2⟩
                clear hK K hHeld
                have hHeld := hHeld2
                clear hHeld2
                (try simp only [Act.put, List.setIfInBounds_toArray, List.set_cons_zero, List.set_cons_succ])
                refine wpAnyH_done (by kernel_rfl) ?_ _
                refine NoPanic.normal ?_
                go_wp2_with (fail)
                go_meet
                have bq3 := bq2.put 1 (.slice (some ⟨g2, 0, none⟩) (n + 1) c2) rfl
                have nq2 : g2 ≠ q := G2.out g2 at2
                refine ⟨rfl, g2, c2, bq3, (HeapRep.of_own own2 HCS.out).of_block (Below.heap_setCell w2 _ _ g2 nq2), ?_, (Below.heap_setCell w2 _ _ b nqb).trans (bb2.trans HB.out), (G3.out g2 at2).1, (G3.out g2 at2).2, ?_⟩
                · exact (MR.out.of_block ((gr2.block r (by have := MR.out.lt; simp; omega) NR.out).trans (Below.heap_alloc U _ r MR.out.lt))).of_block (Below.heap_setCell w2 _ _ r (Ne.symm nqr))
                · exact F3.trans ⟨gr2.os, gr2.tape, gr2.output, by have h := gr2.size; simp at h ⊢; omega, fun k hk h1 h2 h3 => (Below.heap_setCell w2 _ _ k h1).trans ((gr2.block k (Nat.lt_of_lt_of_le hk (by simp)) (fun h => h3 (HG.out k h.symm))).trans (Below.heap_alloc U _ k hk))⟩
              exact AllReadyH.nil
            exact AllReadyH.nil
          exact AllReadyH.nil
        refine reg_each (o := _) rfl (fun K hK => ?_) ?_
        · skip
          go_simp
          refine hK.out _ _ ?_ (fun hHeld2 => ?_)
          · exact ⟨by simp, Below.heap_alloc U _ b zb⟩
          clear hK K hHeld
          have hHeld := hHeld2
          clear hHeld2
          (try simp only [Act.put, List.setIfInBounds_toArray, List.set_cons_zero, List.set_cons_succ])
          refine wpAnyH_ready (rs := [4]) (by kernel_rfl) (by simp) ?_
          refine reg_each (o := _) rfl (fun K hK => ?_) ?_
          · skip
            go_simp
            refine hK.out _ _ ?_ (fun hHeld2 => ?_)
            · exact hHeld
            clear hK K hHeld
            have hHeld := hHeld2
            clear hHeld2
            (try simp only [Act.put, List.setIfInBounds_toArray, List.set_cons_zero, List.set_cons_succ])
            refine wpAnyH_ready (rs := [7]) (by kernel_rfl) (by simp) ?_
            refine reg_each (o := _) rfl (fun K hK => ?_) ?_
            · skip
              refine step_append_lies _ rfl (.tmp 52) (.tmp 54) 49 rfl 0 30 i0 (.agg #[.int .i64 0, .int .i64 0, .int .i64 0]) 3 24 Tryd.underlying49 hi0 hz0 hz1 hz2 rfl (by decide) (.slice A n cap) n xs rfl OWA.out ⟨U.heap.size, 0, none⟩ 1 1 (evV e).toList rfl rfl NEW.out (by simp [evV, Value.oneCell']) (by omega) (by simp only [maxLen]; omega) (by omega) (Nat.zero_le _) _ rfl ?_
              intro g2 c2 w2 own2 gr2 at2 lt2
              have bq2 : Blk w2 q 56 #[.int .i64 room, .slice A n cap, .map (some r)] := (gr2.block q (by simp; omega) (NQ.out)).trans HQA.out
              have c1 : w2.cell? ⟨q, 1, none⟩ = some (.slice A n cap) := by rw [bq2.cell]; rfl
              have z1 := bq2.frozen 1
              have bb2 : w2.heap[b]? = U.heap[b]? := (gr2.block b (by simp; omega) NB.out).trans (Below.heap_alloc U _ b zb)
              refine hK.out _ _ ?_ (fun hHeld2 => ?_)
              · exact ⟨Nat.le_trans (by simp) gr2.size, bb2⟩
              clear hK K hHeld
              have hHeld := hHeld2
              clear hHeld2
              (try simp only [Act.put, List.setIfInBounds_toArray, List.set_cons_zero, List.set_cons_succ])
              refine reg_take (i := 8) (oi := _) (v := ?_) rfl (by kernel_rfl) (by kernel_rfl) (by kernel_rfl) (fun _ _ _ h => h) (by rfl) ?_ (by assumption) ?_
              rotate_left
              · intro w hSw; (try dsimp only at hSw); replace x0 := (World.cell?_of_block hSw.2).trans x0; replace x1 := (World.cell?_of_block hSw.2).trans x1; replace x2 := (World.cell?_of_block hSw.2).trans x2; replace zq := Nat.lt_of_lt_of_le zq hSw.1; replace zb := Nat.lt_of_lt_of_le zb hSw.1; go_simp; try with_reducible rfl
              (try simp only [Act.put, List.setIfInBounds_toArray, List.set_cons_zero, List.set_cons_succ])
              refine reg_take (i := 9) (oi := _) (v := ?_) rfl (by kernel_rfl) (by kernel_rfl) (by kernel_rfl) (fun _ _ _ h => h) (by rfl) ?_ (by assumption) ?_
              rotate_left
              · intro w hSw; (try dsimp only at hSw); replace x0 := (World.cell?_of_block hSw.2).trans x0; replace x1 := (World.cell?_of_block hSw.2).trans x1; replace x2 := (World.cell?_of_block hSw.2).trans x2; replace zq := Nat.lt_of_lt_of_le zq hSw.1; replace zb := Nat.lt_of_lt_of_le zb hSw.1; go_simp; try with_reducible rfl
              (try simp only [Act.put, List.setIfInBounds_toArray, List.set_cons_zero, List.set_cons_succ])
              refine wpAnyH_ready (rs := [10]) (by kernel_rfl) (by simp) ?_
              refine reg_each (o := _) rfl (fun K hK => ?_) ?_
              · skip
                go_simp
                refine hK.out _ _ ?_ (fun hHeld2 => ?_)
                · exact ⟨by have h := gr2.size; simp at h ⊢; omega, (Below.heap_setCell w2 _ _ b nqb).trans bb2⟩
                clear hK K hHeld
                have hHeld := hHeld2
                clear hHeld2
                (try simp only [Act.put, List.setIfInBounds_toArray, List.set_cons_zero, List.set_cons_succ])
                refine wpAnyH_done (by kernel_rfl) ?_ _
                refine NoPanic.normal ?_
                go_wp2_with (fail)
                go_meet
                have bq3 := bq2.put 1 (.slice (some ⟨g2, 0, none⟩) (n + 1) c2) rfl
                have nq2 : g2 ≠ q := G2.out g2 at2
                refine ⟨rfl, g2, c2, bq3, (HeapRep.of_own own2 HCS.out).of_block (Below.heap_setCell w2 _ _ g2 nq2), ?_, (Below.heap_setCell w2 _ _ b nqb).trans (bb2.trans HB.out), (G3.out g2 at2).1, (G3.out g2 at2).2, ?_⟩
                · exact (MR.out.of_block ((gr2.block r (by have := MR.out.lt; simp; omega) NR.out).trans (Below.heap_alloc U _ r MR.out.lt))).of_block (Below.heap_setCell w2 _ _ r (Ne.symm nqr))
                · exact F3.trans ⟨gr2.os, gr2.tape, gr2.output, by have h := gr2.size; simp at h ⊢; omega, fun k hk h1 h2 h3 => (Below.heap_setCell w2 _ _ k h1).trans ((gr2.block k (Nat.lt_of_lt_of_le hk (by simp)) (fun h => h3 (HG.out k h.symm))).trans (Below.heap_alloc U _ k hk))⟩
              exact AllReadyH.nil
            exact AllReadyH.nil
          exact AllReadyH.nil
        exact AllReadyH.nil
      case rest =>
        obtain ⟨rfl, g2, c2, q3, hr3, mr3, bb3, hg2, hgb, F4⟩ := hcut
        have h3 : QRep wc q r g2 c2 room (n + 1) (fupd f n e) m := ⟨q3, hr3, mr3⟩
        have G4 : ∀ wx, QFr wc wx q r g2 → QFr w wx q r g := fun wx F => ⟨F.os.trans F4.os, F.tape.trans F4.tape, F.output.trans F4.output, Nat.le_trans F4.size F.size, fun k hk a b' c' => (F.block k (Nat.lt_of_lt_of_le hk F4.size) a b' (by omega)).trans (F4.block k hk a b' c')⟩
        have GG := Lib.hid G4
        have HG2 := Lib.hid (show g2 = g ∨ w.heap.size ≤ g2 by omega)
        have nb : b ≠ q ∧ b ≠ r ∧ b ≠ g2 := ⟨by omega, by omega, hgb⟩
        clear OWA NEW HQA c1a NQ NR NB G2 G3 HQ OW MR HB F3 q3 hr3 mr3 G4 hi0 hz0 hz1 hz2 c1 x0 x1 x2 zb zq F4 GN HG HCS
        generalize hV : wc = V at *
        clear hV
        have x0 : V.cell? ⟨b, 0, none⟩ = some (.int .i64 e.t) := by rw [bb3.cell]; rfl
        have x1 : V.cell? ⟨b, 1, none⟩ = some (.int .i64 e.k) := by rw [bb3.cell]; rfl
        have x2 : V.cell? ⟨b, 2, none⟩ = some (.int .i64 e.d) := by rw [bb3.cell]; rfl
        have zb := bb3.lt
        have PT := Lib.hid (put_walk q r g2 c2 (n + 1) n room (fupd f n e) m e V h3 (by omega))
        rw [fupd_twice] at PT
        have HB := Lib.hid bb3
        clear h3 bb3
        unfold evV at PT
        go_wp2_with (fail)
        refine PT.out.mono ?_
        rintro x w4 ⟨rfl, h4, F5⟩
        have hb4 : Blk w4 b 30 (evV e) := (F5.block b zb nb.1 nb.2.1 nb.2.2).trans HB.out
        clear PT HB x0 x1 x2 zb
        have zb4 := hb4.lt
        have UP := Lib.hid (up_walk q r g2 c2 (n + 1) n room (fupd f n e) _ w4 h4 HMO.out HEX.out (by omega) (by simp only [maxLen]; omega))
        rw [show fupd f n e n = e by unfold fupd; rw [if_pos rfl]] at UP
        have HX := Lib.hid hb4
        clear h4 hb4 HMO HEX
        go_wp2_with (fail)
        refine UP.out.mono ?_
        rintro x w5 ⟨rfl, ⟨f', m', j, h5, hm5, hd5, hj, hfj, hs5⟩, F6⟩
        have hx5 : Blk w5 b 30 (evV e) := (F6.block b zb4 nb.1 nb.2.1 nb.2.2).trans HX.out
        have F7 := F5.trans F6
        clear UP HX F5 F6 zb4
        have hmj := hm5.at_ j hj
        rw [hfj] at hmj
        have c2' : w5.cell? ⟨q, 2, none⟩ = some (.map (some r)) := by rw [h5.qb.cell]; rfl
        have x1 : w5.cell? ⟨b, 1, none⟩ = some (.int .i64 e.k) := by rw [hx5.cell]; rfl
        have x2 : w5.cell? ⟨b, 2, none⟩ = some (.int .i64 e.d) := by rw [hx5.cell]; rfl
        have zb := hx5.lt
        have zq := h5.qb.lt
        have hlk := run_lookF (h5.mr.of_block (w' := w5.drew) rfl) e.k e.d
        rw [hmj] at hlk
        unfold keyV at hlk
        have DN := Lib.hid (down_walk q r g2 c2 (n + 1) j room f' m' w5.drew (h5.below (below_drewN (Below.refl _ _) 1)) hm5 hd5 hj (by omega))
        have HS := Lib.hid hs5
        clear h5 hm5 hd5 hs5 hmj hfj hx5
        go_upto_region 12 with (fail)
        refine wp_region_still_tail 11 (by kernel_rfl) (by kernel_rfl) ?_
        simp only [List.take_succ_cons, List.take_zero, List.drop_succ_cons, List.drop_zero]
        iterate 11 still_step
        refine wpStill_nil ?_
        change wpList _ _ _ _ _ w5.drew
        clear hlk c2' x1 x2 zb zq
        go_wp2_with (fail)
        refine DN.out.mono ?_
        rintro x w6 ⟨rfl, ⟨f6, m6, h6, hm6, ho6, hs6⟩, F8⟩
        have F9 := GG.out _ ((F7.trans (QFr.of_below (below_drewN (Below.refl _ _) 1))).trans F8)
        go_wp2
        go_ret
        exact ⟨rfl, ⟨g2, c2, f6, m6, h6, hm6, ho6, HS.out.trans hs6, HG2.out⟩, F9⟩
end Go.Proofs.YtfbbkeekpkbjhaaDoor
