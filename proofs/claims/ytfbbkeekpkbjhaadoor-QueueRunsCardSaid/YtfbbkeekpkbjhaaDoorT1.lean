/- take, walked. -/
import Derived.Test.YtfbbkeekpkbjhaaDoorS2
namespace Go.Proofs.YtfbbkeekpkbjhaaDoor
open Go.RowKit
theorem Ord.less {n : Nat} {f : Nat → Ev} (h : Ord (n + 1) f) : Ord n f := fun c c0 cn => h c c0 (by omega)
theorem ExI.congr {n : Nat} {f g : Nat → Ev} {i : Nat} (e : ∀ j, j < n → f j = g j) (hi : i < n) (h : ExI n f i) : ExI n g i := by
  intro c c0 cn
  have hc := h c c0 cn
  rw [e c cn, e ((c - 1) / 2) (by omega)] at hc
  rw [e ((i - 1) / 2) (by omega)] at hc
  exact hc
theorem Ord.congr {n : Nat} {f g : Nat → Ev} (e : ∀ j, j < n → f j = g j) (h : Ord n f) : Ord n g := by
  intro c c0 cn
  have hc := h c c0 cn
  rwa [e c cn, e ((c - 1) / 2) (by omega)] at hc
theorem MapOk.pop {n : Nat} {f : Nat → Ev} {m : Int → Int → Option Nat} (h : MapOk (n + 1) f m) : MapOk n f (mdel m (f n).k (f n).d) := by
  refine ⟨fun i hi => ?_, fun a b v hv => ?_⟩
  · unfold mdel
    rw [if_neg (fun e => by have := h.inj (i := i) (j := n) (by omega) (by omega) e; omega)]
    exact h.at_ i (by omega)
  · unfold mdel at hv
    split at hv
    · cases hv
    · rename_i hk
      obtain ⟨h1, h2, h3⟩ := h.of_ a b v hv
      refine ⟨?_, h2, h3⟩
      rcases (by omega : v < n ∨ v = n) with h' | rfl
      · exact h'
      · exact absurd ⟨h2.symm, h3.symm⟩ hk
theorem mem_pop {n : Nat} {f : Nat → Ev} {m : Int → Int → Option Nat} (h : MapOk (n + 1) f m) (x : Ev) : Mem n f x ↔ Mem (n + 1) f x ∧ ¬ (x.k = (f n).k ∧ x.d = (f n).d) := by
  constructor
  · rintro ⟨j, hj, rfl⟩
    exact ⟨⟨j, by omega, rfl⟩, fun e => by have := h.inj (i := j) (j := n) (by omega) (by omega) e; omega⟩
  · rintro ⟨⟨j, hj, rfl⟩, hk⟩
    exact ⟨j, by rcases (by omega : j < n ∨ j = n) with h' | rfl; exact h'; exact absurd ⟨rfl, rfl⟩ hk, rfl⟩
theorem HeapRep.cap_le {w : World} {g cap n : Nat} {f : Nat → Ev} (h : HeapRep w g cap n f) : n ≤ cap := by
  obtain ⟨cur, hb, hs, hn, _⟩ := h
  exact hn
theorem HeapRep.less {w : World} {g cap n : Nat} {f : Nat → Ev} (h : HeapRep w g cap (n + 1) f) : HeapRep w g cap n f := by
  obtain ⟨cur, hb, hs, hn, hm, hc⟩ := h
  exact ⟨cur, hb, hs, by omega, hm, fun i hi => hc i (by omega)⟩
theorem QFr.fresh {w w1 : World} {q r g p : Nat} (h : QFr w w1 q r g) (hp : w.heap.size ≤ p) (cs : Array Value) : QFr w (w1.setRow p cs) q r g :=
  ⟨h.os, h.tape, h.output, by have := h.size; simp [World.setRow]; omega, fun k hk a b c => (setRow_other _ _ _ _ (by omega)).trans (h.block k hk a b c)⟩
theorem QRep.slots {w : World} {q r g cap : Nat} {room : Int} {n : Nat} {f : Nat → Ev} {m : Int → Int → Option Nat} (h : QRep w q r g cap room n f m) : q < w.heap.size ∧ w.cell? ⟨q, 1, none⟩ = some (.slice (some ⟨g, 0, none⟩) n cap) ∧ w.cell? ⟨q, 2, none⟩ = some (.map (some r)) :=
  ⟨h.qb.lt, by rw [h.qb.cell]; rfl, by rw [h.qb.cell]; rfl⟩
set_option linter.unusedSimpArgs false in
set_option linter.unusedVariables false in
set_option maxRecDepth 100000 in
set_option maxHeartbeats 1000000 in
theorem take_walk (q r g cap n i : Nat) (room : Int) (f : Nat → Ev) (m : Int → Int → Option Nat) (w : World) (h : QRep w q r g cap room (n + 1) f m) (hm : MapOk (n + 1) f m) (ho : Ord (n + 1) f) (hi : i < n + 1) (hn : n + 1 ≤ 65536) :
    Calls Tryd.prog 24 #[.pointer (some ⟨q, 0, none⟩), .int .i64 i] w fun x w' => x = .returned (.agg (evV (f i))) ∧ (∃ f' m', QRep w' q r g cap room n f' m' ∧ MapOk n f' m' ∧ Ord n f' ∧ Same n (swp f i n) f') ∧ QFr w w' q r g := by
  have HM := Lib.hid hm
  have HO := Lib.hid ho
  have NE := h.ne
  obtain ⟨zq, c1, c2⟩ := h.slots
  have zg := h.hr.lt
  have zr := h.mr.lt
  obtain ⟨y0, y1, y2⟩ := h.hr.cells hi
  have i0 : (0 : Int) ≤ i := by omega
  have i1 : (i : Int) < ((n + 1 : Nat) : Int) := by omega
  have H0 := Lib.hid h
  clear h hm ho
  go_enter Tryd.func24, Tryd.ntmps24
  go_upto_region 1 with (fail)
  have B1 := below_al (Below.refl w.heap.size w) (.cells #[Value.int IntKind.i64 0, Value.int IntKind.i64 0, Value.int IntKind.i64 0] 30)
  have y0' := bel_cell B1 y0
  have y1' := bel_cell B1 y1
  have y2' := bel_cell B1 y2
  have c1' := bel_cell B1 c1
  have zq' := Nat.lt_of_lt_of_le zq B1.size
  have zg' := Nat.lt_of_lt_of_le zg B1.size
  generalize hA : w.alloc (Obj.cells #[Value.int IntKind.i64 0, Value.int IntKind.i64 0, Value.int IntKind.i64 0] 30) = A at *
  have HA := Lib.hid hA
  have bA : A.heap[w.heap.size]? = some (.cells #[Value.int IntKind.i64 0, Value.int IntKind.i64 0, Value.int IntKind.i64 0] 30 (0, 0)) := by rw [← HA.out]; exact heap_alloc_new w _
  have zA : A.heap.size = w.heap.size + 1 := by rw [← HA.out]; simp
  clear hA y0 y1 y2 c1 c2
  go_upto_region 2 with (fail)
  have B2 : Below w.heap.size w (A.alloc (Obj.cells #[Value.int IntKind.i64 (f i).t, Value.int IntKind.i64 (f i).k, Value.int IntKind.i64 (f i).d] 30)) := below_al B1 _
  have b5 : Blk (A.alloc (Obj.cells #[Value.int IntKind.i64 (f i).t, Value.int IntKind.i64 (f i).k, Value.int IntKind.i64 (f i).d] 30)) (w.heap.size + 1) 30 (evV (f i)) := by rw [← zA]; exact Blk.new A 30 _
  have b4 : Blk (A.alloc (Obj.cells #[Value.int IntKind.i64 (f i).t, Value.int IntKind.i64 (f i).k, Value.int IntKind.i64 (f i).d] 30)) w.heap.size 30 #[Value.int IntKind.i64 0, Value.int IntKind.i64 0, Value.int IntKind.i64 0] := Blk.alloc bA _
  have h2 := H0.out.below B2
  have F2 : QFr w (A.alloc (Obj.cells #[Value.int IntKind.i64 (f i).t, Value.int IntKind.i64 (f i).k, Value.int IntKind.i64 (f i).d] 30)) q r g := QFr.of_below B2
  generalize A.alloc (Obj.cells #[Value.int IntKind.i64 (f i).t, Value.int IntKind.i64 (f i).k, Value.int IntKind.i64 (f i).d] 30) = W at *
  generalize hp : w.heap.size = p at *
  clear B1 B2 H0 HA bA zA y0' y1' y2' c1' zq' zg'
  obtain ⟨zq2, c1, c2⟩ := h2.slots
  have z5 := b5.lt
  have z4 := b4.lt
  have SW := Lib.hid (swap_walk q r g cap (n + 1) i n room f m W h2 hi (by omega))
  have w1 : IntKind.i64.wrap (((n + 1 : Nat) : Int) - 1) = n := by rw [IntKind.wrap_i64]; omega
  have H5 := Lib.hid b5
  have H4 := Lib.hid b4
  clear h2 b5 b4
  push_cast at w1
  go_upto_region 3 with (fail)
  go_wp2_with (fail)
  refine SW.out.mono ?_
  rintro x w3 ⟨rfl, h3, F3⟩
  have b5 : Blk w3 (p + 1) 30 (evV (f i)) := (F3.block _ z5 (by omega) (by omega) (by omega)).trans H5.out
  have b4 : Blk w3 p 30 #[Value.int IntKind.i64 0, Value.int IntKind.i64 0, Value.int IntKind.i64 0] := (F3.block _ z4 (by omega) (by omega) (by omega)).trans H4.out
  have F4 := F2.trans F3
  clear SW H5 H4 F2 F3 z5 z4 zq2 c1 c2 w1
  obtain ⟨zq2, c1, c2⟩ := h3.slots
  have z1 := h3.qb.frozen 1
  have n0 : (0 : Int) ≤ n := by omega
  have hcap : n ≤ cap := by have := h3.hr.cap_le; omega
  have n1 : (n : Int) ≤ cap := by omega
  have H3 := Lib.hid h3
  have H5 := Lib.hid b5
  have H4 := Lib.hid b4
  clear h3 b5 b4
  go_upto_region 5 with (fail)
  have q4 := H3.out.qb.put 1 (.slice (some ⟨g, 0, none⟩) n cap) rfl
  have hfar : ∀ k, k ≠ q → (w3.setCell ⟨q, 1, none⟩ (.slice (some ⟨g, 0, none⟩) n cap)).heap[k]? = w3.heap[k]? := fun k hk => Below.heap_setCell w3 _ _ k hk
  have h4 : QRep (w3.setCell ⟨q, 1, none⟩ (.slice (some ⟨g, 0, none⟩) n cap)) q r g cap room n (swp f i n) _ := ⟨q4, H3.out.hr.less.of_block (hfar g (Ne.symm NE.1)), H3.out.mr.of_block (hfar r (Ne.symm NE.2.1))⟩
  have F5 := F4.trans (w2 := w3.setCell ⟨q, 1, none⟩ (.slice (some ⟨g, 0, none⟩) n cap)) ⟨rfl, rfl, rfl, by simp, fun k _ h1 _ _ => hfar k h1⟩
  have b5 : Blk (w3.setCell ⟨q, 1, none⟩ (.slice (some ⟨g, 0, none⟩) n cap)) (p + 1) 30 (evV (f i)) := (hfar _ (by omega)).trans H5.out
  have b4 : Blk (w3.setCell ⟨q, 1, none⟩ (.slice (some ⟨g, 0, none⟩) n cap)) p 30 #[Value.int IntKind.i64 0, Value.int IntKind.i64 0, Value.int IntKind.i64 0] := (hfar _ (by omega)).trans H4.out
  clear H3 H5 H4 F4 zq2 c1 c2 z1 q4 hfar
  generalize w3.setCell ⟨q, 1, none⟩ (.slice (some ⟨g, 0, none⟩) n cap) = V at *
  have HM1 := Lib.hid (show MapOk (n + 1) (swp f i n) _ from HM.out.swap hi (Nat.lt_succ_self n))
  obtain ⟨zq2, c1, c2⟩ := h4.slots
  have x1 : V.cell? ⟨p + 1, 1, none⟩ = some (.int .i64 (f i).k) := by rw [b5.cell]; rfl
  have x2 : V.cell? ⟨p + 1, 2, none⟩ = some (.int .i64 (f i).d) := by rw [b5.cell]; rfl
  have z5 := b5.lt
  obtain ⟨o, hdel, hmr⟩ := run_del (h4.mr.of_block (w' := V.drew) rfl) (f i).k (f i).d
  unfold keyV at hdel
  have H4 := Lib.hid h4
  have H5 := Lib.hid b5
  have HP := Lib.hid b4
  have HD := Lib.hid hmr
  clear h4 b5 b4 hmr
  refine wp_region_still_tail 9 (by kernel_rfl) (by kernel_rfl) ?_
  simp only [List.take_succ_cons, List.take_zero, List.drop_succ_cons, List.drop_zero]
  iterate 9 still_step
  refine wpStill_nil ?_
  change wpList _ _ _ _ _ V.drew
  go_upto_region 6 with (fail)
  have hfar : ∀ k, k ≠ r → (setObjW V.drew r o).heap[k]? = V.heap[k]? := fun k hk => by
    show (V.heap.setIfInBounds r o)[k]? = V.heap[k]?
    simp [Ne.symm hk]
  have h5 : QRep (setObjW V.drew r o) q r g cap room n (swp f i n) _ := ⟨(hfar q NE.2.1).trans H4.out.qb, H4.out.hr.of_block (hfar g NE.2.2), HD.out⟩
  have F6 := F5.trans (w2 := setObjW V.drew r o) ⟨rfl, rfl, rfl, by simp [setObjW], fun k _ _ hk _ => hfar k hk⟩
  have b5 : Blk (setObjW V.drew r o) (p + 1) 30 (evV (f i)) := (hfar _ (by omega)).trans H5.out
  have b4 : Blk (setObjW V.drew r o) p 30 #[Value.int IntKind.i64 0, Value.int IntKind.i64 0, Value.int IntKind.i64 0] := (hfar _ (by omega)).trans HP.out
  clear H4 H5 HP HD F5 zq2 c1 c2 x1 x2 z5 hfar hdel
  generalize setObjW V.drew r o = U at *
  have hk1 : (swp f i n n) = f i := swp_k
  have HM2 := Lib.hid (show MapOk n (swp f i n) (mdel _ (f i).k (f i).d) from hk1 ▸ HM1.out.pop)
  have H5 := Lib.hid b5
  have HP := Lib.hid b4
  by_cases hin : i < n
  · have hin' : (i : Int) < n := by omega
    have hsw : ∀ j, j < n → fupd f i (f n) j = swp f i n j := fun j hj => by unfold swp; rw [show fupd (fupd f i (f n)) n (f i) j = fupd f i (f n) j by unfold fupd; rw [if_neg (by omega)]]
    have HEX := Lib.hid (ExI.congr hsw hin (ExI.of_ord HO.out.less hin (f n)))
    have hsi : swp f i n i = f n := swp_i
    obtain ⟨zq2, c1, c2⟩ := h5.slots
    have zg2 := h5.hr.lt
    obtain ⟨y0, y1, y2⟩ := h5.hr.cells hin
    rw [hsi] at y0 y1 y2
    have zU := h5.mr.lt
    have z5 := b5.lt
    have h6 := Lib.hid h5
    clear h5 b5 b4 hk1
    go_upto_region 8 with (fail)
    have B7 : Below U.heap.size U (U.alloc (Obj.cells #[Value.int IntKind.i64 (f n).t, Value.int IntKind.i64 (f n).k, Value.int IntKind.i64 (f n).d] 30)) := below_al (Below.refl _ _) _
    have b7 : Blk (U.alloc (Obj.cells #[Value.int IntKind.i64 (f n).t, Value.int IntKind.i64 (f n).k, Value.int IntKind.i64 (f n).d] 30)) U.heap.size 30 (evV (f n)) := Blk.new U 30 _
    have h7 := h6.out.below B7
    have k5 : Blk (U.alloc (Obj.cells #[Value.int IntKind.i64 (f n).t, Value.int IntKind.i64 (f n).k, Value.int IntKind.i64 (f n).d] 30)) (p + 1) 30 (evV (f i)) := H5.out.below B7
    have k4 : Blk (U.alloc (Obj.cells #[Value.int IntKind.i64 (f n).t, Value.int IntKind.i64 (f n).k, Value.int IntKind.i64 (f n).d] 30)) p 30 #[Value.int IntKind.i64 0, Value.int IntKind.i64 0, Value.int IntKind.i64 0] := HP.out.below B7
    have F7 := F6.trans (QFr.of_below B7)
    have zu : p + 1 < U.heap.size := z5
    clear zq2 c1 c2 zg2 y0 y1 y2 h6 B7 H5 HP F6
    generalize U.alloc (Obj.cells #[Value.int IntKind.i64 (f n).t, Value.int IntKind.i64 (f n).k, Value.int IntKind.i64 (f n).d] 30) = U2 at *
    generalize U.heap.size = p7 at *
    have UP := Lib.hid (up_walk q r g cap n i room (swp f i n) _ U2 h7 HM2.out HEX.out hin (by simp only [maxLen]; omega))
    rw [hsi] at UP
    have z5 := k5.lt
    have z7 := b7.lt
    have z4 := k4.lt
    have H5 := Lib.hid k5
    have HP := Lib.hid k4
    have H7 := Lib.hid b7
    have NP := Lib.hid (show p7 ≠ q ∧ p7 ≠ r ∧ p7 ≠ g by omega)
    clear h7 k5 k4 b7 HEX HM2 hsi
    go_wp2_with (fail)
    refine UP.out.mono ?_
    rintro x w8 ⟨rfl, ⟨f', m', j, h8, hm8, hd8, hj, hfj, hs8⟩, F8⟩
    have k5 : Blk w8 (p + 1) 30 (evV (f i)) := (F8.block _ z5 (by omega) (by omega) (by omega)).trans H5.out
    have k4 : Blk w8 p 30 #[Value.int IntKind.i64 0, Value.int IntKind.i64 0, Value.int IntKind.i64 0] := (F8.block _ z4 (by omega) (by omega) (by omega)).trans HP.out
    have k7 : Blk w8 p7 30 (evV (f n)) := (F8.block _ z7 NP.out.1 NP.out.2.1 NP.out.2.2).trans H7.out
    have F9 := F7.trans F8
    clear UP H5 HP H7 F7 F8 z5 z4 z7
    have hmj := hm8.at_ j hj
    rw [hfj] at hmj
    obtain ⟨zq2, c1, c2⟩ := h8.slots
    have x1 : w8.cell? ⟨p7, 1, none⟩ = some (.int .i64 (f n).k) := by rw [k7.cell]; rfl
    have x2 : w8.cell? ⟨p7, 2, none⟩ = some (.int .i64 (f n).d) := by rw [k7.cell]; rfl
    have zb := k7.lt
    have hlk := run_lookF (h8.mr.of_block (w' := w8.drew) rfl) (f n).k (f n).d
    rw [hmj] at hlk
    unfold keyV at hlk
    have DN := Lib.hid (down_walk q r g cap n j room f' m' w8.drew (h8.below (below_drewN (Below.refl _ _) 1)) hm8 hd8 hj (by omega))
    have HS := Lib.hid hs8
    have z5 := k5.lt
    have z4 := k4.lt
    have H5 := Lib.hid k5
    have HP := Lib.hid k4
    clear h8 hm8 hd8 hs8 hmj hfj k7 k5 k4
    go_upto_region 9 with (fail)
    refine wp_region_still_tail 11 (by kernel_rfl) (by kernel_rfl) ?_
    simp only [List.take_succ_cons, List.take_zero, List.drop_succ_cons, List.drop_zero]
    iterate 11 still_step
    refine wpStill_nil ?_
    change wpList _ _ _ _ _ w8.drew
    clear hlk c1 c2 x1 x2 zb zq2
    go_wp2_with (fail)
    refine DN.out.mono ?_
    rintro x w9 ⟨rfl, ⟨f9, m9, h9, hm9, ho9, hs9⟩, F10⟩
    have FR := (F9.trans (QFr.of_below (below_drewN (Below.refl _ _) 1))).trans F10
    have k5 : w9.heap[p + 1]? = some (.cells (evV (f i)) 30 (0, 0)) := (F10.block _ z5 (by omega) (by omega) (by omega)).trans H5.out
    have k4 : w9.heap[p]? = some (.cells #[Value.int IntKind.i64 0, Value.int IntKind.i64 0, Value.int IntKind.i64 0] 30 (0, 0)) := (F10.block _ z4 (by omega) (by omega) (by omega)).trans HP.out
    have K5 := Lib.hid k5
    have K4 := Lib.hid k4
    have H9 := Lib.hid h9
    clear h9 k5 k4 DN H5 HP F9 F10 z5 z4
    go_wp2_with (first | refine wpList_load_row rfl 30 _ rfl (p + 1) rfl 30 (evV (f i)) (0, 0) _ K5.out Tryd.underlying30 rfl (by kernel_rfl) ?_ | refine wpList_store_row rfl 30 _ _ rfl (p) (evV (f i)) rfl rfl 30 #[Value.int IntKind.i64 0, Value.int IntKind.i64 0, Value.int IntKind.i64 0] (K4.out) (by kernel_rfl) rfl (ev_one _) ?_)
    have k6 : Blk (w9.setRow p (evV (f i))) p 30 (evV (f i)) := setRow_heap _ _ #[Value.int IntKind.i64 0, Value.int IntKind.i64 0, Value.int IntKind.i64 0] _ _ _ K4.out
    have e2 : ∀ k, k ≠ p → (w9.setRow p (evV (f i))).heap[k]? = w9.heap[k]? := fun k hk => setRow_other _ _ _ _ hk
    have hq10 : QRep (w9.setRow p (evV (f i))) q r g cap room n f9 m9 := ⟨(e2 q (by omega)).trans H9.out.qb, H9.out.hr.of_block (e2 g (by omega)), H9.out.mr.of_block (e2 r (by omega))⟩
    refine bodyPost_ret (v := .agg (evV (f i))) (res_cell (p := 4) rfl _ _ p 30 _ _ rfl k6 Tryd.underlying30 rfl (by kernel_rfl)) rfl ⟨rfl, ⟨f9, m9, hq10, hm9, ho9, HS.out.trans hs9⟩, ?_⟩
    exact FR.fresh (by omega) _
  · obtain rfl : i = n := by omega
    have hin' : ¬ (i : Int) < i := by omega
    have zU := h5.mr.lt
    have k5 : U.heap[p + 1]? = some (.cells (evV (f i)) 30 (0, 0)) := b5
    have k4 : U.heap[p]? = some (.cells #[Value.int IntKind.i64 0, Value.int IntKind.i64 0, Value.int IntKind.i64 0] 30 (0, 0)) := b4
    have K5 := Lib.hid k5
    have K4 := Lib.hid k4
    have H9 := Lib.hid h5
    clear k5 k4 b5 b4 h5 H5 HP
    go_wp2_with (first | refine wpList_load_row rfl 30 _ rfl (p + 1) rfl 30 (evV (f i)) (0, 0) _ K5.out Tryd.underlying30 rfl (by kernel_rfl) ?_ | refine wpList_store_row rfl 30 _ _ rfl (p) (evV (f i)) rfl rfl 30 #[Value.int IntKind.i64 0, Value.int IntKind.i64 0, Value.int IntKind.i64 0] (K4.out) (by kernel_rfl) rfl (ev_one _) ?_)
    have k6 : Blk (U.setRow p (evV (f i))) p 30 (evV (f i)) := setRow_heap _ _ #[Value.int IntKind.i64 0, Value.int IntKind.i64 0, Value.int IntKind.i64 0] _ _ _ K4.out
    have e2 : ∀ k, k ≠ p → (U.setRow p (evV (f i))).heap[k]? = U.heap[k]? := fun k hk => setRow_other _ _ _ _ hk
    have hq10 : QRep (U.setRow p (evV (f i))) q r g cap room i (swp f i i) _ := ⟨(e2 q (by omega)).trans H9.out.qb, H9.out.hr.of_block (e2 g (by omega)), H9.out.mr.of_block (e2 r (by omega))⟩
    have ho10 : Ord i (swp f i i) := Ord.congr (fun j hj => (swp_o (by omega) (by omega)).symm) HO.out.less
    refine bodyPost_ret (v := .agg (evV (f i))) (res_cell (p := 4) rfl _ _ p 30 _ _ rfl k6 Tryd.underlying30 rfl (by kernel_rfl)) rfl ⟨rfl, ⟨_, _, hq10, HM2.out, ho10, Same.refl _ _⟩, ?_⟩
    exact F6.fresh (by omega) _
end Go.Proofs.YtfbbkeekpkbjhaaDoor
