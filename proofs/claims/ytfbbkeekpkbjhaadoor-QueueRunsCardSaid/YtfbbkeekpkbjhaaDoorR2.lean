/- put, walked. -/
import Derived.Test.YtfbbkeekpkbjhaaDoorR1
namespace Go.Proofs.YtfbbkeekpkbjhaaDoor
open Go.RowKit
set_option maxRecDepth 100000 in
set_option maxHeartbeats 1000000 in
theorem put_walk (q r g cap n i : Nat) (room : Int) (f : Nat → Ev) (m : Int → Int → Option Nat) (e : Ev) (w : World) (h : QRep w q r g cap room n f m) (hi : i < n) :
    Calls Tryd.prog 20 #[.pointer (some ⟨q, 0, none⟩), .int .i64 i, .agg (evV e)] w fun x w' => x = .returned (.tuple #[]) ∧ QRep w' q r g cap room n (fupd f i e) (mupd m e.k e.d i) ∧ QFr w w' q r g := by
  have h1 := h.below (below_al (Below.refl w.heap.size w) (.cells (evV e) 30))
  have F1 : QFr w (w.alloc (.cells (evV e) 30)) q r g := QFr.of_below (below_al (Below.refl w.heap.size w) (.cells (evV e) 30))
  have hbx := Blk.new w 30 (evV e)
  obtain ⟨ne1, ne2, ne3⟩ := h.ne
  have zq := h.qb.lt
  have zg := h.hr.lt
  have zr := h.mr.lt
  clear h
  go_enter Tryd.func20, Tryd.ntmps20
  go_upto_region 1 with (fail)
  generalize hW : w.alloc (Obj.cells (evV e) 30) = W at *
  generalize hb : w.heap.size = b at hbx zq zg zr ⊢
  have zb := hbx.lt
  have zq' := h1.qb.lt
  have zg' := h1.hr.lt
  have c1 : W.cell? ⟨q, 1, none⟩ = some (.slice (some ⟨g, 0, none⟩) n cap) := by rw [h1.qb.cell]; rfl
  have c0 : W.cell? ⟨q, 2, none⟩ = some (.map (some r)) := by rw [h1.qb.cell]; rfl
  have x0 : W.cell? ⟨b, 0, none⟩ = some (.int .i64 e.t) := by rw [hbx.cell]; rfl
  have x1 : W.cell? ⟨b, 1, none⟩ = some (.int .i64 e.k) := by rw [hbx.cell]; rfl
  have x2 : W.cell? ⟨b, 2, none⟩ = some (.int .i64 e.d) := by rw [hbx.cell]; rfl
  obtain ⟨y0, y1, y2⟩ := h1.hr.cells hi
  have z0 := h1.hr.frozen (i * 3)
  have z1 := h1.hr.frozen (i * 3 + 1)
  have z2 := h1.hr.frozen (i * 3 + 2)
  have H1 := Lib.hid h1
  have HX := Lib.hid hbx
  have i0 : (0 : Int) ≤ i := by omega
  have i1 : (i : Int) < n := by omega
  clear h1 hbx hW
  refine wp_region_still_tail 7 (by kernel_rfl) (by kernel_rfl) ?_
  simp only [List.take_succ_cons, List.take_zero, List.drop_succ_cons, List.drop_zero]
  iterate 7 still_step
  refine wpStill_nil ?_
  change wpList _ _ _ _ _ W.drew
  go_upto_region 2 with (fail)
  have hs := (H1.out.hr.put hi e).of_block (w' := (((W.setCell ⟨g, i * 3, none⟩ (.int .i64 e.t)).setCell ⟨g, i * 3 + 1, none⟩ (.int .i64 e.k)).setCell ⟨g, i * 3 + 2, none⟩ (.int .i64 e.d)).drew) rfl
  have e1 : ∀ k, k ≠ g → ((((W.setCell ⟨g, i * 3, none⟩ (.int .i64 e.t)).setCell ⟨g, i * 3 + 1, none⟩ (.int .i64 e.k)).setCell ⟨g, i * 3 + 2, none⟩ (.int .i64 e.d)).drew).heap[k]? = W.heap[k]? := fun k hk => by
    show (((W.setCell ⟨g, i * 3, none⟩ (.int .i64 e.t)).setCell ⟨g, i * 3 + 1, none⟩ (.int .i64 e.k)).setCell ⟨g, i * 3 + 2, none⟩ (.int .i64 e.d)).heap[k]? = W.heap[k]?
    rw [Below.heap_setCell _ _ _ _ hk, Below.heap_setCell _ _ _ _ hk, Below.heap_setCell _ _ _ _ hk]
  have F2 : QFr w ((((W.setCell ⟨g, i * 3, none⟩ (.int .i64 e.t)).setCell ⟨g, i * 3 + 1, none⟩ (.int .i64 e.k)).setCell ⟨g, i * 3 + 2, none⟩ (.int .i64 e.d)).drew) q r g :=
    F1.trans ⟨rfl, rfl, rfl, by simp, fun k _ _ _ hk => e1 k hk⟩
  have h2 : QRep ((((W.setCell ⟨g, i * 3, none⟩ (.int .i64 e.t)).setCell ⟨g, i * 3 + 1, none⟩ (.int .i64 e.k)).setCell ⟨g, i * 3 + 2, none⟩ (.int .i64 e.d)).drew) q r g cap room n (fupd f i e) m :=
    ⟨(e1 q ne1).trans H1.out.qb, hs, H1.out.mr.of_block (e1 r (Ne.symm ne3))⟩
  have hx : Blk ((((W.setCell ⟨g, i * 3, none⟩ (.int .i64 e.t)).setCell ⟨g, i * 3 + 1, none⟩ (.int .i64 e.k)).setCell ⟨g, i * 3 + 2, none⟩ (.int .i64 e.d)).drew) b 30 (evV e) := (e1 b (by omega)).trans HX.out
  clear c0 c1 x0 x1 x2 y0 y1 y2 z0 z1 z2 zb zq' zg' hs e1 H1 HX F1
  generalize (((W.setCell ⟨g, i * 3, none⟩ (.int .i64 e.t)).setCell ⟨g, i * 3 + 1, none⟩ (.int .i64 e.k)).setCell ⟨g, i * 3 + 2, none⟩ (.int .i64 e.d)).drew = W1 at *
  have c0 : W1.cell? ⟨q, 2, none⟩ = some (.map (some r)) := by rw [h2.qb.cell]; rfl
  have x1 : W1.cell? ⟨b, 1, none⟩ = some (.int .i64 e.k) := by rw [hx.cell]; rfl
  have x2 : W1.cell? ⟨b, 2, none⟩ = some (.int .i64 e.d) := by rw [hx.cell]; rfl
  have zb := hx.lt
  have zq' := h2.qb.lt
  obtain ⟨o, hup, hmr⟩ := run_upd (h2.mr.of_block (w' := W1.drew) rfl) e.k e.d i
  unfold keyV at hup
  have HQ := Lib.hid h2
  have HM := Lib.hid hmr
  clear h2 hx hmr
  refine wp_region_still_tail 10 (by kernel_rfl) (by kernel_rfl) ?_
  simp only [List.take_succ_cons, List.take_zero, List.drop_succ_cons, List.drop_zero]
  iterate 10 still_step
  refine wpStill_nil ?_
  change wpList _ _ _ _ _ W1.drew
  go_wp2
  have e2 : ∀ k, k ≠ r → (setObjW W1.drew r o).heap[k]? = W1.heap[k]? := fun k hk => by
    show (W1.heap.setIfInBounds r o)[k]? = W1.heap[k]?
    simp [Ne.symm hk]
  have F3 : QFr w (setObjW W1.drew r o) q r g := F2.trans ⟨rfl, rfl, rfl, by simp [setObjW], fun k _ _ hk _ => e2 k hk⟩
  have h3 : QRep (setObjW W1.drew r o) q r g cap room n (fupd f i e) (mupd m e.k e.d i) := ⟨(e2 q ne2).trans HQ.out.qb, HQ.out.hr.of_block (e2 g ne3), HM.out⟩
  exact bodyPost_end (results_none rfl _ _ _) rfl ⟨rfl, h3, F3⟩
end Go.Proofs.YtfbbkeekpkbjhaaDoor
