/- due, walked. -/
import Derived.Test.YtfbbkeekpkbjhaaDoorW1
namespace Go.Proofs.YtfbbkeekpkbjhaaDoor
open Go.RowKit
set_option maxRecDepth 100000 in
set_option maxHeartbeats 400000 in
theorem due_walk (a b : Ev) (w : World) : Calls Tryd.prog 28 #[.agg (evV a), .agg (evV b)] w fun e w' => e = .returned (.int .i64 (dueF a b)) ∧ Below w.heap.size w w' := by
  have C0 := Lib.hid (fun w => cmp_walk a.t b.t w)
  have C1 := Lib.hid (fun w => cmp_walk a.k b.k w)
  have C2 := Lib.hid (fun w => cmp_walk a.d b.d w)
  have hB := (Blk.new w 30 (evV a)).alloc (.cells (evV b) 30)
  have hB2 := Blk.new1 w (.cells (evV a) 30) 30 (evV b)
  have B0 := below_al (below_al (Below.refl w.heap.size w) (.cells (evV a) 30)) (.cells (evV b) 30)
  rw [show dueF a b = orF (cmpI a.t b.t) (cmpI a.k b.k) (cmpI a.d b.d) from rfl]
  generalize cmpI a.t b.t = x at *
  generalize cmpI a.k b.k = y at *
  generalize cmpI a.d b.d = z at *
  go_enter Tryd.func28, Tryd.ntmps28
  go_upto_region 1 with (fail)
  generalize hW : (w.alloc (Obj.cells (evV a) 30)).alloc (Obj.cells (evV b) 30) = W at *
  generalize hg : w.heap.size = g at hB hB2 ⊢
  have z0 := hB.lt
  have z1 := hB2.lt
  have c0 : W.cell? ⟨g, 0, none⟩ = some (.int .i64 a.t) := by rw [hB.cell]; rfl
  have c1 : W.cell? ⟨g, 1, none⟩ = some (.int .i64 a.k) := by rw [hB.cell]; rfl
  have c2 : W.cell? ⟨g, 2, none⟩ = some (.int .i64 a.d) := by rw [hB.cell]; rfl
  have d0 : W.cell? ⟨g + 1, 0, none⟩ = some (.int .i64 b.t) := by rw [hB2.cell]; rfl
  have d1 : W.cell? ⟨g + 1, 1, none⟩ = some (.int .i64 b.k) := by rw [hB2.cell]; rfl
  have d2 : W.cell? ⟨g + 1, 2, none⟩ = some (.int .i64 b.d) := by rw [hB2.cell]; rfl
  clear hB hB2 hW
  refine wp_region_still_tail 15 (by kernel_rfl) (by kernel_rfl) ?_
  simp only [List.take_succ_cons, List.take_zero, List.drop_succ_cons, List.drop_zero]
  iterate 4 still_step
  still_call (C0.out _)
  iterate 4 still_step
  still_call (C1.out _)
  iterate 4 still_step
  still_call (C2.out _)
  refine wpStill_nil ?_
  change wpList _ _ _ _ _ W.drew
  have B1 := below_drewN B0 1
  change Below w.heap.size w W.drew at B1
  clear c0 c1 c2 d0 d1 d2 z0 z1 B0 C0 C1 C2
  generalize W.drew = W2 at *
  go_wp2_with (fail)
  refine (or_walk W2.heap.size x y z _ (Blk.new W2 3 _)).mono ?_
  rintro e w3 ⟨rfl, rfl⟩
  have B2 := below_al B1 (.cells #[.int .i64 x, .int .i64 y, .int .i64 z] 3)
  go_wp2
  go_ret
  exact ⟨rfl, B2⟩
end Go.Proofs.YtfbbkeekpkbjhaaDoor
