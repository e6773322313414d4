/- slices.SortFunc of events, by due. -/
import Derived.Test.YtfbbkeekpkbjhaaDoorP4
import Derived.Test.YtfbbkeekpkbjhaaDoorSortLay
namespace Go.Proofs.YtfbbkeekpkbjhaaDoor
open Go.RowKit
open Go.Shelf Go.Lib Go.Sort
def encE (e : Ev) : List Value := [.int .i64 e.t, .int .i64 e.k, .int .i64 e.d]
set_option maxRecDepth 100000 in
set_option maxHeartbeats 400000 in
theorem due_lays (a b : Ev) (w : World) : Calls Tryd.prog 28 #[.agg #[.int .i64 a.t, .int .i64 a.k, .int .i64 a.d], .agg #[.int .i64 b.t, .int .i64 b.k, .int .i64 b.d]] w fun e w' => e = .returned (.int .i64 (dueF a b)) ∧ ∃ q os', w' = grow (w.drewN q) os' := by
  have C0 := Lib.hid (fun w => cmp_walk a.t b.t w)
  have C1 := Lib.hid (fun w => cmp_walk a.k b.k w)
  have C2 := Lib.hid (fun w => cmp_walk a.d b.d w)
  have hB := (Blk.new w 30 (evV a)).alloc (.cells (evV b) 30)
  have hB2 := Blk.new1 w (.cells (evV a) 30) 30 (evV b)
  have HG := Lib.hid (show ∀ C : Obj, ∃ q os', (((w.alloc (.cells (evV a) 30)).alloc (.cells (evV b) 30)).alloc C).drew = grow (w.drewN q) os' from fun C => ⟨1, #[.cells (evV a) 30, .cells (evV b) 30, C], by rw [alloc_eq_grow, alloc_eq_grow, alloc_eq_grow, grow_grow, grow_grow]; rfl⟩)
  rw [show dueF a b = orF (cmpI a.t b.t) (cmpI a.k b.k) (cmpI a.d b.d) from rfl]
  generalize cmpI a.t b.t = x at *
  generalize cmpI a.k b.k = y at *
  generalize cmpI a.d b.d = z at *
  unfold evV at *
  go_enter Tryd.func28, Tryd.ntmps28
  go_upto_region 1 with (fail)
  generalize hW : (w.alloc (Obj.cells #[Value.int IntKind.i64 a.t, Value.int IntKind.i64 a.k, Value.int IntKind.i64 a.d] 30)).alloc (Obj.cells #[Value.int IntKind.i64 b.t, Value.int IntKind.i64 b.k, Value.int IntKind.i64 b.d] 30) = W at *
  generalize hg : w.heap.size = g at hB hB2 ⊢
  have z0 := hB.lt
  have z1 := hB2.lt
  have c0 : W.cell? ⟨g, 0, none⟩ = some (.int .i64 a.t) := by rw [hB.cell]; rfl
  have c1 : W.cell? ⟨g, 1, none⟩ = some (.int .i64 a.k) := by rw [hB.cell]; rfl
  have c2 : W.cell? ⟨g, 2, none⟩ = some (.int .i64 a.d) := by rw [hB.cell]; rfl
  have d0 : W.cell? ⟨g + 1, 0, none⟩ = some (.int .i64 b.t) := by rw [hB2.cell]; rfl
  have d1 : W.cell? ⟨g + 1, 1, none⟩ = some (.int .i64 b.k) := by rw [hB2.cell]; rfl
  have d2 : W.cell? ⟨g + 1, 2, none⟩ = some (.int .i64 b.d) := by rw [hB2.cell]; rfl
  clear hB hB2 hW
  refine wp_region_still_tail 15 (by kernel_rfl) (by kernel_rfl) ?_
  simp only [List.take_succ_cons, List.take_zero, List.drop_succ_cons, List.drop_zero]
  iterate 4 still_step
  still_call (C0.out _)
  iterate 4 still_step
  still_call (C1.out _)
  iterate 4 still_step
  still_call (C2.out _)
  refine wpStill_nil ?_
  change wpList _ _ _ _ _ W.drew
  clear c0 c1 c2 d0 d1 d2 z0 z1 C0 C1 C2
  go_wp2_with (fail)
  refine (or_walk W.heap.size x y z _ (show Blk ((W.alloc _).drew) W.heap.size 3 _ from Blk.new W 3 _)).mono ?_
  rintro e w3 ⟨rfl, rfl⟩
  go_wp2
  go_ret
  exact ⟨rfl, HG.out _⟩
instance : Inhabited Ev := ⟨⟨0, 0, 0⟩⟩
theorem ltOf_due (x y : Ev) : ltOf dueF x y = decide (ltE x y) := by
  unfold ltOf
  exact decide_eq_decide.2 (due_neg x y)
theorem swo_due : SWO (ltOf dueF) where
  irrefl x := by rw [ltOf_due]; exact decide_eq_false (fun h => ltE_asymm h h)
  trans x y z h1 h2 := by
    rw [ltOf_due] at *
    exact decide_eq_true (ltE_trans (of_decide_eq_true h1) (of_decide_eq_true h2))
  ntrans x y z h1 h2 := by
    rw [ltOf_due] at *
    have a := of_decide_eq_false h1
    have b := of_decide_eq_false h2
    refine decide_eq_false (fun h => ?_)
    unfold ltE at *; omega
theorem isAgg31 (w : World) : (isAgg 30).run Tryd.prog w = .ok true w := by kernel_rfl
theorem sizeOf31 (w : World) : (Go.sizeOf 30).run Tryd.prog w = .ok 3 w := by kernel_rfl
/-- slices.SortFunc of events by due: a permutation, in order. -/
theorem sort_ev (blk cap : Nat) (d : Array Ev) (w : World) (hH : HoldsK encE 3 w blk 0 d) (hblk : blk < w.heap.size) (hsz : d.size ≤ 65536) :
    Calls Tryd.prog 35 #[.slice (some ⟨blk, 0, none⟩) d.size cap, .func (.func 28) #[] #[]] w fun e w' => e = .returned (.tuple #[]) ∧ ∃ d' n os, PermIn 0 d.size d d' ∧ SortedIn (ltOf dueF) 0 d.size d' ∧ w' = sortWorldK encE 3 w blk 0 n d' os := by
  have eg : ∀ args w, (callFunc 28 args).run Tryd.prog w = .ok (.enter 28 args) w := enters_of Tryd.func28 (by kernel_rfl) rfl
  exact AnyQ.slices_SortFunc Tryd.sortEv 3 isAgg31 sizeOf31 encE (fun _ => rfl) (fun x v hv => by simp [encE] at hv; rcases hv with rfl | rfl | rfl <;> rfl) dueF swo_due 28 #[] blk 0 cap d w eg (fun _ _ _ _ x y => due_lays x y _) hH hblk (by omega)
end Go.Proofs.YtfbbkeekpkbjhaaDoor
