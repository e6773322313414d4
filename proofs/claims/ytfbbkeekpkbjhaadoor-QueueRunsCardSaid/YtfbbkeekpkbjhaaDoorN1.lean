/- A nil queue. -/
import Derived.Test.YtfbbkeekpkbjhaaDoorP4
namespace Go.Proofs.YtfbbkeekpkbjhaaDoor
open Go.RowKit
def eN (c : Int) : Value := .iface 53 (.int .i64 c)
theorem len_nil (w : World) : Calls Tryd.prog 9 #[.pointer none] w fun x w' => x = .returned (.int .i64 0) ∧ w' = w := by
  go_enter Tryd.func9, Tryd.ntmps9
  go_wp2
  go_ret
  exact ⟨rfl, rfl⟩
theorem find_nil (a b : Int) (w : World) : Calls Tryd.prog 10 #[.pointer none, .int .i64 a, .int .i64 b] w fun x w' => x = .returned (.tuple #[.int .i64 0, .bool false]) ∧ w' = w := by
  go_enter Tryd.func10, Tryd.ntmps10
  go_wp2
  go_ret2
  exact ⟨rfl, rfl⟩
theorem drop_nil (a b : Int) (w : World) : Calls Tryd.prog 11 #[.pointer none, .int .i64 a, .int .i64 b] w fun x w' => x = .returned (.bool false) ∧ w' = w := by
  go_enter Tryd.func11, Tryd.ntmps11
  go_wp2
  go_ret
  exact ⟨rfl, rfl⟩
theorem list_nil (w : World) : Calls Tryd.prog 19 #[.pointer none] w fun x w' => x = .returned (.slice none 0 0) ∧ w' = w := by
  go_enter Tryd.func19, Tryd.ntmps19
  go_wp2
  go_ret
  exact ⟨rfl, rfl⟩
set_option maxRecDepth 100000 in
theorem set_nil (e : Ev) (w : World) : Calls Tryd.prog 7 #[.pointer none, .agg (evV e)] w fun x w' => x = .returned (eN 1) ∧ Below w.heap.size w w' := by
  have B1 := below_al (Below.refl w.heap.size w) (.cells (evV e) 30)
  go_enter Tryd.func7, Tryd.ntmps7
  go_upto_region 1 with (fail)
  generalize w.alloc (Obj.cells (evV e) 30) = W at *
  go_wp2
  go_ret
  exact ⟨rfl, B1⟩
set_option maxRecDepth 100000 in
theorem first_nil (w : World) : Calls Tryd.prog 17 #[.pointer none] w fun x w' => x = .returned (.tuple #[.agg z31, .bool false]) ∧ Below w.heap.size w w' := by
  have B1 := below_al (Below.refl w.heap.size w) (.cells z31 30)
  have HB := Lib.hid (Blk.new w 30 z31)
  unfold z31 at *
  go_enter Tryd.func17, Tryd.ntmps17
  go_upto_region 1 with (fail)
  generalize w.alloc (Obj.cells #[Value.int IntKind.i64 0, Value.int IntKind.i64 0, Value.int IntKind.i64 0] 30) = W at *
  go_wp2_with (fail)
  refine (len_nil _).mono ?_
  rintro x w2 ⟨rfl, rfl⟩
  generalize hg2 : w.heap.size = p at *
  go_wp2_with (first | refine wpList_store_row rfl 30 _ _ rfl p #[.int .i64 0, .int .i64 0, .int .i64 0] rfl rfl 30 _ HB.out (by kernel_rfl) rfl (by kernel_rfl) ?_)
  have k6 : Blk (w2.setRow p #[.int .i64 0, .int .i64 0, .int .i64 0]) p 30 #[.int .i64 0, .int .i64 0, .int .i64 0] := setRow_heap _ _ _ _ _ _ HB.out
  refine bodyPost_ret (v := .tuple #[.agg #[.int .i64 0, .int .i64 0, .int .i64 0], .bool false]) (res_cell_tmp (p := 2) (u := 3) rfl _ _ p 30 _ _ rfl k6 Tryd.underlying30 rfl (by kernel_rfl)) rfl ⟨rfl, ?_⟩
  rw [hg2]
  exact below_setRow B1 (by omega) _
set_option maxRecDepth 100000 in
theorem pop_nil (w : World) : Calls Tryd.prog 16 #[.pointer none] w fun x w' => x = .returned (.tuple #[.agg z31, .bool false]) ∧ Below w.heap.size w w' := by
  have B1 := below_al (Below.refl w.heap.size w) (.cells z31 30)
  have HB := Lib.hid (Blk.new w 30 z31)
  unfold z31 at *
  go_enter Tryd.func16, Tryd.ntmps16
  go_upto_region 1 with (fail)
  generalize w.alloc (Obj.cells #[Value.int IntKind.i64 0, Value.int IntKind.i64 0, Value.int IntKind.i64 0] 30) = W at *
  go_wp2_with (fail)
  refine (len_nil _).mono ?_
  rintro x w2 ⟨rfl, rfl⟩
  generalize hg2 : w.heap.size = p at *
  go_wp2_with (first | refine wpList_store_row rfl 30 _ _ rfl p #[.int .i64 0, .int .i64 0, .int .i64 0] rfl rfl 30 _ HB.out (by kernel_rfl) rfl (by kernel_rfl) ?_)
  have k6 : Blk (w2.setRow p #[.int .i64 0, .int .i64 0, .int .i64 0]) p 30 #[.int .i64 0, .int .i64 0, .int .i64 0] := setRow_heap _ _ _ _ _ _ HB.out
  refine bodyPost_ret (v := .tuple #[.agg #[.int .i64 0, .int .i64 0, .int .i64 0], .bool false]) (res_cell_tmp (p := 2) (u := 3) rfl _ _ p 30 _ _ rfl k6 Tryd.underlying30 rfl (by kernel_rfl)) rfl ⟨rfl, ?_⟩
  rw [hg2]
  exact below_setRow B1 (by omega) _
theorem new_bad (n : Int) (w : World) (h : n < 1 ∨ 65536 < n) : Calls Tryd.prog 6 #[.int .i64 n] w fun x w' => x = .returned (.tuple #[.pointer none, eN 1]) ∧ w' = w := by
  rcases h with h | h
  · have a1 : decide (n < 1) = true := decide_eq_true h
    go_enter Tryd.func6, Tryd.ntmps6
    go_wp2
    go_ret2
    exact ⟨rfl, rfl⟩
  · have a1 : decide (n < 1) = false := decide_eq_false (by omega)
    have a2 : decide (65536 < n) = true := decide_eq_true h
    go_enter Tryd.func6, Tryd.ntmps6
    go_wp2
    go_ret2
    exact ⟨rfl, rfl⟩
end Go.Proofs.YtfbbkeekpkbjhaaDoor
