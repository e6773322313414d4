/- The law QueueNew, walked. -/
import Derived.Test.YtfbbkeekpkbjhaaDoorN1
import Derived.Test.YtfbbkeekpkbjhaaDoorNum
namespace Go.Proofs.YtfbbkeekpkbjhaaDoor
open Go.RowKit
set_option maxRecDepth 100000 in
set_option maxHeartbeats 1000000 in
theorem new_walk_law (n : Int) (w : World) (hg : ErrType w) : Calls Tryd.prog 5 #[.int .i64 n] w fun x w' => x = .returned (.bool true) ∧ Below w.heap.size w w' := by
  have HG := Lib.hid hg
  clear hg
  go_enter Tryd.func5, Tryd.ntmps5
  go_wp2_with (fail)
  refine (first_nil _).mono ?_
  rintro x w1 ⟨rfl, B1⟩
  unfold z31
  go_wp2_with (fail)
  refine (pop_nil _).mono ?_
  rintro x w2 ⟨rfl, B2⟩
  have B3 := below_trans (below_al B1 (.cells #[.int .i64 0, .int .i64 0, .int .i64 0] 30)) B2
  unfold z31
  clear B1 B2
  go_upto_region 4 with (fail)
  have B4 := below_al B3 (.cells #[.int .i64 0, .int .i64 0, .int .i64 0] 30)
  clear B3
  generalize w2.alloc (Obj.cells #[Value.int IntKind.i64 0, Value.int IntKind.i64 0, Value.int IntKind.i64 0] 30) = W4 at *
  go_wp2_with (fail)
  refine (find_nil _ _ _).mono ?_
  rintro x w5 ⟨rfl, rfl⟩
  go_wp2_with (fail)
  refine (set_nil ⟨0, 0, 0⟩ _).mono ?_
  rintro x w6 ⟨rfl, B6⟩
  have B7 := below_trans B4 B6
  clear B4 B6
  unfold eN
  go_wp2_with (fail)
  refine (num_hit 1 _ (HG.out.below B7)).mono ?_
  rintro x w7 ⟨rfl, B8⟩
  have B9 := below_trans B7 B8
  clear B7 B8
  go_wp2_with (fail)
  refine (drop_nil _ _ _).mono ?_
  rintro x w8 ⟨rfl, rfl⟩
  go_wp2_with (fail)
  refine (len_nil _).mono ?_
  rintro x w9 ⟨rfl, rfl⟩
  go_wp2_with (fail)
  refine (list_nil _).mono ?_
  rintro x w10 ⟨rfl, rfl⟩
  by_cases hn : n < 1 ∨ 65536 < n
  · go_wp2_with (fail)
    refine (new_bad n _ hn).mono ?_
    rintro x w11 ⟨rfl, rfl⟩
    unfold eN
    rcases hn with h | h
    · have a1 : decide (n < 1) = true := decide_eq_true h
      go_wp2_with (fail)
      refine (num_hit 1 _ (HG.out.below B9)).mono ?_
      rintro x w12 ⟨rfl, B10⟩
      have B11 := below_trans B9 B10
      go_wp2_with (fail)
      refine (sure_walk _).mono ?_
      rintro x w13 ⟨rfl, B12⟩
      go_wp2
      go_ret
      exact ⟨rfl, below_trans B11 B12⟩
    · have a1 : decide (n < 1) = false := decide_eq_false (by omega)
      have a2 : decide (65536 < n) = true := decide_eq_true h
      go_wp2_with (fail)
      refine (num_hit 1 _ (HG.out.below B9)).mono ?_
      rintro x w12 ⟨rfl, B10⟩
      have B11 := below_trans B9 B10
      go_wp2_with (fail)
      refine (sure_walk _).mono ?_
      rintro x w13 ⟨rfl, B12⟩
      go_wp2
      go_ret
      exact ⟨rfl, below_trans B11 B12⟩
  · obtain ⟨m, rfl⟩ := Int.eq_ofNat_of_zero_le (show 0 ≤ n by omega)
    have a1 : decide ((m : Int) < 1) = false := decide_eq_false (by omega)
    have a2 : decide (65536 < (m : Int)) = false := decide_eq_false (by omega)
    go_wp2_with (fail)
    refine (new_qs m _ (by omega) (by omega)).mono ?_
    rintro x w11 ⟨rfl, h11, B10⟩
    have B11 := below_trans B9 B10
    have LN := Lib.hid (len_walk _ _ _ _ 0 _ w11 h11.qb)
    clear h11 B10
    go_wp2_with (fail)
    refine LN.out.mono ?_
    rintro x w12 ⟨rfl, rfl⟩
    go_wp2_with (fail)
    refine (sure_walk _).mono ?_
    rintro x w13 ⟨rfl, B12⟩
    go_wp2
    go_ret
    exact ⟨rfl, below_trans B11 B12⟩
end Go.Proofs.YtfbbkeekpkbjhaaDoor
