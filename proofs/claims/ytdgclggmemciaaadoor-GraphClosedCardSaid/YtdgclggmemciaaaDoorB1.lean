/- Errors of the graph's functions. -/
import Derived.Test.YtdgclggmemciaaaDoorR3
import Derived.Test.YtdgclggmemciaaaDoorR4
import Derived.Test.YtdgclggmemciaaaDoorR5
import Derived.Test.YtdgclggmemciaaaDoorNum
namespace Go.Proofs.YtdgclggmemciaaaDoor
open Go.RowKit
set_option linter.unusedSimpArgs false
set_option linter.unusedVariables false
theorem reach_bad (n f : Int) (v : Value) (L : List (Int × Int)) (w : World) (hL : Pairs w v L) (hf : chkF n L ≠ 0) :
    Calls Tryd.prog 9 #[.int .i64 n, v, .int .i64 f] w fun x w' => x = .returned (.tuple #[.slice none 0 0, .iface 43 (.int .i64 (chkF n L))]) ∧ Below w.heap.size w w' := by
  have CK := Lib.hid (check_walk n v L w hL)
  rw [show errI (chkF n L) = .iface 43 (.int .i64 (chkF n L)) from if_neg hf] at CK
  clear hL
  generalize chkF n L = k at *
  go_enter Tryd.func9, Tryd.ntmps9
  go_wp2_with (fail)
  refine CK.out.mono ?_
  rintro x w1 ⟨rfl, B1⟩
  go_wp2
  go_ret2
  exact ⟨rfl, B1⟩
theorem reach_away (n f : Int) (v : Value) (L : List (Int × Int)) (w : World) (hL : Pairs w v L) (hc : chkF n L = 0) (hf : f < 0 ∨ n ≤ f) :
    Calls Tryd.prog 9 #[.int .i64 n, v, .int .i64 f] w fun x w' => x = .returned (.tuple #[.slice none 0 0, .iface 43 (.int .i64 5)]) ∧ Below w.heap.size w w' := by
  have CK := check_walk n v L w hL
  rw [hc, errI_zero] at CK
  have CK := Lib.hid CK
  clear hL hc
  by_cases h0 : f < 0
  · clear hf
    go_enter Tryd.func9, Tryd.ntmps9
    go_wp2_with (fail)
    refine CK.out.mono ?_
    rintro x w1 ⟨rfl, B1⟩
    go_wp2
    go_ret2
    exact ⟨rfl, B1⟩
  · have h1 : n ≤ f := hf.resolve_left h0
    clear hf
    go_enter Tryd.func9, Tryd.ntmps9
    go_wp2_with (fail)
    refine CK.out.mono ?_
    rintro x w1 ⟨rfl, B1⟩
    go_wp2
    go_ret2
    exact ⟨rfl, B1⟩
theorem order_bad (n : Int) (v : Value) (L : List (Int × Int)) (w : World) (hL : Pairs w v L) (hf : chkF n L ≠ 0) :
    Calls Tryd.prog 15 #[.int .i64 n, v] w fun x w' => x = .returned (.tuple #[.slice none 0 0, .iface 43 (.int .i64 (chkF n L))]) ∧ Below w.heap.size w w' := by
  have CK := Lib.hid (check_walk n v L w hL)
  rw [show errI (chkF n L) = .iface 43 (.int .i64 (chkF n L)) from if_neg hf] at CK
  clear hL
  generalize chkF n L = k at *
  go_enter Tryd.func15, Tryd.ntmps15
  go_wp2_with (fail)
  refine CK.out.mono ?_
  rintro x w1 ⟨rfl, B1⟩
  go_wp2
  go_ret2
  exact ⟨rfl, B1⟩
theorem depths_bad (n : Int) (v : Value) (L : List (Int × Int)) (w : World) (hL : Pairs w v L) (hf : chkF n L ≠ 0) :
    Calls Tryd.prog 16 #[.int .i64 n, v] w fun x w' => x = .returned (.tuple #[.slice none 0 0, .iface 43 (.int .i64 (chkF n L))]) ∧ Below w.heap.size w w' := by
  have CK := Lib.hid (check_walk n v L w hL)
  rw [show errI (chkF n L) = .iface 43 (.int .i64 (chkF n L)) from if_neg hf] at CK
  clear hL
  generalize chkF n L = k at *
  go_enter Tryd.func16, Tryd.ntmps16
  go_wp2_with (fail)
  refine CK.out.mono ?_
  rintro x w1 ⟨rfl, B1⟩
  go_wp2
  go_ret2
  exact ⟨rfl, B1⟩
theorem loop_bad' (n : Int) (v : Value) (L : List (Int × Int)) (w : World) (hL : Pairs w v L) (hf : chkF n L ≠ 0) :
    Calls Tryd.prog 14 #[.int .i64 n, v] w fun x w' => x = .returned (.tuple #[.int .i64 0, .bool false, .iface 43 (.int .i64 (chkF n L))]) ∧ Below w.heap.size w w' := by
  have := loop_bad n v L w hL hf
  rwa [show errI (chkF n L) = .iface 43 (.int .i64 (chkF n L)) from if_neg hf] at this
end Go.Proofs.YtdgclggmemciaaaDoor
