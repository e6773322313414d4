/- Nothing of a nil disk; errors' numbers. -/
import Derived.Test.YtgocmfjijoibkaaDoorNum
import Derived.Test.YtgocmfjijoibkaaDoorS1
namespace Go.Proofs.YtgocmfjijoibkaaDoor
open Go.RowKit
set_option linter.unusedSimpArgs false
set_option linter.unusedVariables false
theorem num_errI (e : Int) (w : World) (hg : ErrType w) : Calls Tryd.prog 10 #[errI e] w fun y w' => y = .returned (.int .i64 e) ∧ Below w.heap.size w w' := by
  unfold errI
  split
  · rename_i h; subst h; exact num_nil w
  · exact num_hit e w hg
def Same (r : Ending) (w : World) (y : Ending) (w' : World) : Prop := y = r ∧ w' = w
set_option maxHeartbeats 2000000 in
set_option maxRecDepth 100000 in
theorem nil_check (s : ByteArray) (w : World) : Calls Tryd.prog 30 #[.pointer none, .string s] w (Same (.returned (.iface 63 (.int .i64 1))) w) := by
  go_enter Tryd.func30, Tryd.ntmps30
  go_wp2_with (fail)
  go_ret
  exact ⟨rfl, rfl⟩
set_option maxHeartbeats 2000000 in
set_option maxRecDepth 100000 in
theorem nil_read (s : ByteArray) (w : World) : Calls Tryd.prog 18 #[.pointer none, .string s] w (Same (.returned (.tuple #[.slice none 0 0, .iface 63 (.int .i64 1)])) w) := by
  have CK := nil_check s w
  go_enter Tryd.func18, Tryd.ntmps18
  go_wp2_with (fail)
  refine Calls.mono CK ?_
  rintro y w1 ⟨rfl, rfl⟩
  clear CK
  go_wp2_with (fail)
  go_ret2
  exact ⟨rfl, rfl⟩
set_option maxHeartbeats 2000000 in
set_option maxRecDepth 100000 in
theorem nil_write (s : ByteArray) (v : Value) (w : World) : Calls Tryd.prog 9 #[.pointer none, .string s, v] w (Same (.returned (.iface 63 (.int .i64 1))) w) := by
  go_enter Tryd.func9, Tryd.ntmps9
  go_wp2_with (fail)
  go_ret
  exact ⟨rfl, rfl⟩
set_option maxHeartbeats 2000000 in
set_option maxRecDepth 100000 in
theorem nil_rename (s t : ByteArray) (w : World) : Calls Tryd.prog 21 #[.pointer none, .string s, .string t] w (Same (.returned (.iface 63 (.int .i64 1))) w) := by
  have CK := nil_check s w
  go_enter Tryd.func21, Tryd.ntmps21
  go_wp2_with (fail)
  refine Calls.mono CK ?_
  rintro y w1 ⟨rfl, rfl⟩
  clear CK
  go_wp2_with (fail)
  go_ret
  exact ⟨rfl, rfl⟩
set_option maxHeartbeats 2000000 in
set_option maxRecDepth 100000 in
theorem nil_remove (s : ByteArray) (w : World) : Calls Tryd.prog 12 #[.pointer none, .string s] w (Same (.returned (.iface 63 (.int .i64 1))) w) := by
  have CK := nil_check s w
  go_enter Tryd.func12, Tryd.ntmps12
  go_wp2_with (fail)
  refine Calls.mono CK ?_
  rintro y w1 ⟨rfl, rfl⟩
  clear CK
  go_wp2_with (fail)
  go_ret
  exact ⟨rfl, rfl⟩
set_option maxHeartbeats 2000000 in
set_option maxRecDepth 100000 in
theorem nil_sync (w : World) : Calls Tryd.prog 13 #[.pointer none] w (Same (.returned (.iface 63 (.int .i64 1))) w) := by
  go_enter Tryd.func13, Tryd.ntmps13
  go_wp2_with (fail)
  go_ret
  exact ⟨rfl, rfl⟩
set_option maxHeartbeats 2000000 in
set_option maxRecDepth 100000 in
theorem nil_crash (a b : Int) (w : World) : Calls Tryd.prog 22 #[.pointer none, .int .i64 a, .int .i64 b] w (Same (.returned (.iface 63 (.int .i64 1))) w) := by
  go_enter Tryd.func22, Tryd.ntmps22
  go_wp2_with (fail)
  go_ret
  exact ⟨rfl, rfl⟩
set_option maxHeartbeats 2000000 in
set_option maxRecDepth 100000 in
theorem nil_pending (w : World) : Calls Tryd.prog 17 #[.pointer none] w (Same (.returned (.int .i64 0)) w) := by
  go_enter Tryd.func17, Tryd.ntmps17
  go_wp2_with (fail)
  go_ret
  exact ⟨rfl, rfl⟩
set_option maxHeartbeats 2000000 in
set_option maxRecDepth 100000 in
theorem nil_names (w : World) : Calls Tryd.prog 11 #[.pointer none] w (Same (.returned (.slice none 0 0)) w) := by
  go_enter Tryd.func11, Tryd.ntmps11
  go_wp2_with (fail)
  go_ret
  exact ⟨rfl, rfl⟩
end Go.Proofs.YtgocmfjijoibkaaDoor
