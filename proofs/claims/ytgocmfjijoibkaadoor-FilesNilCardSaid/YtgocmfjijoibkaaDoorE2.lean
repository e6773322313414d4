/- FilesNil walked. -/
import Derived.Test.YtgocmfjijoibkaaDoorE1
namespace Go.Proofs.YtgocmfjijoibkaaDoor
open Go.RowKit
set_option linter.unusedSimpArgs false
set_option linter.unusedVariables false
set_option maxHeartbeats 4000000 in
set_option maxRecDepth 100000 in
theorem filesNil_walk (s : ByteArray) (n : Int) (w : World) (hg : ErrType w) : Calls Tryd.prog 5 #[.string s, .int .i64 n] w (SureSaid w) := by
  have R := nil_read s w
  have HG0 := Lib.hid hg
  have HB0 := Lib.hid (Below.refl w.heap.size w)
  clear hg
  go_enter Tryd.func5, Tryd.ntmps5
  go_wp2_with (fail)
  refine Calls.mono R ?_
  rintro y w0 ⟨rfl, rfl⟩
  clear R
  have NM := num_hit 1 w0 HG0.out
  go_wp2_with (fail)
  refine Calls.mono NM ?_
  rintro y w1 ⟨rfl, hB⟩
  have HG1 := Lib.hid (HG0.out.below hB)
  have HB1 := Lib.hid (below_trans HB0.out hB)
  clear NM hB HG0 HB0
  have R := nil_write s (.slice none 0 0) w1
  go_wp2_with (fail)
  refine Calls.mono R ?_
  rintro y w1 ⟨rfl, rfl⟩
  clear R
  have NM := num_hit 1 w1 HG1.out
  go_wp2_with (fail)
  refine Calls.mono NM ?_
  rintro y w2 ⟨rfl, hB⟩
  have HG2 := Lib.hid (HG1.out.below hB)
  have HB2 := Lib.hid (below_trans HB1.out hB)
  clear NM hB HG1 HB1
  have R := nil_rename s s w2
  go_wp2_with (fail)
  refine Calls.mono R ?_
  rintro y w2 ⟨rfl, rfl⟩
  clear R
  have NM := num_hit 1 w2 HG2.out
  go_wp2_with (fail)
  refine Calls.mono NM ?_
  rintro y w3 ⟨rfl, hB⟩
  have HG3 := Lib.hid (HG2.out.below hB)
  have HB3 := Lib.hid (below_trans HB2.out hB)
  clear NM hB HG2 HB2
  have R := nil_remove s w3
  go_wp2_with (fail)
  refine Calls.mono R ?_
  rintro y w3 ⟨rfl, rfl⟩
  clear R
  have NM := num_hit 1 w3 HG3.out
  go_wp2_with (fail)
  refine Calls.mono NM ?_
  rintro y w4 ⟨rfl, hB⟩
  have HG4 := Lib.hid (HG3.out.below hB)
  have HB4 := Lib.hid (below_trans HB3.out hB)
  clear NM hB HG3 HB3
  have R := nil_sync w4
  go_wp2_with (fail)
  refine Calls.mono R ?_
  rintro y w4 ⟨rfl, rfl⟩
  clear R
  have NM := num_hit 1 w4 HG4.out
  go_wp2_with (fail)
  refine Calls.mono NM ?_
  rintro y w5 ⟨rfl, hB⟩
  have HG5 := Lib.hid (HG4.out.below hB)
  have HB5 := Lib.hid (below_trans HB4.out hB)
  clear NM hB HG4 HB4
  have R := nil_crash n n w5
  go_wp2_with (fail)
  refine Calls.mono R ?_
  rintro y w5 ⟨rfl, rfl⟩
  clear R
  have NM := num_hit 1 w5 HG5.out
  go_wp2_with (fail)
  refine Calls.mono NM ?_
  rintro y w6 ⟨rfl, hB⟩
  have HG6 := Lib.hid (HG5.out.below hB)
  have HB6 := Lib.hid (below_trans HB5.out hB)
  clear NM hB HG5 HB5
  have R := nil_pending w6
  go_wp2_with (fail)
  refine Calls.mono R ?_
  rintro y w6 ⟨rfl, rfl⟩
  clear R
  have R := nil_names w6
  go_wp2_with (fail)
  refine Calls.mono R ?_
  rintro y w6 ⟨rfl, rfl⟩
  clear R
  have SW := sure_walk w6
  go_wp2_with (fail)
  refine Calls.mono SW ?_
  rintro y w9 ⟨rfl, hB⟩
  have HR := Lib.hid (below_trans HB6.out hB)
  clear SW hB
  go_wp2_with (fail)
  go_ret
  exact ⟨rfl, HR.out⟩
end Go.Proofs.YtgocmfjijoibkaaDoor
