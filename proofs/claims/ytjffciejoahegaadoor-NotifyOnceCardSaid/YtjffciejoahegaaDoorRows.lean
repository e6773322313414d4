/-
  NARROWER THAN 'FOR EVERY INPUT', by the rows' own cells (each row's printed sentence says how): NotifyForced: laid · NotifyAdmits: laid · NotifyMore: laid · NotifyChooses: laid · NotifyOnce: laid.
  DERIVED. THE GIVEN ROWS OF THIS SEAT. 5 by the template 'for every input the law returns true; each argument reads behind the call as it read before'; 0 by the template 'total and deterministic' (their statements: YtjffciejoahegaaDoorTotals.lean).
  GIVEN WITH THE SEED: the statements are not yours to turn. If you find one false, say at which input.
  Laid BY PROGRAM, IN A SANDBOX (cutbox-rows.mjs): the forced cells as the released guide's own fill.sh prints them over the translation d46b8172e222a483… (all of the seat's roots in one cut). By AI agents, Wed Nov 11 2026. No macro, syntax, notation, axiom, sorry.
-/
import Derived.Test.YtjffciejoahegaaDoorChecked
import GoSem.Claim
import GoSem.ClaimJoined
import GoSem.ClaimMapViews
import Derived.JoinedTies
import Derived.KernelRfl
namespace Go.Proofs.YtjffciejoahegaaDoor
/- THE CELL 'sum', in the pinned program and in every row, IS THE sha256 OF THE DUMP (.gsa) THAT YtjffciejoahegaaDoorProg.lean LOADS. Nothing in Lean hashes anything: it is a label: what it is worth is what the hold of that sum in a sandbox is worth. -/
noncomputable def Tryd.pinned : Pinned := { name := "ytjffciejoahegaadoor", sum := "d46b8172e222a4830b3d9fbb2f8a6342eee725606a9ace7a0c892a8ca7946ba3", checked := Tryd.checked }
namespace Rows
def none {H : Type} : Left H := { results := [], args := [] }

/- WHAT THE LISTED PACKAGE-LEVEL VARIABLES READ AS WHEN THE CALL BEGINS. Each datum BY PROGRAM (the guide's laid-datum.mjs) off the statement by which the dump's own 'gosem.cut.vars' lays the variable. In a bare row this is a premise. The card (YtjffciejoahegaaDoorCards.lean) ties it to the program's text. -/
def laid_belvedere_notify_words {H : Type} : DataW H := .agg [.lit (.string [112, 114, 111, 98, 108, 101, 109]), .lit (.string [114, 101, 99, 111, 118, 101, 114, 121]), .lit (.string [102, 108, 97, 112, 115, 116, 97, 114, 116]), .lit (.string [102, 108, 97, 112, 115, 116, 111, 112]), .lit (.string [99, 117, 115, 116, 111, 109])]

/-- 'belvederelaw22.NotifyForced': WHATEVER THE INPUT: true; the input reads as it did. -/
def notifyForcedSpec : ChangeSpec := { name := "notifyForced", fn := fun _ => fun
  | [d1, d2] => { results := [.lit (.bool true)], args := [d1, d2] }
  | _ => none }
def notifyForcedRow : OpenClaim := { program := "ytjffciejoahegaadoor", sum := "d46b8172e222a4830b3d9fbb2f8a6342eee725606a9ace7a0c892a8ca7946ba3", func := "belvedere/belvederelaw22.NotifyForced", spec := "notifyForced", named := ["belvedere/notify.words"], apart := false, laid := [("belvedere/notify.words", laid_belvedere_notify_words)] }
def NotifyForcedSaid : Prop := notifyForcedRow.holds Tryd.pinned (OpenSpec.ofChange notifyForcedSpec)

/-- ITS FALSE NEIGHBOUR: 'it returns false'. Refute it at one input. -/
def notifyForcedWrong : ChangeSpec := { name := "notifyForced", fn := fun _ => fun
  | [d1, d2] => { results := [.lit (.bool false)], args := [d1, d2] }
  | _ => none }
def NotifyForcedWrongFalsely : Prop := notifyForcedRow.holds Tryd.pinned (OpenSpec.ofChange notifyForcedWrong)

/-- 'belvederelaw22.NotifyAdmits': WHATEVER THE INPUT: true; the input reads as it did. -/
def notifyAdmitsSpec : ChangeSpec := { name := "notifyAdmits", fn := fun _ => fun
  | [d1, d2] => { results := [.lit (.bool true)], args := [d1, d2] }
  | _ => none }
def notifyAdmitsRow : OpenClaim := { program := "ytjffciejoahegaadoor", sum := "d46b8172e222a4830b3d9fbb2f8a6342eee725606a9ace7a0c892a8ca7946ba3", func := "belvedere/belvederelaw22.NotifyAdmits", spec := "notifyAdmits", named := ["belvedere/notify.words"], apart := false, laid := [("belvedere/notify.words", laid_belvedere_notify_words)] }
def NotifyAdmitsSaid : Prop := notifyAdmitsRow.holds Tryd.pinned (OpenSpec.ofChange notifyAdmitsSpec)

/-- ITS FALSE NEIGHBOUR: 'it returns false'. Refute it at one input. -/
def notifyAdmitsWrong : ChangeSpec := { name := "notifyAdmits", fn := fun _ => fun
  | [d1, d2] => { results := [.lit (.bool false)], args := [d1, d2] }
  | _ => none }
def NotifyAdmitsWrongFalsely : Prop := notifyAdmitsRow.holds Tryd.pinned (OpenSpec.ofChange notifyAdmitsWrong)

/-- 'belvederelaw22.NotifyMore': WHATEVER THE INPUT: true; the input reads as it did. -/
def notifyMoreSpec : ChangeSpec := { name := "notifyMore", fn := fun _ => fun
  | [d1, d2, d3] => { results := [.lit (.bool true)], args := [d1, d2, d3] }
  | _ => none }
def notifyMoreRow : OpenClaim := { program := "ytjffciejoahegaadoor", sum := "d46b8172e222a4830b3d9fbb2f8a6342eee725606a9ace7a0c892a8ca7946ba3", func := "belvedere/belvederelaw22.NotifyMore", spec := "notifyMore", named := ["belvedere/notify.words"], apart := false, laid := [("belvedere/notify.words", laid_belvedere_notify_words)] }
def NotifyMoreSaid : Prop := notifyMoreRow.holds Tryd.pinned (OpenSpec.ofChange notifyMoreSpec)

/-- ITS FALSE NEIGHBOUR: 'it returns false'. Refute it at one input. -/
def notifyMoreWrong : ChangeSpec := { name := "notifyMore", fn := fun _ => fun
  | [d1, d2, d3] => { results := [.lit (.bool false)], args := [d1, d2, d3] }
  | _ => none }
def NotifyMoreWrongFalsely : Prop := notifyMoreRow.holds Tryd.pinned (OpenSpec.ofChange notifyMoreWrong)

/-- 'belvederelaw22.NotifyChooses': WHATEVER THE INPUT: true; the input reads as it did. -/
def notifyChoosesSpec : ChangeSpec := { name := "notifyChooses", fn := fun _ => fun
  | [d1, d2, d3] => { results := [.lit (.bool true)], args := [d1, d2, d3] }
  | _ => none }
def notifyChoosesRow : OpenClaim := { program := "ytjffciejoahegaadoor", sum := "d46b8172e222a4830b3d9fbb2f8a6342eee725606a9ace7a0c892a8ca7946ba3", func := "belvedere/belvederelaw22.NotifyChooses", spec := "notifyChooses", unfollowed := true, recurses := true, named := ["belvedere/notify.words"], apart := false, laid := [("belvedere/notify.words", laid_belvedere_notify_words)] }
def NotifyChoosesSaid : Prop := notifyChoosesRow.holds Tryd.pinned (OpenSpec.ofChange notifyChoosesSpec)

/-- ITS FALSE NEIGHBOUR: 'it returns false'. Refute it at one input. -/
def notifyChoosesWrong : ChangeSpec := { name := "notifyChooses", fn := fun _ => fun
  | [d1, d2, d3] => { results := [.lit (.bool false)], args := [d1, d2, d3] }
  | _ => none }
def NotifyChoosesWrongFalsely : Prop := notifyChoosesRow.holds Tryd.pinned (OpenSpec.ofChange notifyChoosesWrong)

/-- 'belvederelaw22.NotifyOnce': WHATEVER THE INPUT: true; the input reads as it did. -/
def notifyOnceSpec : ChangeSpec := { name := "notifyOnce", fn := fun _ => fun
  | [d1, d2, d3] => { results := [.lit (.bool true)], args := [d1, d2, d3] }
  | _ => none }
def notifyOnceRow : OpenClaim := { program := "ytjffciejoahegaadoor", sum := "d46b8172e222a4830b3d9fbb2f8a6342eee725606a9ace7a0c892a8ca7946ba3", func := "belvedere/belvederelaw22.NotifyOnce", spec := "notifyOnce", unfollowed := true, recurses := true, named := ["belvedere/notify.words"], apart := false, laid := [("belvedere/notify.words", laid_belvedere_notify_words)] }
def NotifyOnceSaid : Prop := notifyOnceRow.holds Tryd.pinned (OpenSpec.ofChange notifyOnceSpec)

/-- ITS FALSE NEIGHBOUR: 'it returns false'. Refute it at one input. -/
def notifyOnceWrong : ChangeSpec := { name := "notifyOnce", fn := fun _ => fun
  | [d1, d2, d3] => { results := [.lit (.bool false)], args := [d1, d2, d3] }
  | _ => none }
def NotifyOnceWrongFalsely : Prop := notifyOnceRow.holds Tryd.pinned (OpenSpec.ofChange notifyOnceWrong)

/- THE SECOND FORM. 'bulk': how many values and letters a reading holds, each counted each time it is reached (what is shared counts as often as it is met; a slice's spare places count too). A statement '..UptoSaid' is the law's where the arguments, and the package variables that the reading takes, are together of bulk at most 1048576: NARROWER than '..Said'. Prove '..Said' where nothing that the law and all that it calls make is longer than what came in: it says more and counts as full. Else prove '..UptoSaid'. A law counts once. -/
mutual
def uptoBulk {H : Type} : DataW H → Nat
  | .lit (.string bytes) => bytes.length + 1
  | .lit _ => 1
  | .nil => 1
  | .ptr d => uptoBulk d + 1
  | .slice elems spare => uptoBulkAll elems + uptoBulkAll spare + 1
  | .agg parts => uptoBulkAll parts + 1
  | .iface _ d => uptoBulk d + 1
  | .map entries => uptoBulkEntries entries + 1
  | .held _ => 1
def uptoBulkAll {H : Type} : List (DataW H) → Nat
  | [] => 0
  | d :: r => uptoBulk d + uptoBulkAll r
def uptoBulkEntries {H : Type} : List (Lit × DataW H) → Nat
  | [] => 0
  | x :: r => uptoBulkEntry x + uptoBulkEntries r
def uptoBulkEntry {H : Type} : Lit × DataW H → Nat
  | (.string bytes, d) => bytes.length + uptoBulk d + 1
  | (_, d) => uptoBulk d + 1
 end
def uptoSmall : (H : Type) → List (DataW H) → Bool := fun _ ds => decide (uptoBulkAll ds ≤ 1048576)
def OpenSpec.upto (s : _root_.Go.ChangeSpec) : _root_.Go.OpenSpec := { _root_.Go.OpenSpec.ofChange s with cond := some uptoSmall }

/-- 'belvederelaw22.NotifyForced', WHERE WHAT IT READS IS OF BULK AT MOST 1048576: true; the input reads as it did. -/
def notifyForcedUptoRow : OpenClaim := { program := "ytjffciejoahegaadoor", sum := "d46b8172e222a4830b3d9fbb2f8a6342eee725606a9ace7a0c892a8ca7946ba3", func := "belvedere/belvederelaw22.NotifyForced", spec := "notifyForced", named := ["belvedere/notify.words"], apart := false, laid := [("belvedere/notify.words", laid_belvedere_notify_words)], narrowed := true }
def NotifyForcedUptoSaid : Prop := notifyForcedUptoRow.holds Tryd.pinned (OpenSpec.upto notifyForcedSpec)

/-- 'belvederelaw22.NotifyAdmits', WHERE WHAT IT READS IS OF BULK AT MOST 1048576: true; the input reads as it did. -/
def notifyAdmitsUptoRow : OpenClaim := { program := "ytjffciejoahegaadoor", sum := "d46b8172e222a4830b3d9fbb2f8a6342eee725606a9ace7a0c892a8ca7946ba3", func := "belvedere/belvederelaw22.NotifyAdmits", spec := "notifyAdmits", named := ["belvedere/notify.words"], apart := false, laid := [("belvedere/notify.words", laid_belvedere_notify_words)], narrowed := true }
def NotifyAdmitsUptoSaid : Prop := notifyAdmitsUptoRow.holds Tryd.pinned (OpenSpec.upto notifyAdmitsSpec)

/-- 'belvederelaw22.NotifyMore', WHERE WHAT IT READS IS OF BULK AT MOST 1048576: true; the input reads as it did. -/
def notifyMoreUptoRow : OpenClaim := { program := "ytjffciejoahegaadoor", sum := "d46b8172e222a4830b3d9fbb2f8a6342eee725606a9ace7a0c892a8ca7946ba3", func := "belvedere/belvederelaw22.NotifyMore", spec := "notifyMore", named := ["belvedere/notify.words"], apart := false, laid := [("belvedere/notify.words", laid_belvedere_notify_words)], narrowed := true }
def NotifyMoreUptoSaid : Prop := notifyMoreUptoRow.holds Tryd.pinned (OpenSpec.upto notifyMoreSpec)

/-- 'belvederelaw22.NotifyChooses', WHERE WHAT IT READS IS OF BULK AT MOST 1048576: true; the input reads as it did. -/
def notifyChoosesUptoRow : OpenClaim := { program := "ytjffciejoahegaadoor", sum := "d46b8172e222a4830b3d9fbb2f8a6342eee725606a9ace7a0c892a8ca7946ba3", func := "belvedere/belvederelaw22.NotifyChooses", spec := "notifyChooses", unfollowed := true, recurses := true, named := ["belvedere/notify.words"], apart := false, laid := [("belvedere/notify.words", laid_belvedere_notify_words)], narrowed := true }
def NotifyChoosesUptoSaid : Prop := notifyChoosesUptoRow.holds Tryd.pinned (OpenSpec.upto notifyChoosesSpec)

/-- 'belvederelaw22.NotifyOnce', WHERE WHAT IT READS IS OF BULK AT MOST 1048576: true; the input reads as it did. -/
def notifyOnceUptoRow : OpenClaim := { program := "ytjffciejoahegaadoor", sum := "d46b8172e222a4830b3d9fbb2f8a6342eee725606a9ace7a0c892a8ca7946ba3", func := "belvedere/belvederelaw22.NotifyOnce", spec := "notifyOnce", unfollowed := true, recurses := true, named := ["belvedere/notify.words"], apart := false, laid := [("belvedere/notify.words", laid_belvedere_notify_words)], narrowed := true }
def NotifyOnceUptoSaid : Prop := notifyOnceUptoRow.holds Tryd.pinned (OpenSpec.upto notifyOnceSpec)

end Rows
end Go.Proofs.YtjffciejoahegaaDoor
