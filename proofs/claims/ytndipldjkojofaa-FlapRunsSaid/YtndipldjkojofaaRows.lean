/-
  No cell of these rows narrows 'for every input' (looked for: loops, veiled, ifaces, maps, wideKeys, modest, calm, conditions, laid).
  DERIVED. THE GIVEN ROWS OF THIS SEAT. 4 by the template 'for every input the law returns true; each argument reads behind the call as it read before'; 0 by the template 'total and deterministic' (their statements: YtndipldjkojofaaTotals.lean).
  GIVEN WITH THE SEED: the statements are not yours to turn. If you find one false, say at which input.
  Laid BY PROGRAM, IN A SANDBOX (cutbox-rows.mjs): the forced cells as the released guide's own fill.sh prints them over the translation 852fc74e580be3cc… (all of the seat's roots in one cut). By AI agents, Wed Nov 11 2026. No macro, syntax, notation, axiom, sorry.
-/
import Derived.Test.YtndipldjkojofaaChecked
import GoSem.Claim
import GoSem.ClaimJoined
import GoSem.ClaimMapViews
import Derived.JoinedTies
import Derived.KernelRfl
namespace Go.Proofs.Ytndipldjkojofaa
/- THE CELL 'sum', in the pinned program and in every row, IS THE sha256 OF THE DUMP (.gsa) THAT YtndipldjkojofaaProg.lean LOADS. Nothing in Lean hashes anything: it is a label: what it is worth is what the hold of that sum in a sandbox is worth. -/
noncomputable def Try.pinned : Pinned := { name := "ytndipldjkojofaa", sum := "852fc74e580be3cc2bcc9b70a90d6765a8caa928e1b9c914bdbd74ce7b22be45", checked := Try.checked }
namespace Rows
def none {H : Type} : Left H := { results := [], args := [] }

/-- 'belvederelaw16.FlapNames': WHATEVER THE INPUT: true; the input reads as it did. -/
def flapNamesSpec : ChangeSpec := { name := "flapNames", fn := fun _ => fun
  | [d1, d2] => { results := [.lit (.bool true)], args := [d1, d2] }
  | _ => none }
def flapNamesRow : OpenClaim := { program := "ytndipldjkojofaa", sum := "852fc74e580be3cc2bcc9b70a90d6765a8caa928e1b9c914bdbd74ce7b22be45", func := "belvedere/belvederelaw16.FlapNames", spec := "flapNames", unfollowed := true, recurses := true, apart := false }
def FlapNamesSaid : Prop := flapNamesRow.holds Try.pinned (OpenSpec.ofChange flapNamesSpec)

/-- ITS FALSE NEIGHBOUR: 'it returns false'. Refute it at one input. -/
def flapNamesWrong : ChangeSpec := { name := "flapNames", fn := fun _ => fun
  | [d1, d2] => { results := [.lit (.bool false)], args := [d1, d2] }
  | _ => none }
def FlapNamesWrongFalsely : Prop := flapNamesRow.holds Try.pinned (OpenSpec.ofChange flapNamesWrong)

/-- 'belvederelaw16.FlapRuns': WHATEVER THE INPUT: true; the input reads as it did. -/
def flapRunsSpec : ChangeSpec := { name := "flapRuns", fn := fun _ => fun
  | [d1, d2, d3] => { results := [.lit (.bool true)], args := [d1, d2, d3] }
  | _ => none }
def flapRunsRow : OpenClaim := { program := "ytndipldjkojofaa", sum := "852fc74e580be3cc2bcc9b70a90d6765a8caa928e1b9c914bdbd74ce7b22be45", func := "belvedere/belvederelaw16.FlapRuns", spec := "flapRuns", unfollowed := true, recurses := true, apart := false }
def FlapRunsSaid : Prop := flapRunsRow.holds Try.pinned (OpenSpec.ofChange flapRunsSpec)

/-- ITS FALSE NEIGHBOUR: 'it returns false'. Refute it at one input. -/
def flapRunsWrong : ChangeSpec := { name := "flapRuns", fn := fun _ => fun
  | [d1, d2, d3] => { results := [.lit (.bool false)], args := [d1, d2, d3] }
  | _ => none }
def FlapRunsWrongFalsely : Prop := flapRunsRow.holds Try.pinned (OpenSpec.ofChange flapRunsWrong)

/-- 'belvederelaw16.FlapBounds': WHATEVER THE INPUT: true; the input reads as it did. -/
def flapBoundsSpec : ChangeSpec := { name := "flapBounds", fn := fun _ => fun
  | [d1, d2, d3] => { results := [.lit (.bool true)], args := [d1, d2, d3] }
  | _ => none }
def flapBoundsRow : OpenClaim := { program := "ytndipldjkojofaa", sum := "852fc74e580be3cc2bcc9b70a90d6765a8caa928e1b9c914bdbd74ce7b22be45", func := "belvedere/belvederelaw16.FlapBounds", spec := "flapBounds", unfollowed := true, recurses := true, apart := false }
def FlapBoundsSaid : Prop := flapBoundsRow.holds Try.pinned (OpenSpec.ofChange flapBoundsSpec)

/-- ITS FALSE NEIGHBOUR: 'it returns false'. Refute it at one input. -/
def flapBoundsWrong : ChangeSpec := { name := "flapBounds", fn := fun _ => fun
  | [d1, d2, d3] => { results := [.lit (.bool false)], args := [d1, d2, d3] }
  | _ => none }
def FlapBoundsWrongFalsely : Prop := flapBoundsRow.holds Try.pinned (OpenSpec.ofChange flapBoundsWrong)

/-- 'belvederelaw16.FlapCalm': WHATEVER THE INPUT: true; the input reads as it did. -/
def flapCalmSpec : ChangeSpec := { name := "flapCalm", fn := fun _ => fun
  | [d1, d2, d3] => { results := [.lit (.bool true)], args := [d1, d2, d3] }
  | _ => none }
def flapCalmRow : OpenClaim := { program := "ytndipldjkojofaa", sum := "852fc74e580be3cc2bcc9b70a90d6765a8caa928e1b9c914bdbd74ce7b22be45", func := "belvedere/belvederelaw16.FlapCalm", spec := "flapCalm", unfollowed := true, recurses := true, apart := false }
def FlapCalmSaid : Prop := flapCalmRow.holds Try.pinned (OpenSpec.ofChange flapCalmSpec)

/-- ITS FALSE NEIGHBOUR: 'it returns false'. Refute it at one input. -/
def flapCalmWrong : ChangeSpec := { name := "flapCalm", fn := fun _ => fun
  | [d1, d2, d3] => { results := [.lit (.bool false)], args := [d1, d2, d3] }
  | _ => none }
def FlapCalmWrongFalsely : Prop := flapCalmRow.holds Try.pinned (OpenSpec.ofChange flapCalmWrong)

/- THE SECOND FORM. 'bulk': how many values and letters a reading holds, each counted each time it is reached (what is shared counts as often as it is met; a slice's spare places count too). A statement '..UptoSaid' is the law's where the arguments, and the package variables that the reading takes, are together of bulk at most 1048576: NARROWER than '..Said'. Prove '..Said' where nothing that the law and all that it calls make is longer than what came in: it says more and counts as full. Else prove '..UptoSaid'. A law counts once. -/
mutual
def uptoBulk {H : Type} : DataW H → Nat
  | .lit (.string bytes) => bytes.length + 1
  | .lit _ => 1
  | .nil => 1
  | .ptr d => uptoBulk d + 1
  | .slice elems spare => uptoBulkAll elems + uptoBulkAll spare + 1
  | .agg parts => uptoBulkAll parts + 1
  | .iface _ d => uptoBulk d + 1
  | .map entries => uptoBulkEntries entries + 1
  | .held _ => 1
def uptoBulkAll {H : Type} : List (DataW H) → Nat
  | [] => 0
  | d :: r => uptoBulk d + uptoBulkAll r
def uptoBulkEntries {H : Type} : List (Lit × DataW H) → Nat
  | [] => 0
  | x :: r => uptoBulkEntry x + uptoBulkEntries r
def uptoBulkEntry {H : Type} : Lit × DataW H → Nat
  | (.string bytes, d) => bytes.length + uptoBulk d + 1
  | (_, d) => uptoBulk d + 1
 end
def uptoSmall : (H : Type) → List (DataW H) → Bool := fun _ ds => decide (uptoBulkAll ds ≤ 1048576)
def OpenSpec.upto (s : _root_.Go.ChangeSpec) : _root_.Go.OpenSpec := { _root_.Go.OpenSpec.ofChange s with cond := some uptoSmall }

/-- 'belvederelaw16.FlapNames', WHERE WHAT IT READS IS OF BULK AT MOST 1048576: true; the input reads as it did. -/
def flapNamesUptoRow : OpenClaim := { program := "ytndipldjkojofaa", sum := "852fc74e580be3cc2bcc9b70a90d6765a8caa928e1b9c914bdbd74ce7b22be45", func := "belvedere/belvederelaw16.FlapNames", spec := "flapNames", unfollowed := true, recurses := true, apart := false, narrowed := true }
def FlapNamesUptoSaid : Prop := flapNamesUptoRow.holds Try.pinned (OpenSpec.upto flapNamesSpec)

/-- 'belvederelaw16.FlapRuns', WHERE WHAT IT READS IS OF BULK AT MOST 1048576: true; the input reads as it did. -/
def flapRunsUptoRow : OpenClaim := { program := "ytndipldjkojofaa", sum := "852fc74e580be3cc2bcc9b70a90d6765a8caa928e1b9c914bdbd74ce7b22be45", func := "belvedere/belvederelaw16.FlapRuns", spec := "flapRuns", unfollowed := true, recurses := true, apart := false, narrowed := true }
def FlapRunsUptoSaid : Prop := flapRunsUptoRow.holds Try.pinned (OpenSpec.upto flapRunsSpec)

/-- 'belvederelaw16.FlapBounds', WHERE WHAT IT READS IS OF BULK AT MOST 1048576: true; the input reads as it did. -/
def flapBoundsUptoRow : OpenClaim := { program := "ytndipldjkojofaa", sum := "852fc74e580be3cc2bcc9b70a90d6765a8caa928e1b9c914bdbd74ce7b22be45", func := "belvedere/belvederelaw16.FlapBounds", spec := "flapBounds", unfollowed := true, recurses := true, apart := false, narrowed := true }
def FlapBoundsUptoSaid : Prop := flapBoundsUptoRow.holds Try.pinned (OpenSpec.upto flapBoundsSpec)

/-- 'belvederelaw16.FlapCalm', WHERE WHAT IT READS IS OF BULK AT MOST 1048576: true; the input reads as it did. -/
def flapCalmUptoRow : OpenClaim := { program := "ytndipldjkojofaa", sum := "852fc74e580be3cc2bcc9b70a90d6765a8caa928e1b9c914bdbd74ce7b22be45", func := "belvedere/belvederelaw16.FlapCalm", spec := "flapCalm", unfollowed := true, recurses := true, apart := false, narrowed := true }
def FlapCalmUptoSaid : Prop := flapCalmUptoRow.holds Try.pinned (OpenSpec.upto flapCalmSpec)

end Rows
end Go.Proofs.Ytndipldjkojofaa
