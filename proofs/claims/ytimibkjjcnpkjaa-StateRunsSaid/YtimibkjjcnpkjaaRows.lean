/-
  No cell of these rows narrows 'for every input' (looked for: loops, veiled, ifaces, maps, wideKeys, modest, calm, conditions, laid).
  DERIVED. THE GIVEN ROWS OF THIS SEAT. 4 by the template 'for every input the law returns true; each argument reads behind the call as it read before'; 0 by the template 'total and deterministic' (their statements: YtimibkjjcnpkjaaTotals.lean).
  GIVEN WITH THE SEED: the statements are not yours to turn. If you find one false, say at which input.
  Laid BY PROGRAM, IN A SANDBOX (cutbox-rows.mjs): the forced cells as the released guide's own fill.sh prints them over the translation 3b8b96fef2e32fb8… (all of the seat's roots in one cut). By AI agents, Wed Nov 11 2026. No macro, syntax, notation, axiom, sorry.
-/
import Derived.Test.YtimibkjjcnpkjaaChecked
import GoSem.Claim
import GoSem.ClaimJoined
import GoSem.ClaimMapViews
import Derived.JoinedTies
import Derived.KernelRfl
namespace Go.Proofs.Ytimibkjjcnpkjaa
/- THE CELL 'sum', in the pinned program and in every row, IS THE sha256 OF THE DUMP (.gsa) THAT YtimibkjjcnpkjaaProg.lean LOADS. Nothing in Lean hashes anything: it is a label: what it is worth is what the hold of that sum in a sandbox is worth. -/
noncomputable def Try.pinned : Pinned := { name := "ytimibkjjcnpkjaa", sum := "3b8b96fef2e32fb8cf43f88cb1609ef5a6ce13b012102f3b764f3596cccb4c35", checked := Try.checked }
namespace Rows
def none {H : Type} : Left H := { results := [], args := [] }

/-- 'belvederelaw17.StateRuns': WHATEVER THE INPUT: true; the input reads as it did. -/
def stateRunsSpec : ChangeSpec := { name := "stateRuns", fn := fun _ => fun
  | [d1, d2] => { results := [.lit (.bool true)], args := [d1, d2] }
  | _ => none }
def stateRunsRow : OpenClaim := { program := "ytimibkjjcnpkjaa", sum := "3b8b96fef2e32fb8cf43f88cb1609ef5a6ce13b012102f3b764f3596cccb4c35", func := "belvedere/belvederelaw17.StateRuns", spec := "stateRuns", apart := false }
def StateRunsSaid : Prop := stateRunsRow.holds Try.pinned (OpenSpec.ofChange stateRunsSpec)

/-- ITS FALSE NEIGHBOUR: 'it returns false'. Refute it at one input. -/
def stateRunsWrong : ChangeSpec := { name := "stateRuns", fn := fun _ => fun
  | [d1, d2] => { results := [.lit (.bool false)], args := [d1, d2] }
  | _ => none }
def StateRunsWrongFalsely : Prop := stateRunsRow.holds Try.pinned (OpenSpec.ofChange stateRunsWrong)

/-- 'belvederelaw17.StateCounts': WHATEVER THE INPUT: true; the input reads as it did. -/
def stateCountsSpec : ChangeSpec := { name := "stateCounts", fn := fun _ => fun
  | [d1, d2] => { results := [.lit (.bool true)], args := [d1, d2] }
  | _ => none }
def stateCountsRow : OpenClaim := { program := "ytimibkjjcnpkjaa", sum := "3b8b96fef2e32fb8cf43f88cb1609ef5a6ce13b012102f3b764f3596cccb4c35", func := "belvedere/belvederelaw17.StateCounts", spec := "stateCounts", apart := false }
def StateCountsSaid : Prop := stateCountsRow.holds Try.pinned (OpenSpec.ofChange stateCountsSpec)

/-- ITS FALSE NEIGHBOUR: 'it returns false'. Refute it at one input. -/
def stateCountsWrong : ChangeSpec := { name := "stateCounts", fn := fun _ => fun
  | [d1, d2] => { results := [.lit (.bool false)], args := [d1, d2] }
  | _ => none }
def StateCountsWrongFalsely : Prop := stateCountsRow.holds Try.pinned (OpenSpec.ofChange stateCountsWrong)

/-- 'belvederelaw17.StateSince': WHATEVER THE INPUT: true; the input reads as it did. -/
def stateSinceSpec : ChangeSpec := { name := "stateSince", fn := fun _ => fun
  | [d1, d2] => { results := [.lit (.bool true)], args := [d1, d2] }
  | _ => none }
def stateSinceRow : OpenClaim := { program := "ytimibkjjcnpkjaa", sum := "3b8b96fef2e32fb8cf43f88cb1609ef5a6ce13b012102f3b764f3596cccb4c35", func := "belvedere/belvederelaw17.StateSince", spec := "stateSince", apart := false }
def StateSinceSaid : Prop := stateSinceRow.holds Try.pinned (OpenSpec.ofChange stateSinceSpec)

/-- ITS FALSE NEIGHBOUR: 'it returns false'. Refute it at one input. -/
def stateSinceWrong : ChangeSpec := { name := "stateSince", fn := fun _ => fun
  | [d1, d2] => { results := [.lit (.bool false)], args := [d1, d2] }
  | _ => none }
def StateSinceWrongFalsely : Prop := stateSinceRow.holds Try.pinned (OpenSpec.ofChange stateSinceWrong)

/-- 'belvederelaw17.StateOne': WHATEVER THE INPUT: true; the input reads as it did. -/
def stateOneSpec : ChangeSpec := { name := "stateOne", fn := fun _ => fun
  | [d] => { results := [.lit (.bool true)], args := [d] }
  | _ => none }
def stateOneRow : OpenClaim := { program := "ytimibkjjcnpkjaa", sum := "3b8b96fef2e32fb8cf43f88cb1609ef5a6ce13b012102f3b764f3596cccb4c35", func := "belvedere/belvederelaw17.StateOne", spec := "stateOne", apart := false }
def StateOneSaid : Prop := stateOneRow.holds Try.pinned (OpenSpec.ofChange stateOneSpec)

/-- ITS FALSE NEIGHBOUR: 'it returns false'. Refute it at one input. -/
def stateOneWrong : ChangeSpec := { name := "stateOne", fn := fun _ => fun
  | [d] => { results := [.lit (.bool false)], args := [d] }
  | _ => none }
def StateOneWrongFalsely : Prop := stateOneRow.holds Try.pinned (OpenSpec.ofChange stateOneWrong)

/- THE SECOND FORM. 'bulk': how many values and letters a reading holds, each counted each time it is reached (what is shared counts as often as it is met; a slice's spare places count too). A statement '..UptoSaid' is the law's where the arguments, and the package variables that the reading takes, are together of bulk at most 1048576: NARROWER than '..Said'. Prove '..Said' where nothing that the law and all that it calls make is longer than what came in: it says more and counts as full. Else prove '..UptoSaid'. A law counts once. -/
mutual
def uptoBulk {H : Type} : DataW H → Nat
  | .lit (.string bytes) => bytes.length + 1
  | .lit _ => 1
  | .nil => 1
  | .ptr d => uptoBulk d + 1
  | .slice elems spare => uptoBulkAll elems + uptoBulkAll spare + 1
  | .agg parts => uptoBulkAll parts + 1
  | .iface _ d => uptoBulk d + 1
  | .map entries => uptoBulkEntries entries + 1
  | .held _ => 1
def uptoBulkAll {H : Type} : List (DataW H) → Nat
  | [] => 0
  | d :: r => uptoBulk d + uptoBulkAll r
def uptoBulkEntries {H : Type} : List (Lit × DataW H) → Nat
  | [] => 0
  | x :: r => uptoBulkEntry x + uptoBulkEntries r
def uptoBulkEntry {H : Type} : Lit × DataW H → Nat
  | (.string bytes, d) => bytes.length + uptoBulk d + 1
  | (_, d) => uptoBulk d + 1
 end
def uptoSmall : (H : Type) → List (DataW H) → Bool := fun _ ds => decide (uptoBulkAll ds ≤ 1048576)
def OpenSpec.upto (s : _root_.Go.ChangeSpec) : _root_.Go.OpenSpec := { _root_.Go.OpenSpec.ofChange s with cond := some uptoSmall }

/-- 'belvederelaw17.StateRuns', WHERE WHAT IT READS IS OF BULK AT MOST 1048576: true; the input reads as it did. -/
def stateRunsUptoRow : OpenClaim := { program := "ytimibkjjcnpkjaa", sum := "3b8b96fef2e32fb8cf43f88cb1609ef5a6ce13b012102f3b764f3596cccb4c35", func := "belvedere/belvederelaw17.StateRuns", spec := "stateRuns", apart := false, narrowed := true }
def StateRunsUptoSaid : Prop := stateRunsUptoRow.holds Try.pinned (OpenSpec.upto stateRunsSpec)

/-- 'belvederelaw17.StateCounts', WHERE WHAT IT READS IS OF BULK AT MOST 1048576: true; the input reads as it did. -/
def stateCountsUptoRow : OpenClaim := { program := "ytimibkjjcnpkjaa", sum := "3b8b96fef2e32fb8cf43f88cb1609ef5a6ce13b012102f3b764f3596cccb4c35", func := "belvedere/belvederelaw17.StateCounts", spec := "stateCounts", apart := false, narrowed := true }
def StateCountsUptoSaid : Prop := stateCountsUptoRow.holds Try.pinned (OpenSpec.upto stateCountsSpec)

/-- 'belvederelaw17.StateSince', WHERE WHAT IT READS IS OF BULK AT MOST 1048576: true; the input reads as it did. -/
def stateSinceUptoRow : OpenClaim := { program := "ytimibkjjcnpkjaa", sum := "3b8b96fef2e32fb8cf43f88cb1609ef5a6ce13b012102f3b764f3596cccb4c35", func := "belvedere/belvederelaw17.StateSince", spec := "stateSince", apart := false, narrowed := true }
def StateSinceUptoSaid : Prop := stateSinceUptoRow.holds Try.pinned (OpenSpec.upto stateSinceSpec)

/-- 'belvederelaw17.StateOne', WHERE WHAT IT READS IS OF BULK AT MOST 1048576: true; the input reads as it did. -/
def stateOneUptoRow : OpenClaim := { program := "ytimibkjjcnpkjaa", sum := "3b8b96fef2e32fb8cf43f88cb1609ef5a6ce13b012102f3b764f3596cccb4c35", func := "belvedere/belvederelaw17.StateOne", spec := "stateOne", apart := false, narrowed := true }
def StateOneUptoSaid : Prop := stateOneUptoRow.holds Try.pinned (OpenSpec.upto stateOneSpec)

end Rows
end Go.Proofs.Ytimibkjjcnpkjaa
