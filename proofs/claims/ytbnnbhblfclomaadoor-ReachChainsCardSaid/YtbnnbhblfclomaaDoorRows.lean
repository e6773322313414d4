/-
  NARROWER THAN 'FOR EVERY INPUT', by the rows' own cells (each row's printed sentence says how): ReachHosts: laid · ReachBlocked: laid · ReachChains: laid.
  DERIVED. THE GIVEN ROWS OF THIS SEAT. 3 by the template 'for every input the law returns true; each argument reads behind the call as it read before'; 0 by the template 'total and deterministic' (their statements: YtbnnbhblfclomaaDoorTotals.lean).
  GIVEN WITH THE SEED: the statements are not yours to turn. If you find one false, say at which input.
  Laid BY PROGRAM, IN A SANDBOX (cutbox-rows.mjs): the forced cells as the released guide's own fill.sh prints them over the translation c21ef9a575623899… (all of the seat's roots in one cut). By AI agents, Wed Nov 11 2026. No macro, syntax, notation, axiom, sorry.
-/
import Derived.Test.YtbnnbhblfclomaaDoorChecked
import GoSem.Claim
import GoSem.ClaimJoined
import GoSem.ClaimMapViews
import Derived.JoinedTies
import Derived.KernelRfl
namespace Go.Proofs.YtbnnbhblfclomaaDoor
/- THE CELL 'sum', in the pinned program and in every row, IS THE sha256 OF THE DUMP (.gsa) THAT YtbnnbhblfclomaaDoorProg.lean LOADS. Nothing in Lean hashes anything: it is a label: what it is worth is what the hold of that sum in a sandbox is worth. -/
noncomputable def Tryd.pinned : Pinned := { name := "ytbnnbhblfclomaadoor", sum := "c21ef9a575623899b1dc563ae3be46a07417223943311cd5b18206276e251d47", checked := Tryd.checked }
namespace Rows
def none {H : Type} : Left H := { results := [], args := [] }

/- WHAT THE LISTED PACKAGE-LEVEL VARIABLES READ AS WHEN THE CALL BEGINS. Each datum BY PROGRAM (the guide's laid-datum.mjs) off the statement by which the dump's own 'gosem.cut.vars' lays the variable. In a bare row this is a premise. The card (YtbnnbhblfclomaaDoorCards.lean) ties it to the program's text. -/
def laid_errors_errorType {H : Type} : DataW H := .iface "internal/reflectlite.rtype" (.agg [.ptr (.lit (.string [101, 114, 114, 111, 114]))])

/-- 'belvederelaw19.ReachHosts': WHATEVER THE INPUT: true; the input reads as it did. -/
def reachHostsSpec : ChangeSpec := { name := "reachHosts", fn := fun _ => fun
  | [d1, d2] => { results := [.lit (.bool true)], args := [d1, d2] }
  | _ => none }
def reachHostsRow : OpenClaim := { program := "ytbnnbhblfclomaadoor", sum := "c21ef9a575623899b1dc563ae3be46a07417223943311cd5b18206276e251d47", func := "belvedere/belvederelaw19.ReachHosts", spec := "reachHosts", inPlace := ["slices.overlaps[int]", "internal/reflectlite.ValueOf", "(internal/reflectlite.Value).Type", "(internal/reflectlite.Value).IsNil", "internal/reflectlite.TypeOf", "(internal/reflectlite.Value).Elem", "(internal/reflectlite.Value).Set"], unfollowed := true, recurses := true, named := ["errors.errorType"], apart := false, laid := [("errors.errorType", laid_errors_errorType)] }
def ReachHostsSaid : Prop := reachHostsRow.holds Tryd.pinned (OpenSpec.ofChange reachHostsSpec)

/-- ITS FALSE NEIGHBOUR: 'it returns false'. Refute it at one input. -/
def reachHostsWrong : ChangeSpec := { name := "reachHosts", fn := fun _ => fun
  | [d1, d2] => { results := [.lit (.bool false)], args := [d1, d2] }
  | _ => none }
def ReachHostsWrongFalsely : Prop := reachHostsRow.holds Tryd.pinned (OpenSpec.ofChange reachHostsWrong)

/-- 'belvederelaw19.ReachBlocked': WHATEVER THE INPUT: true; the input reads as it did. -/
def reachBlockedSpec : ChangeSpec := { name := "reachBlocked", fn := fun _ => fun
  | [d1, d2, d3] => { results := [.lit (.bool true)], args := [d1, d2, d3] }
  | _ => none }
def reachBlockedRow : OpenClaim := { program := "ytbnnbhblfclomaadoor", sum := "c21ef9a575623899b1dc563ae3be46a07417223943311cd5b18206276e251d47", func := "belvedere/belvederelaw19.ReachBlocked", spec := "reachBlocked", inPlace := ["slices.overlaps[int]", "internal/reflectlite.ValueOf", "(internal/reflectlite.Value).Type", "(internal/reflectlite.Value).IsNil", "internal/reflectlite.TypeOf", "(internal/reflectlite.Value).Elem", "(internal/reflectlite.Value).Set"], unfollowed := true, recurses := true, named := ["errors.errorType"], apart := false, laid := [("errors.errorType", laid_errors_errorType)] }
def ReachBlockedSaid : Prop := reachBlockedRow.holds Tryd.pinned (OpenSpec.ofChange reachBlockedSpec)

/-- ITS FALSE NEIGHBOUR: 'it returns false'. Refute it at one input. -/
def reachBlockedWrong : ChangeSpec := { name := "reachBlocked", fn := fun _ => fun
  | [d1, d2, d3] => { results := [.lit (.bool false)], args := [d1, d2, d3] }
  | _ => none }
def ReachBlockedWrongFalsely : Prop := reachBlockedRow.holds Tryd.pinned (OpenSpec.ofChange reachBlockedWrong)

/-- 'belvederelaw19.ReachChains': WHATEVER THE INPUT: true; the input reads as it did. -/
def reachChainsSpec : ChangeSpec := { name := "reachChains", fn := fun _ => fun
  | [d1, d2, d3] => { results := [.lit (.bool true)], args := [d1, d2, d3] }
  | _ => none }
def reachChainsRow : OpenClaim := { program := "ytbnnbhblfclomaadoor", sum := "c21ef9a575623899b1dc563ae3be46a07417223943311cd5b18206276e251d47", func := "belvedere/belvederelaw19.ReachChains", spec := "reachChains", inPlace := ["slices.overlaps[int]", "internal/reflectlite.ValueOf", "(internal/reflectlite.Value).Type", "(internal/reflectlite.Value).IsNil", "internal/reflectlite.TypeOf", "(internal/reflectlite.Value).Elem", "(internal/reflectlite.Value).Set"], unfollowed := true, recurses := true, named := ["errors.errorType"], apart := false, laid := [("errors.errorType", laid_errors_errorType)] }
def ReachChainsSaid : Prop := reachChainsRow.holds Tryd.pinned (OpenSpec.ofChange reachChainsSpec)

/-- ITS FALSE NEIGHBOUR: 'it returns false'. Refute it at one input. -/
def reachChainsWrong : ChangeSpec := { name := "reachChains", fn := fun _ => fun
  | [d1, d2, d3] => { results := [.lit (.bool false)], args := [d1, d2, d3] }
  | _ => none }
def ReachChainsWrongFalsely : Prop := reachChainsRow.holds Tryd.pinned (OpenSpec.ofChange reachChainsWrong)

/- THE SECOND FORM. 'bulk': how many values and letters a reading holds, each counted each time it is reached (what is shared counts as often as it is met; a slice's spare places count too). A statement '..UptoSaid' is the law's where the arguments, and the package variables that the reading takes, are together of bulk at most 1048576: NARROWER than '..Said'. Prove '..Said' where nothing that the law and all that it calls make is longer than what came in: it says more and counts as full. Else prove '..UptoSaid'. A law counts once. -/
mutual
def uptoBulk {H : Type} : DataW H → Nat
  | .lit (.string bytes) => bytes.length + 1
  | .lit _ => 1
  | .nil => 1
  | .ptr d => uptoBulk d + 1
  | .slice elems spare => uptoBulkAll elems + uptoBulkAll spare + 1
  | .agg parts => uptoBulkAll parts + 1
  | .iface _ d => uptoBulk d + 1
  | .map entries => uptoBulkEntries entries + 1
  | .held _ => 1
def uptoBulkAll {H : Type} : List (DataW H) → Nat
  | [] => 0
  | d :: r => uptoBulk d + uptoBulkAll r
def uptoBulkEntries {H : Type} : List (Lit × DataW H) → Nat
  | [] => 0
  | x :: r => uptoBulkEntry x + uptoBulkEntries r
def uptoBulkEntry {H : Type} : Lit × DataW H → Nat
  | (.string bytes, d) => bytes.length + uptoBulk d + 1
  | (_, d) => uptoBulk d + 1
 end
def uptoSmall : (H : Type) → List (DataW H) → Bool := fun _ ds => decide (uptoBulkAll ds ≤ 1048576)
def OpenSpec.upto (s : _root_.Go.ChangeSpec) : _root_.Go.OpenSpec := { _root_.Go.OpenSpec.ofChange s with cond := some uptoSmall }

/-- 'belvederelaw19.ReachHosts', WHERE WHAT IT READS IS OF BULK AT MOST 1048576: true; the input reads as it did. -/
def reachHostsUptoRow : OpenClaim := { program := "ytbnnbhblfclomaadoor", sum := "c21ef9a575623899b1dc563ae3be46a07417223943311cd5b18206276e251d47", func := "belvedere/belvederelaw19.ReachHosts", spec := "reachHosts", inPlace := ["slices.overlaps[int]", "internal/reflectlite.ValueOf", "(internal/reflectlite.Value).Type", "(internal/reflectlite.Value).IsNil", "internal/reflectlite.TypeOf", "(internal/reflectlite.Value).Elem", "(internal/reflectlite.Value).Set"], unfollowed := true, recurses := true, named := ["errors.errorType"], apart := false, laid := [("errors.errorType", laid_errors_errorType)], narrowed := true }
def ReachHostsUptoSaid : Prop := reachHostsUptoRow.holds Tryd.pinned (OpenSpec.upto reachHostsSpec)

/-- 'belvederelaw19.ReachBlocked', WHERE WHAT IT READS IS OF BULK AT MOST 1048576: true; the input reads as it did. -/
def reachBlockedUptoRow : OpenClaim := { program := "ytbnnbhblfclomaadoor", sum := "c21ef9a575623899b1dc563ae3be46a07417223943311cd5b18206276e251d47", func := "belvedere/belvederelaw19.ReachBlocked", spec := "reachBlocked", inPlace := ["slices.overlaps[int]", "internal/reflectlite.ValueOf", "(internal/reflectlite.Value).Type", "(internal/reflectlite.Value).IsNil", "internal/reflectlite.TypeOf", "(internal/reflectlite.Value).Elem", "(internal/reflectlite.Value).Set"], unfollowed := true, recurses := true, named := ["errors.errorType"], apart := false, laid := [("errors.errorType", laid_errors_errorType)], narrowed := true }
def ReachBlockedUptoSaid : Prop := reachBlockedUptoRow.holds Tryd.pinned (OpenSpec.upto reachBlockedSpec)

/-- 'belvederelaw19.ReachChains', WHERE WHAT IT READS IS OF BULK AT MOST 1048576: true; the input reads as it did. -/
def reachChainsUptoRow : OpenClaim := { program := "ytbnnbhblfclomaadoor", sum := "c21ef9a575623899b1dc563ae3be46a07417223943311cd5b18206276e251d47", func := "belvedere/belvederelaw19.ReachChains", spec := "reachChains", inPlace := ["slices.overlaps[int]", "internal/reflectlite.ValueOf", "(internal/reflectlite.Value).Type", "(internal/reflectlite.Value).IsNil", "internal/reflectlite.TypeOf", "(internal/reflectlite.Value).Elem", "(internal/reflectlite.Value).Set"], unfollowed := true, recurses := true, named := ["errors.errorType"], apart := false, laid := [("errors.errorType", laid_errors_errorType)], narrowed := true }
def ReachChainsUptoSaid : Prop := reachChainsUptoRow.holds Tryd.pinned (OpenSpec.upto reachChainsSpec)

end Rows
end Go.Proofs.YtbnnbhblfclomaaDoor
