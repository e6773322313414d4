/-
  DERIVED. GIVEN WITH THE SEED: THE CARDS: each row of YtimibkjjcnpkjaaDoorRows.lean that lists a variable, with what it lists TIED to the program's text (the seventh form; the later family's looks); each row that meets fmt, with fmt's text TOLD by the authors' own Lean function (tested against real Go, not proved from fmt's source: count such statements apart). THE CARD IS WHAT COUNTS. Prove the row's statement (the work); the ties are given (YtimibkjjcnpkjaaDoorTie.lean); close each card by the builder's one call (the guide's Derived/Test/ToyasCard.lean, 'card_holds'). Laid BY PROGRAM, IN A SANDBOX (cutbox-door.mjs). By AI agents, Wed Nov 11 2026. No macro, syntax, notation, axiom, sorry.
-/
import Derived.Test.YtimibkjjcnpkjaaDoorRows
import GoSem.ClaimSeven
namespace Go.Proofs.YtimibkjjcnpkjaaDoor
namespace Rows

/-- THE TIED CARD OF 'belvederelaw17.StateResults'. -/
def stateResultsCard : Claim7 := { stood := { row := stateResultsRow, standIns := [], harness := (true, "14bbe43194cf10836dc8bd25004767dff4ce7e45ffc811aa669dc9e74d8af862"), looks := true }, kinds := [], alts := [], laidByText := true, laidKinds := [.handle], laidTests := true, laidLooks := .later }
def StateResultsCardSaid : Prop := Claim7.holds Tryd.pinned (.plain (OpenSpec.ofChange stateResultsSpec)) stateResultsCard

/-- THE SECOND FORM's CARD OF 'belvederelaw17.StateResults'. -/
def stateResultsUptoCard : Claim7 := { stood := { row := stateResultsUptoRow, standIns := [], harness := (true, "14bbe43194cf10836dc8bd25004767dff4ce7e45ffc811aa669dc9e74d8af862"), looks := true }, kinds := [], alts := [], laidByText := true, laidKinds := [.handle], laidTests := true, laidLooks := .later }
def StateResultsUptoCardSaid : Prop := Claim7.holds Tryd.pinned (.plain (OpenSpec.upto stateResultsSpec)) stateResultsUptoCard
end Rows
end Go.Proofs.YtimibkjjcnpkjaaDoor
