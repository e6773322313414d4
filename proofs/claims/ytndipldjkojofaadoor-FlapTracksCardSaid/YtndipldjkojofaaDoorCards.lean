/-
  DERIVED. GIVEN WITH THE SEED: THE CARDS: each row of YtndipldjkojofaaDoorRows.lean that lists a variable, with what it lists TIED to the program's text (the seventh form; the later family's looks); each row that meets fmt, with fmt's text TOLD by the authors' own Lean function (tested against real Go, not proved from fmt's source: count such statements apart). THE CARD IS WHAT COUNTS. Prove the row's statement (the work); the ties are given (YtndipldjkojofaaDoorTie.lean); close each card by the builder's one call (the guide's Derived/Test/ToyasCard.lean, 'card_holds'). Laid BY PROGRAM, IN A SANDBOX (cutbox-door.mjs). By AI agents, Wed Nov 11 2026. No macro, syntax, notation, axiom, sorry.
-/
import Derived.Test.YtndipldjkojofaaDoorRows
import GoSem.ClaimSeven
namespace Go.Proofs.YtndipldjkojofaaDoor
namespace Rows

/-- THE TIED CARD OF 'belvederelaw16.FlapTracks'. -/
def flapTracksCard : Claim7 := { stood := { row := flapTracksRow, standIns := [], harness := (true, "2a6a32754279dd0fe71219723041bf8e8e61ab43fa103b2a79187d41fcd96995"), looks := true }, kinds := [], alts := [], laidByText := true, laidKinds := [.handle], laidTests := true, laidLooks := .later }
def FlapTracksCardSaid : Prop := Claim7.holds Tryd.pinned (.plain (OpenSpec.ofChange flapTracksSpec)) flapTracksCard

/-- THE SECOND FORM's CARD OF 'belvederelaw16.FlapTracks'. -/
def flapTracksUptoCard : Claim7 := { stood := { row := flapTracksUptoRow, standIns := [], harness := (true, "2a6a32754279dd0fe71219723041bf8e8e61ab43fa103b2a79187d41fcd96995"), looks := true }, kinds := [], alts := [], laidByText := true, laidKinds := [.handle], laidTests := true, laidLooks := .later }
def FlapTracksUptoCardSaid : Prop := Claim7.holds Tryd.pinned (.plain (OpenSpec.upto flapTracksSpec)) flapTracksUptoCard
end Rows
end Go.Proofs.YtndipldjkojofaaDoor
