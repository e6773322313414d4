/-
  DERIVED. GIVEN WITH THE SEED: THE CARDS: each row of YtgocmfjijoibkaaDoorRows.lean that lists a variable, with what it lists TIED to the program's text (the seventh form; the later family's looks); each row that meets fmt, with fmt's text TOLD by the authors' own Lean function (tested against real Go, not proved from fmt's source: count such statements apart). THE CARD IS WHAT COUNTS. Prove the row's statement (the work); the ties are given (YtgocmfjijoibkaaDoorTie.lean); close each card by the builder's one call (the guide's Derived/Test/ToyasCard.lean, 'card_holds'). Laid BY PROGRAM, IN A SANDBOX (cutbox-door.mjs). By AI agents, Wed Nov 11 2026. No macro, syntax, notation, axiom, sorry.
-/
import Derived.Test.YtgocmfjijoibkaaDoorRows
import GoSem.ClaimSeven
namespace Go.Proofs.YtgocmfjijoibkaaDoor
namespace Rows

/-- THE TIED CARD OF 'belvederelaw03.FilesFull'. -/
def filesFullCard : Claim7 := { stood := { row := filesFullRow, standIns := [], harness := (true, "3967ed96b874ee9362a7315d18cc3e501c0c611b58ee36ddc435c8b98b950a16"), looks := true }, kinds := [], alts := [], laidByText := true, laidKinds := [.handle], laidTests := true, laidLooks := .later }
def FilesFullCardSaid : Prop := Claim7.holds Tryd.pinned (.plain (OpenSpec.ofChange filesFullSpec)) filesFullCard

/-- THE TIED CARD OF 'belvederelaw03.FilesRuns'. -/
def filesRunsCard : Claim7 := { stood := { row := filesRunsRow, standIns := [], harness := (true, "3967ed96b874ee9362a7315d18cc3e501c0c611b58ee36ddc435c8b98b950a16"), looks := true }, kinds := [], alts := [], laidByText := true, laidKinds := [.handle], laidTests := true, laidLooks := .later }
def FilesRunsCardSaid : Prop := Claim7.holds Tryd.pinned (.plain (OpenSpec.ofChange filesRunsSpec)) filesRunsCard

/-- THE TIED CARD OF 'belvederelaw03.FilesNil'. -/
def filesNilCard : Claim7 := { stood := { row := filesNilRow, standIns := [], harness := (true, "3967ed96b874ee9362a7315d18cc3e501c0c611b58ee36ddc435c8b98b950a16"), looks := true }, kinds := [], alts := [], laidByText := true, laidKinds := [.handle], laidTests := true, laidLooks := .later }
def FilesNilCardSaid : Prop := Claim7.holds Tryd.pinned (.plain (OpenSpec.ofChange filesNilSpec)) filesNilCard

/-- THE TIED CARD OF 'belvederelaw03.FilesSafe'. -/
def filesSafeCard : Claim7 := { stood := { row := filesSafeRow, standIns := [], harness := (true, "3967ed96b874ee9362a7315d18cc3e501c0c611b58ee36ddc435c8b98b950a16"), looks := true }, kinds := [], alts := [], laidByText := true, laidKinds := [.handle], laidTests := true, laidLooks := .later }
def FilesSafeCardSaid : Prop := Claim7.holds Tryd.pinned (.plain (OpenSpec.ofChange filesSafeSpec)) filesSafeCard

/-- THE SECOND FORM's CARD OF 'belvederelaw03.FilesFull'. -/
def filesFullUptoCard : Claim7 := { stood := { row := filesFullUptoRow, standIns := [], harness := (true, "3967ed96b874ee9362a7315d18cc3e501c0c611b58ee36ddc435c8b98b950a16"), looks := true }, kinds := [], alts := [], laidByText := true, laidKinds := [.handle], laidTests := true, laidLooks := .later }
def FilesFullUptoCardSaid : Prop := Claim7.holds Tryd.pinned (.plain (OpenSpec.upto filesFullSpec)) filesFullUptoCard

/-- THE SECOND FORM's CARD OF 'belvederelaw03.FilesRuns'. -/
def filesRunsUptoCard : Claim7 := { stood := { row := filesRunsUptoRow, standIns := [], harness := (true, "3967ed96b874ee9362a7315d18cc3e501c0c611b58ee36ddc435c8b98b950a16"), looks := true }, kinds := [], alts := [], laidByText := true, laidKinds := [.handle], laidTests := true, laidLooks := .later }
def FilesRunsUptoCardSaid : Prop := Claim7.holds Tryd.pinned (.plain (OpenSpec.upto filesRunsSpec)) filesRunsUptoCard

/-- THE SECOND FORM's CARD OF 'belvederelaw03.FilesNil'. -/
def filesNilUptoCard : Claim7 := { stood := { row := filesNilUptoRow, standIns := [], harness := (true, "3967ed96b874ee9362a7315d18cc3e501c0c611b58ee36ddc435c8b98b950a16"), looks := true }, kinds := [], alts := [], laidByText := true, laidKinds := [.handle], laidTests := true, laidLooks := .later }
def FilesNilUptoCardSaid : Prop := Claim7.holds Tryd.pinned (.plain (OpenSpec.upto filesNilSpec)) filesNilUptoCard

/-- THE SECOND FORM's CARD OF 'belvederelaw03.FilesSafe'. -/
def filesSafeUptoCard : Claim7 := { stood := { row := filesSafeUptoRow, standIns := [], harness := (true, "3967ed96b874ee9362a7315d18cc3e501c0c611b58ee36ddc435c8b98b950a16"), looks := true }, kinds := [], alts := [], laidByText := true, laidKinds := [.handle], laidTests := true, laidLooks := .later }
def FilesSafeUptoCardSaid : Prop := Claim7.holds Tryd.pinned (.plain (OpenSpec.upto filesSafeSpec)) filesSafeUptoCard
end Rows
end Go.Proofs.YtgocmfjijoibkaaDoor
