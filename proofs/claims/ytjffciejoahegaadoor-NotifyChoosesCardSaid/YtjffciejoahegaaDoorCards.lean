/-
  DERIVED. GIVEN WITH THE SEED: THE CARDS: each row of YtjffciejoahegaaDoorRows.lean that lists a variable, with what it lists TIED to the program's text (the seventh form; the later family's looks); each row that meets fmt, with fmt's text TOLD by the authors' own Lean function (tested against real Go, not proved from fmt's source: count such statements apart). THE CARD IS WHAT COUNTS. Prove the row's statement (the work); the ties are given (YtjffciejoahegaaDoorTie.lean); close each card by the builder's one call (the guide's Derived/Test/ToyasCard.lean, 'card_holds'). Laid BY PROGRAM, IN A SANDBOX (cutbox-door.mjs). By AI agents, Wed Nov 11 2026. No macro, syntax, notation, axiom, sorry.
-/
import Derived.Test.YtjffciejoahegaaDoorRows
import GoSem.ClaimSeven
namespace Go.Proofs.YtjffciejoahegaaDoor
namespace Rows

/-- THE TIED CARD OF 'belvederelaw22.NotifyForced'. -/
def notifyForcedCard : Claim7 := { stood := { row := notifyForcedRow, standIns := [], harness := (true, "80d70976afaea9e5edde6451d8c484bbfb456c739500799348c1e916ae983688"), looks := false }, kinds := [], alts := [], laidByText := true, laidKinds := [.data], laidTests := true, laidLooks := .later }
def NotifyForcedCardSaid : Prop := Claim7.holds Tryd.pinned (.plain (OpenSpec.ofChange notifyForcedSpec)) notifyForcedCard

/-- THE TIED CARD OF 'belvederelaw22.NotifyAdmits'. -/
def notifyAdmitsCard : Claim7 := { stood := { row := notifyAdmitsRow, standIns := [], harness := (true, "80d70976afaea9e5edde6451d8c484bbfb456c739500799348c1e916ae983688"), looks := false }, kinds := [], alts := [], laidByText := true, laidKinds := [.data], laidTests := true, laidLooks := .later }
def NotifyAdmitsCardSaid : Prop := Claim7.holds Tryd.pinned (.plain (OpenSpec.ofChange notifyAdmitsSpec)) notifyAdmitsCard

/-- THE TIED CARD OF 'belvederelaw22.NotifyMore'. -/
def notifyMoreCard : Claim7 := { stood := { row := notifyMoreRow, standIns := [], harness := (true, "80d70976afaea9e5edde6451d8c484bbfb456c739500799348c1e916ae983688"), looks := false }, kinds := [], alts := [], laidByText := true, laidKinds := [.data], laidTests := true, laidLooks := .later }
def NotifyMoreCardSaid : Prop := Claim7.holds Tryd.pinned (.plain (OpenSpec.ofChange notifyMoreSpec)) notifyMoreCard

/-- THE TIED CARD OF 'belvederelaw22.NotifyChooses'. -/
def notifyChoosesCard : Claim7 := { stood := { row := notifyChoosesRow, standIns := [], harness := (true, "80d70976afaea9e5edde6451d8c484bbfb456c739500799348c1e916ae983688"), looks := false }, kinds := [], alts := [], laidByText := true, laidKinds := [.data], laidTests := true, laidLooks := .later }
def NotifyChoosesCardSaid : Prop := Claim7.holds Tryd.pinned (.plain (OpenSpec.ofChange notifyChoosesSpec)) notifyChoosesCard

/-- THE TIED CARD OF 'belvederelaw22.NotifyOnce'. -/
def notifyOnceCard : Claim7 := { stood := { row := notifyOnceRow, standIns := [], harness := (true, "80d70976afaea9e5edde6451d8c484bbfb456c739500799348c1e916ae983688"), looks := false }, kinds := [], alts := [], laidByText := true, laidKinds := [.data], laidTests := true, laidLooks := .later }
def NotifyOnceCardSaid : Prop := Claim7.holds Tryd.pinned (.plain (OpenSpec.ofChange notifyOnceSpec)) notifyOnceCard

/-- THE SECOND FORM's CARD OF 'belvederelaw22.NotifyForced'. -/
def notifyForcedUptoCard : Claim7 := { stood := { row := notifyForcedUptoRow, standIns := [], harness := (true, "80d70976afaea9e5edde6451d8c484bbfb456c739500799348c1e916ae983688"), looks := false }, kinds := [], alts := [], laidByText := true, laidKinds := [.data], laidTests := true, laidLooks := .later }
def NotifyForcedUptoCardSaid : Prop := Claim7.holds Tryd.pinned (.plain (OpenSpec.upto notifyForcedSpec)) notifyForcedUptoCard

/-- THE SECOND FORM's CARD OF 'belvederelaw22.NotifyAdmits'. -/
def notifyAdmitsUptoCard : Claim7 := { stood := { row := notifyAdmitsUptoRow, standIns := [], harness := (true, "80d70976afaea9e5edde6451d8c484bbfb456c739500799348c1e916ae983688"), looks := false }, kinds := [], alts := [], laidByText := true, laidKinds := [.data], laidTests := true, laidLooks := .later }
def NotifyAdmitsUptoCardSaid : Prop := Claim7.holds Tryd.pinned (.plain (OpenSpec.upto notifyAdmitsSpec)) notifyAdmitsUptoCard

/-- THE SECOND FORM's CARD OF 'belvederelaw22.NotifyMore'. -/
def notifyMoreUptoCard : Claim7 := { stood := { row := notifyMoreUptoRow, standIns := [], harness := (true, "80d70976afaea9e5edde6451d8c484bbfb456c739500799348c1e916ae983688"), looks := false }, kinds := [], alts := [], laidByText := true, laidKinds := [.data], laidTests := true, laidLooks := .later }
def NotifyMoreUptoCardSaid : Prop := Claim7.holds Tryd.pinned (.plain (OpenSpec.upto notifyMoreSpec)) notifyMoreUptoCard

/-- THE SECOND FORM's CARD OF 'belvederelaw22.NotifyChooses'. -/
def notifyChoosesUptoCard : Claim7 := { stood := { row := notifyChoosesUptoRow, standIns := [], harness := (true, "80d70976afaea9e5edde6451d8c484bbfb456c739500799348c1e916ae983688"), looks := false }, kinds := [], alts := [], laidByText := true, laidKinds := [.data], laidTests := true, laidLooks := .later }
def NotifyChoosesUptoCardSaid : Prop := Claim7.holds Tryd.pinned (.plain (OpenSpec.upto notifyChoosesSpec)) notifyChoosesUptoCard

/-- THE SECOND FORM's CARD OF 'belvederelaw22.NotifyOnce'. -/
def notifyOnceUptoCard : Claim7 := { stood := { row := notifyOnceUptoRow, standIns := [], harness := (true, "80d70976afaea9e5edde6451d8c484bbfb456c739500799348c1e916ae983688"), looks := false }, kinds := [], alts := [], laidByText := true, laidKinds := [.data], laidTests := true, laidLooks := .later }
def NotifyOnceUptoCardSaid : Prop := Claim7.holds Tryd.pinned (.plain (OpenSpec.upto notifyOnceSpec)) notifyOnceUptoCard
end Rows
end Go.Proofs.YtjffciejoahegaaDoor
