/-
  DERIVED. GIVEN WITH THE SEED: THE CARDS: each row of YtfbbkeekpkbjhaaDoorRows.lean that lists a variable, with what it lists TIED to the program's text (the seventh form; the later family's looks); each row that meets fmt, with fmt's text TOLD by the authors' own Lean function (tested against real Go, not proved from fmt's source: count such statements apart). THE CARD IS WHAT COUNTS. Prove the row's statement (the work); the ties are given (YtfbbkeekpkbjhaaDoorTie.lean); close each card by the builder's one call (the guide's Derived/Test/ToyasCard.lean, 'card_holds'). Laid BY PROGRAM, IN A SANDBOX (cutbox-door.mjs). By AI agents, Wed Nov 11 2026. No macro, syntax, notation, axiom, sorry.
-/
import Derived.Test.YtfbbkeekpkbjhaaDoorRows
import GoSem.ClaimSeven
namespace Go.Proofs.YtfbbkeekpkbjhaaDoor
namespace Rows

/-- THE TIED CARD OF 'belvederelaw15.QueueRoom'. -/
def queueRoomCard : Claim7 := { stood := { row := queueRoomRow, standIns := [], harness := (true, "5d6cc30020e435f9496ec8a4a6ed8ced4042839d17d99dbe79c6670b9ccc45c2"), looks := true }, kinds := [], alts := [], laidByText := true, laidKinds := [.handle], laidTests := true, laidLooks := .later }
def QueueRoomCardSaid : Prop := Claim7.holds Tryd.pinned (.plain (OpenSpec.ofChange queueRoomSpec)) queueRoomCard

/-- THE TIED CARD OF 'belvederelaw15.QueueRuns'. -/
def queueRunsCard : Claim7 := { stood := { row := queueRunsRow, standIns := [], harness := (true, "5d6cc30020e435f9496ec8a4a6ed8ced4042839d17d99dbe79c6670b9ccc45c2"), looks := true }, kinds := [], alts := [], laidByText := true, laidKinds := [.handle], laidTests := true, laidLooks := .later }
def QueueRunsCardSaid : Prop := Claim7.holds Tryd.pinned (.plain (OpenSpec.ofChange queueRunsSpec)) queueRunsCard

/-- THE TIED CARD OF 'belvederelaw15.QueueNew'. -/
def queueNewCard : Claim7 := { stood := { row := queueNewRow, standIns := [], harness := (true, "5d6cc30020e435f9496ec8a4a6ed8ced4042839d17d99dbe79c6670b9ccc45c2"), looks := true }, kinds := [], alts := [], laidByText := true, laidKinds := [.handle], laidTests := true, laidLooks := .later }
def QueueNewCardSaid : Prop := Claim7.holds Tryd.pinned (.plain (OpenSpec.ofChange queueNewSpec)) queueNewCard

/-- THE SECOND FORM's CARD OF 'belvederelaw15.QueueRoom'. -/
def queueRoomUptoCard : Claim7 := { stood := { row := queueRoomUptoRow, standIns := [], harness := (true, "5d6cc30020e435f9496ec8a4a6ed8ced4042839d17d99dbe79c6670b9ccc45c2"), looks := true }, kinds := [], alts := [], laidByText := true, laidKinds := [.handle], laidTests := true, laidLooks := .later }
def QueueRoomUptoCardSaid : Prop := Claim7.holds Tryd.pinned (.plain (OpenSpec.upto queueRoomSpec)) queueRoomUptoCard

/-- THE SECOND FORM's CARD OF 'belvederelaw15.QueueRuns'. -/
def queueRunsUptoCard : Claim7 := { stood := { row := queueRunsUptoRow, standIns := [], harness := (true, "5d6cc30020e435f9496ec8a4a6ed8ced4042839d17d99dbe79c6670b9ccc45c2"), looks := true }, kinds := [], alts := [], laidByText := true, laidKinds := [.handle], laidTests := true, laidLooks := .later }
def QueueRunsUptoCardSaid : Prop := Claim7.holds Tryd.pinned (.plain (OpenSpec.upto queueRunsSpec)) queueRunsUptoCard

/-- THE SECOND FORM's CARD OF 'belvederelaw15.QueueNew'. -/
def queueNewUptoCard : Claim7 := { stood := { row := queueNewUptoRow, standIns := [], harness := (true, "5d6cc30020e435f9496ec8a4a6ed8ced4042839d17d99dbe79c6670b9ccc45c2"), looks := true }, kinds := [], alts := [], laidByText := true, laidKinds := [.handle], laidTests := true, laidLooks := .later }
def QueueNewUptoCardSaid : Prop := Claim7.holds Tryd.pinned (.plain (OpenSpec.upto queueNewSpec)) queueNewUptoCard
end Rows
end Go.Proofs.YtfbbkeekpkbjhaaDoor
