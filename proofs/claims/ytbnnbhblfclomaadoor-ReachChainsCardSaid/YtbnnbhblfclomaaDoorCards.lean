/-
  DERIVED. GIVEN WITH THE SEED: THE CARDS: each row of YtbnnbhblfclomaaDoorRows.lean that lists a variable, with what it lists TIED to the program's text (the seventh form; the later family's looks); each row that meets fmt, with fmt's text TOLD by the authors' own Lean function (tested against real Go, not proved from fmt's source: count such statements apart). THE CARD IS WHAT COUNTS. Prove the row's statement (the work); the ties are given (YtbnnbhblfclomaaDoorTie.lean); close each card by the builder's one call (the guide's Derived/Test/ToyasCard.lean, 'card_holds'). Laid BY PROGRAM, IN A SANDBOX (cutbox-door.mjs). By AI agents, Wed Nov 11 2026. No macro, syntax, notation, axiom, sorry.
-/
import Derived.Test.YtbnnbhblfclomaaDoorRows
import GoSem.ClaimSeven
namespace Go.Proofs.YtbnnbhblfclomaaDoor
namespace Rows

/-- THE TIED CARD OF 'belvederelaw19.ReachHosts'. -/
def reachHostsCard : Claim7 := { stood := { row := reachHostsRow, standIns := [], harness := (true, "cb86203c4addde4b20a7b612b6562c0866c4e596a5dadd19f8697803a7c63a3b"), looks := true }, kinds := [], alts := [], laidByText := true, laidKinds := [.handle], laidTests := true, laidLooks := .later }
def ReachHostsCardSaid : Prop := Claim7.holds Tryd.pinned (.plain (OpenSpec.ofChange reachHostsSpec)) reachHostsCard

/-- THE TIED CARD OF 'belvederelaw19.ReachBlocked'. -/
def reachBlockedCard : Claim7 := { stood := { row := reachBlockedRow, standIns := [], harness := (true, "cb86203c4addde4b20a7b612b6562c0866c4e596a5dadd19f8697803a7c63a3b"), looks := true }, kinds := [], alts := [], laidByText := true, laidKinds := [.handle], laidTests := true, laidLooks := .later }
def ReachBlockedCardSaid : Prop := Claim7.holds Tryd.pinned (.plain (OpenSpec.ofChange reachBlockedSpec)) reachBlockedCard

/-- THE TIED CARD OF 'belvederelaw19.ReachChains'. -/
def reachChainsCard : Claim7 := { stood := { row := reachChainsRow, standIns := [], harness := (true, "cb86203c4addde4b20a7b612b6562c0866c4e596a5dadd19f8697803a7c63a3b"), looks := true }, kinds := [], alts := [], laidByText := true, laidKinds := [.handle], laidTests := true, laidLooks := .later }
def ReachChainsCardSaid : Prop := Claim7.holds Tryd.pinned (.plain (OpenSpec.ofChange reachChainsSpec)) reachChainsCard

/-- THE SECOND FORM's CARD OF 'belvederelaw19.ReachHosts'. -/
def reachHostsUptoCard : Claim7 := { stood := { row := reachHostsUptoRow, standIns := [], harness := (true, "cb86203c4addde4b20a7b612b6562c0866c4e596a5dadd19f8697803a7c63a3b"), looks := true }, kinds := [], alts := [], laidByText := true, laidKinds := [.handle], laidTests := true, laidLooks := .later }
def ReachHostsUptoCardSaid : Prop := Claim7.holds Tryd.pinned (.plain (OpenSpec.upto reachHostsSpec)) reachHostsUptoCard

/-- THE SECOND FORM's CARD OF 'belvederelaw19.ReachBlocked'. -/
def reachBlockedUptoCard : Claim7 := { stood := { row := reachBlockedUptoRow, standIns := [], harness := (true, "cb86203c4addde4b20a7b612b6562c0866c4e596a5dadd19f8697803a7c63a3b"), looks := true }, kinds := [], alts := [], laidByText := true, laidKinds := [.handle], laidTests := true, laidLooks := .later }
def ReachBlockedUptoCardSaid : Prop := Claim7.holds Tryd.pinned (.plain (OpenSpec.upto reachBlockedSpec)) reachBlockedUptoCard

/-- THE SECOND FORM's CARD OF 'belvederelaw19.ReachChains'. -/
def reachChainsUptoCard : Claim7 := { stood := { row := reachChainsUptoRow, standIns := [], harness := (true, "cb86203c4addde4b20a7b612b6562c0866c4e596a5dadd19f8697803a7c63a3b"), looks := true }, kinds := [], alts := [], laidByText := true, laidKinds := [.handle], laidTests := true, laidLooks := .later }
def ReachChainsUptoCardSaid : Prop := Claim7.holds Tryd.pinned (.plain (OpenSpec.upto reachChainsSpec)) reachChainsUptoCard
end Rows
end Go.Proofs.YtbnnbhblfclomaaDoor
