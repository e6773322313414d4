/-
  DERIVED. GIVEN WITH THE SEED: THE CARDS: each row of YtdgclggmemciaaaDoorRows.lean that lists a variable, with what it lists TIED to the program's text (the seventh form; the later family's looks); each row that meets fmt, with fmt's text TOLD by the authors' own Lean function (tested against real Go, not proved from fmt's source: count such statements apart). THE CARD IS WHAT COUNTS. Prove the row's statement (the work); the ties are given (YtdgclggmemciaaaDoorTie.lean); close each card by the builder's one call (the guide's Derived/Test/ToyasCard.lean, 'card_holds'). Laid BY PROGRAM, IN A SANDBOX (cutbox-door.mjs). By AI agents, Wed Nov 11 2026. No macro, syntax, notation, axiom, sorry.
-/
import Derived.Test.YtdgclggmemciaaaDoorRows
import GoSem.ClaimSeven
namespace Go.Proofs.YtdgclggmemciaaaDoor
namespace Rows

/-- THE TIED CARD OF 'belvederelaw12.GraphReaches'. -/
def graphReachesCard : Claim7 := { stood := { row := graphReachesRow, standIns := [], harness := (true, "ff4d1daf62dd00592664a2169d24e01add048a1dbc420018ffab6e726b02a5be"), looks := true }, kinds := [], alts := [], laidByText := true, laidKinds := [.handle], laidTests := true, laidLooks := .later }
def GraphReachesCardSaid : Prop := Claim7.holds Tryd.pinned (.plain (OpenSpec.ofChange graphReachesSpec)) graphReachesCard

/-- THE TIED CARD OF 'belvederelaw12.GraphOrders'. -/
def graphOrdersCard : Claim7 := { stood := { row := graphOrdersRow, standIns := [], harness := (true, "ff4d1daf62dd00592664a2169d24e01add048a1dbc420018ffab6e726b02a5be"), looks := true }, kinds := [], alts := [], laidByText := true, laidKinds := [.handle], laidTests := true, laidLooks := .later }
def GraphOrdersCardSaid : Prop := Claim7.holds Tryd.pinned (.plain (OpenSpec.ofChange graphOrdersSpec)) graphOrdersCard

/-- THE TIED CARD OF 'belvederelaw12.GraphAhead'. -/
def graphAheadCard : Claim7 := { stood := { row := graphAheadRow, standIns := [], harness := (true, "ff4d1daf62dd00592664a2169d24e01add048a1dbc420018ffab6e726b02a5be"), looks := true }, kinds := [], alts := [], laidByText := true, laidKinds := [.handle], laidTests := true, laidLooks := .later }
def GraphAheadCardSaid : Prop := Claim7.holds Tryd.pinned (.plain (OpenSpec.ofChange graphAheadSpec)) graphAheadCard

/-- THE TIED CARD OF 'belvederelaw12.GraphClosed'. -/
def graphClosedCard : Claim7 := { stood := { row := graphClosedRow, standIns := [], harness := (true, "ff4d1daf62dd00592664a2169d24e01add048a1dbc420018ffab6e726b02a5be"), looks := true }, kinds := [], alts := [], laidByText := true, laidKinds := [.handle], laidTests := true, laidLooks := .later }
def GraphClosedCardSaid : Prop := Claim7.holds Tryd.pinned (.plain (OpenSpec.ofChange graphClosedSpec)) graphClosedCard

/-- THE SECOND FORM's CARD OF 'belvederelaw12.GraphReaches'. -/
def graphReachesUptoCard : Claim7 := { stood := { row := graphReachesUptoRow, standIns := [], harness := (true, "ff4d1daf62dd00592664a2169d24e01add048a1dbc420018ffab6e726b02a5be"), looks := true }, kinds := [], alts := [], laidByText := true, laidKinds := [.handle], laidTests := true, laidLooks := .later }
def GraphReachesUptoCardSaid : Prop := Claim7.holds Tryd.pinned (.plain (OpenSpec.upto graphReachesSpec)) graphReachesUptoCard

/-- THE SECOND FORM's CARD OF 'belvederelaw12.GraphOrders'. -/
def graphOrdersUptoCard : Claim7 := { stood := { row := graphOrdersUptoRow, standIns := [], harness := (true, "ff4d1daf62dd00592664a2169d24e01add048a1dbc420018ffab6e726b02a5be"), looks := true }, kinds := [], alts := [], laidByText := true, laidKinds := [.handle], laidTests := true, laidLooks := .later }
def GraphOrdersUptoCardSaid : Prop := Claim7.holds Tryd.pinned (.plain (OpenSpec.upto graphOrdersSpec)) graphOrdersUptoCard

/-- THE SECOND FORM's CARD OF 'belvederelaw12.GraphAhead'. -/
def graphAheadUptoCard : Claim7 := { stood := { row := graphAheadUptoRow, standIns := [], harness := (true, "ff4d1daf62dd00592664a2169d24e01add048a1dbc420018ffab6e726b02a5be"), looks := true }, kinds := [], alts := [], laidByText := true, laidKinds := [.handle], laidTests := true, laidLooks := .later }
def GraphAheadUptoCardSaid : Prop := Claim7.holds Tryd.pinned (.plain (OpenSpec.upto graphAheadSpec)) graphAheadUptoCard

/-- THE SECOND FORM's CARD OF 'belvederelaw12.GraphClosed'. -/
def graphClosedUptoCard : Claim7 := { stood := { row := graphClosedUptoRow, standIns := [], harness := (true, "ff4d1daf62dd00592664a2169d24e01add048a1dbc420018ffab6e726b02a5be"), looks := true }, kinds := [], alts := [], laidByText := true, laidKinds := [.handle], laidTests := true, laidLooks := .later }
def GraphClosedUptoCardSaid : Prop := Claim7.holds Tryd.pinned (.plain (OpenSpec.upto graphClosedSpec)) graphClosedUptoCard
end Rows
end Go.Proofs.YtdgclggmemciaaaDoor
