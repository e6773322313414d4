/-
  DERIVED. GIVEN WITH THE SEED: THE CARDS: each row of YtacajmknlknjkaaDoorRows.lean that lists a variable, with what it lists TIED to the program's text (the seventh form; the later family's looks); each row that meets fmt, with fmt's text TOLD by the authors' own Lean function (tested against real Go, not proved from fmt's source: count such statements apart). THE CARD IS WHAT COUNTS. Prove the row's statement (the work); the ties are given (YtacajmknlknjkaaDoorTie.lean); close each card by the builder's one call (the guide's Derived/Test/ToyasCard.lean, 'card_holds'). Laid BY PROGRAM, IN A SANDBOX (cutbox-door.mjs). By AI agents, Wed Nov 11 2026. No macro, syntax, notation, axiom, sorry.
-/
import Derived.Test.YtacajmknlknjkaaDoorRows
import GoSem.ClaimSeven
namespace Go.Proofs.YtacajmknlknjkaaDoor
namespace Rows

/-- THE TIED CARD OF 'belvederelaw21.MacroExpands'. -/
def macroExpandsCard : Claim7 := { stood := { row := macroExpandsRow, standIns := [], harness := (true, "6414adeaa4b1f961d2db813aa34811c432e84fc847ab9e6afaf258ad876c31ec"), looks := true }, kinds := [], alts := [], laidByText := true, laidKinds := [.data, .handle, .pinned], laidTests := true, laidLooks := .later }
def MacroExpandsCardSaid : Prop := Claim7.holds Tryd.pinned (.plain (OpenSpec.ofChange macroExpandsSpec)) macroExpandsCard

/-- THE TIED CARD OF 'belvederelaw21.MacroLong'. -/
def macroLongCard : Claim7 := { stood := { row := macroLongRow, standIns := [], harness := (true, "6414adeaa4b1f961d2db813aa34811c432e84fc847ab9e6afaf258ad876c31ec"), looks := true }, kinds := [], alts := [], laidByText := true, laidKinds := [.data, .handle, .pinned], laidTests := true, laidLooks := .later }
def MacroLongCardSaid : Prop := Claim7.holds Tryd.pinned (.plain (OpenSpec.ofChange macroLongSpec)) macroLongCard

/-- THE TIED CARD OF 'belvederelaw21.MacroParts'. -/
def macroPartsCard : Claim7 := { stood := { row := macroPartsRow, standIns := [], harness := (true, "6414adeaa4b1f961d2db813aa34811c432e84fc847ab9e6afaf258ad876c31ec"), looks := true }, kinds := [], alts := [], laidByText := true, laidKinds := [.data, .handle, .pinned], laidTests := true, laidLooks := .later }
def MacroPartsCardSaid : Prop := Claim7.holds Tryd.pinned (.plain (OpenSpec.ofChange macroPartsSpec)) macroPartsCard

/-- THE TIED CARD OF 'belvederelaw21.MacroNames'. -/
def macroNamesCard : Claim7 := { stood := { row := macroNamesRow, standIns := [], harness := (true, "6414adeaa4b1f961d2db813aa34811c432e84fc847ab9e6afaf258ad876c31ec"), looks := true }, kinds := [], alts := [], laidByText := true, laidKinds := [.data, .handle, .pinned], laidTests := true, laidLooks := .later }
def MacroNamesCardSaid : Prop := Claim7.holds Tryd.pinned (.plain (OpenSpec.ofChange macroNamesSpec)) macroNamesCard

/-- THE TIED CARD OF 'belvederelaw21.MacroQuotes'. -/
def macroQuotesCard : Claim7 := { stood := { row := macroQuotesRow, standIns := [], harness := (true, "6414adeaa4b1f961d2db813aa34811c432e84fc847ab9e6afaf258ad876c31ec"), looks := true }, kinds := [], alts := [], laidByText := true, laidKinds := [.data, .handle, .pinned], laidTests := true, laidLooks := .later }
def MacroQuotesCardSaid : Prop := Claim7.holds Tryd.pinned (.plain (OpenSpec.ofChange macroQuotesSpec)) macroQuotesCard

/-- THE SECOND FORM's CARD OF 'belvederelaw21.MacroExpands'. -/
def macroExpandsUptoCard : Claim7 := { stood := { row := macroExpandsUptoRow, standIns := [], harness := (true, "6414adeaa4b1f961d2db813aa34811c432e84fc847ab9e6afaf258ad876c31ec"), looks := true }, kinds := [], alts := [], laidByText := true, laidKinds := [.data, .handle, .pinned], laidTests := true, laidLooks := .later }
def MacroExpandsUptoCardSaid : Prop := Claim7.holds Tryd.pinned (.plain (OpenSpec.upto macroExpandsSpec)) macroExpandsUptoCard

/-- THE SECOND FORM's CARD OF 'belvederelaw21.MacroLong'. -/
def macroLongUptoCard : Claim7 := { stood := { row := macroLongUptoRow, standIns := [], harness := (true, "6414adeaa4b1f961d2db813aa34811c432e84fc847ab9e6afaf258ad876c31ec"), looks := true }, kinds := [], alts := [], laidByText := true, laidKinds := [.data, .handle, .pinned], laidTests := true, laidLooks := .later }
def MacroLongUptoCardSaid : Prop := Claim7.holds Tryd.pinned (.plain (OpenSpec.upto macroLongSpec)) macroLongUptoCard

/-- THE SECOND FORM's CARD OF 'belvederelaw21.MacroParts'. -/
def macroPartsUptoCard : Claim7 := { stood := { row := macroPartsUptoRow, standIns := [], harness := (true, "6414adeaa4b1f961d2db813aa34811c432e84fc847ab9e6afaf258ad876c31ec"), looks := true }, kinds := [], alts := [], laidByText := true, laidKinds := [.data, .handle, .pinned], laidTests := true, laidLooks := .later }
def MacroPartsUptoCardSaid : Prop := Claim7.holds Tryd.pinned (.plain (OpenSpec.upto macroPartsSpec)) macroPartsUptoCard

/-- THE SECOND FORM's CARD OF 'belvederelaw21.MacroNames'. -/
def macroNamesUptoCard : Claim7 := { stood := { row := macroNamesUptoRow, standIns := [], harness := (true, "6414adeaa4b1f961d2db813aa34811c432e84fc847ab9e6afaf258ad876c31ec"), looks := true }, kinds := [], alts := [], laidByText := true, laidKinds := [.data, .handle, .pinned], laidTests := true, laidLooks := .later }
def MacroNamesUptoCardSaid : Prop := Claim7.holds Tryd.pinned (.plain (OpenSpec.upto macroNamesSpec)) macroNamesUptoCard

/-- THE SECOND FORM's CARD OF 'belvederelaw21.MacroQuotes'. -/
def macroQuotesUptoCard : Claim7 := { stood := { row := macroQuotesUptoRow, standIns := [], harness := (true, "6414adeaa4b1f961d2db813aa34811c432e84fc847ab9e6afaf258ad876c31ec"), looks := true }, kinds := [], alts := [], laidByText := true, laidKinds := [.data, .handle, .pinned], laidTests := true, laidLooks := .later }
def MacroQuotesUptoCardSaid : Prop := Claim7.holds Tryd.pinned (.plain (OpenSpec.upto macroQuotesSpec)) macroQuotesUptoCard
end Rows
end Go.Proofs.YtacajmknlknjkaaDoor
