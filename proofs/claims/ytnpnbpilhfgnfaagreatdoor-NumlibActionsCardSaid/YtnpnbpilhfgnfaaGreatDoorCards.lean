/-
  DERIVED. GIVEN WITH THE SEED: THE CARDS: each row of YtnpnbpilhfgnfaaGreatDoorRows.lean that lists a variable, with what it lists TIED to the program's text (the seventh form; the later family's looks); each row that meets fmt, with fmt's text TOLD by the authors' own Lean function (tested against real Go, not proved from fmt's source: count such statements apart). THE CARD IS WHAT COUNTS. Prove the row's statement (the work); the ties are given (YtnpnbpilhfgnfaaGreatDoorTie.lean); close each card by the builder's one call (the guide's Derived/Test/ToyasCard.lean, 'card_holds'). Laid BY PROGRAM, IN A SANDBOX (cutbox-door.mjs). By AI agents, Wed Nov 11 2026. No macro, syntax, notation, axiom, sorry.
-/
import Derived.Test.YtnpnbpilhfgnfaaGreatDoorRows
import GoSem.ClaimSeven
namespace Go.Proofs.YtnpnbpilhfgnfaaGreatDoor
namespace Rows

/-- THE TIED CARD OF 'scriptinglaw23.NumlibBegins'. -/
def numlibBeginsCard : Claim7 := { stood := { row := numlibBeginsRow, standIns := [], harness := (true, "7833ab7ff934fe8bdacf097d8dab22176da2d65eca42d2e23d381a3af861d88a"), looks := false }, kinds := [], alts := [], laidByText := true, laidKinds := [.data, .data, .data, .data, .pinned], laidTests := true, laidLooks := .later }
def NumlibBeginsCardSaid : Prop := Claim7.holds Tryz.pinned (.plain (OpenSpec.ofChange numlibBeginsSpec)) numlibBeginsCard

/-- THE TIED CARD OF 'scriptinglaw23.NumlibExtremes'. -/
def numlibExtremesCard : Claim7 := { stood := { row := numlibExtremesRow, standIns := [], harness := (true, "7833ab7ff934fe8bdacf097d8dab22176da2d65eca42d2e23d381a3af861d88a"), looks := false }, kinds := [], alts := [], laidByText := true, laidKinds := [.data, .data, .data, .data, .pinned], laidTests := true, laidLooks := .later }
def NumlibExtremesCardSaid : Prop := Claim7.holds Tryz.pinned (.plain (OpenSpec.ofChange numlibExtremesSpec)) numlibExtremesCard

/-- THE TIED CARD OF 'scriptinglaw23.NumlibTexts'. -/
def numlibTextsCard : Claim7 := { stood := { row := numlibTextsRow, standIns := [], harness := (true, "7833ab7ff934fe8bdacf097d8dab22176da2d65eca42d2e23d381a3af861d88a"), looks := false }, kinds := [], alts := [], laidByText := true, laidKinds := [.data, .data, .data, .data, .pinned], laidTests := true, laidLooks := .later }
def NumlibTextsCardSaid : Prop := Claim7.holds Tryz.pinned (.plain (OpenSpec.ofChange numlibTextsSpec)) numlibTextsCard

/-- THE TIED CARD OF 'scriptinglaw23.NumlibActions'. -/
def numlibActionsCard : Claim7 := { stood := { row := numlibActionsRow, standIns := [], harness := (true, "7833ab7ff934fe8bdacf097d8dab22176da2d65eca42d2e23d381a3af861d88a"), looks := false }, kinds := [], alts := [], laidByText := true, laidKinds := [.data, .data, .data, .data, .pinned], laidTests := true, laidLooks := .later }
def NumlibActionsCardSaid : Prop := Claim7.holds Tryz.pinned (.plain (OpenSpec.ofChange numlibActionsSpec)) numlibActionsCard

/-- THE SECOND FORM's CARD OF 'scriptinglaw23.NumlibBegins'. -/
def numlibBeginsUptoCard : Claim7 := { stood := { row := numlibBeginsUptoRow, standIns := [], harness := (true, "7833ab7ff934fe8bdacf097d8dab22176da2d65eca42d2e23d381a3af861d88a"), looks := false }, kinds := [], alts := [], laidByText := true, laidKinds := [.data, .data, .data, .data, .pinned], laidTests := true, laidLooks := .later }
def NumlibBeginsUptoCardSaid : Prop := Claim7.holds Tryz.pinned (.plain (OpenSpec.upto numlibBeginsSpec)) numlibBeginsUptoCard

/-- THE SECOND FORM's CARD OF 'scriptinglaw23.NumlibExtremes'. -/
def numlibExtremesUptoCard : Claim7 := { stood := { row := numlibExtremesUptoRow, standIns := [], harness := (true, "7833ab7ff934fe8bdacf097d8dab22176da2d65eca42d2e23d381a3af861d88a"), looks := false }, kinds := [], alts := [], laidByText := true, laidKinds := [.data, .data, .data, .data, .pinned], laidTests := true, laidLooks := .later }
def NumlibExtremesUptoCardSaid : Prop := Claim7.holds Tryz.pinned (.plain (OpenSpec.upto numlibExtremesSpec)) numlibExtremesUptoCard

/-- THE SECOND FORM's CARD OF 'scriptinglaw23.NumlibTexts'. -/
def numlibTextsUptoCard : Claim7 := { stood := { row := numlibTextsUptoRow, standIns := [], harness := (true, "7833ab7ff934fe8bdacf097d8dab22176da2d65eca42d2e23d381a3af861d88a"), looks := false }, kinds := [], alts := [], laidByText := true, laidKinds := [.data, .data, .data, .data, .pinned], laidTests := true, laidLooks := .later }
def NumlibTextsUptoCardSaid : Prop := Claim7.holds Tryz.pinned (.plain (OpenSpec.upto numlibTextsSpec)) numlibTextsUptoCard

/-- THE SECOND FORM's CARD OF 'scriptinglaw23.NumlibActions'. -/
def numlibActionsUptoCard : Claim7 := { stood := { row := numlibActionsUptoRow, standIns := [], harness := (true, "7833ab7ff934fe8bdacf097d8dab22176da2d65eca42d2e23d381a3af861d88a"), looks := false }, kinds := [], alts := [], laidByText := true, laidKinds := [.data, .data, .data, .data, .pinned], laidTests := true, laidLooks := .later }
def NumlibActionsUptoCardSaid : Prop := Claim7.holds Tryz.pinned (.plain (OpenSpec.upto numlibActionsSpec)) numlibActionsUptoCard
end Rows
end Go.Proofs.YtnpnbpilhfgnfaaGreatDoor
