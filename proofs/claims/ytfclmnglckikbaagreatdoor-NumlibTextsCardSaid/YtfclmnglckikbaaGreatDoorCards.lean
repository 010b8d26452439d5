/-
  DERIVED. GIVEN WITH THE SEED: THE CARDS: each row of YtfclmnglckikbaaGreatDoorRows.lean that lists a variable, with what it lists TIED to the program's text (the seventh form; the later family's looks); each row that meets fmt, with fmt's text TOLD by the authors' own Lean function (tested against real Go, not proved from fmt's source: count such statements apart). THE CARD IS WHAT COUNTS. Prove the row's statement (the work); the ties are given (YtfclmnglckikbaaGreatDoorTie.lean); close each card by the builder's one call (the guide's Derived/Test/ToyasCard.lean, 'card_holds'). Laid BY PROGRAM, IN A SANDBOX (cutbox-door.mjs). By AI agents, Wed Nov 11 2026. No macro, syntax, notation, axiom, sorry.
-/
import Derived.Test.YtfclmnglckikbaaGreatDoorRows
import GoSem.ClaimSeven
namespace Go.Proofs.YtfclmnglckikbaaGreatDoor
namespace Rows

/-- THE TIED CARD OF 'scriptinglaw23.NumlibNames'. -/
def numlibNamesCard : Claim7 := { stood := { row := numlibNamesRow, standIns := [], harness := (true, "cde2361d65cdb65aba23ab658542e42f398e478b236a30f1ebdad1f6f9548f29"), looks := false }, kinds := [], alts := [], laidByText := true, laidKinds := [.data, .data, .data, .data, .pinned], laidTests := true, laidLooks := .later }
def NumlibNamesCardSaid : Prop := Claim7.holds Tryz.pinned (.plain (OpenSpec.ofChange numlibNamesSpec)) numlibNamesCard

/-- THE TIED CARD OF 'scriptinglaw23.NumlibBegins'. -/
def numlibBeginsCard : Claim7 := { stood := { row := numlibBeginsRow, standIns := [], harness := (true, "cde2361d65cdb65aba23ab658542e42f398e478b236a30f1ebdad1f6f9548f29"), looks := false }, kinds := [], alts := [], laidByText := true, laidKinds := [.data, .data, .data, .data, .pinned], laidTests := true, laidLooks := .later }
def NumlibBeginsCardSaid : Prop := Claim7.holds Tryz.pinned (.plain (OpenSpec.ofChange numlibBeginsSpec)) numlibBeginsCard

/-- THE TIED CARD OF 'scriptinglaw23.NumlibTypes'. -/
def numlibTypesCard : Claim7 := { stood := { row := numlibTypesRow, standIns := [], harness := (true, "cde2361d65cdb65aba23ab658542e42f398e478b236a30f1ebdad1f6f9548f29"), looks := false }, kinds := [], alts := [], laidByText := true, laidKinds := [.data, .data, .data, .data, .pinned], laidTests := true, laidLooks := .later }
def NumlibTypesCardSaid : Prop := Claim7.holds Tryz.pinned (.plain (OpenSpec.ofChange numlibTypesSpec)) numlibTypesCard

/-- THE TIED CARD OF 'scriptinglaw23.NumlibRounds'. -/
def numlibRoundsCard : Claim7 := { stood := { row := numlibRoundsRow, standIns := [], harness := (true, "cde2361d65cdb65aba23ab658542e42f398e478b236a30f1ebdad1f6f9548f29"), looks := false }, kinds := [], alts := [], laidByText := true, laidKinds := [.data, .data, .data, .data, .pinned], laidTests := true, laidLooks := .later }
def NumlibRoundsCardSaid : Prop := Claim7.holds Tryz.pinned (.plain (OpenSpec.ofChange numlibRoundsSpec)) numlibRoundsCard

/-- THE TIED CARD OF 'scriptinglaw23.NumlibTexts'. -/
def numlibTextsCard : Claim7 := { stood := { row := numlibTextsRow, standIns := [], harness := (true, "cde2361d65cdb65aba23ab658542e42f398e478b236a30f1ebdad1f6f9548f29"), looks := false }, kinds := [], alts := [], laidByText := true, laidKinds := [.data, .data, .data, .data, .pinned], laidTests := true, laidLooks := .later }
def NumlibTextsCardSaid : Prop := Claim7.holds Tryz.pinned (.plain (OpenSpec.ofChange numlibTextsSpec)) numlibTextsCard

/-- THE TIED CARD OF 'scriptinglaw23.NumlibParts'. -/
def numlibPartsCard : Claim7 := { stood := { row := numlibPartsRow, standIns := [], harness := (true, "cde2361d65cdb65aba23ab658542e42f398e478b236a30f1ebdad1f6f9548f29"), looks := false }, kinds := [], alts := [], laidByText := true, laidKinds := [.data, .data, .data, .data, .pinned], laidTests := true, laidLooks := .later }
def NumlibPartsCardSaid : Prop := Claim7.holds Tryz.pinned (.plain (OpenSpec.ofChange numlibPartsSpec)) numlibPartsCard

/-- THE SECOND FORM's CARD OF 'scriptinglaw23.NumlibNames'. -/
def numlibNamesUptoCard : Claim7 := { stood := { row := numlibNamesUptoRow, standIns := [], harness := (true, "cde2361d65cdb65aba23ab658542e42f398e478b236a30f1ebdad1f6f9548f29"), looks := false }, kinds := [], alts := [], laidByText := true, laidKinds := [.data, .data, .data, .data, .pinned], laidTests := true, laidLooks := .later }
def NumlibNamesUptoCardSaid : Prop := Claim7.holds Tryz.pinned (.plain (OpenSpec.upto numlibNamesSpec)) numlibNamesUptoCard

/-- THE SECOND FORM's CARD OF 'scriptinglaw23.NumlibBegins'. -/
def numlibBeginsUptoCard : Claim7 := { stood := { row := numlibBeginsUptoRow, standIns := [], harness := (true, "cde2361d65cdb65aba23ab658542e42f398e478b236a30f1ebdad1f6f9548f29"), looks := false }, kinds := [], alts := [], laidByText := true, laidKinds := [.data, .data, .data, .data, .pinned], laidTests := true, laidLooks := .later }
def NumlibBeginsUptoCardSaid : Prop := Claim7.holds Tryz.pinned (.plain (OpenSpec.upto numlibBeginsSpec)) numlibBeginsUptoCard

/-- THE SECOND FORM's CARD OF 'scriptinglaw23.NumlibTypes'. -/
def numlibTypesUptoCard : Claim7 := { stood := { row := numlibTypesUptoRow, standIns := [], harness := (true, "cde2361d65cdb65aba23ab658542e42f398e478b236a30f1ebdad1f6f9548f29"), looks := false }, kinds := [], alts := [], laidByText := true, laidKinds := [.data, .data, .data, .data, .pinned], laidTests := true, laidLooks := .later }
def NumlibTypesUptoCardSaid : Prop := Claim7.holds Tryz.pinned (.plain (OpenSpec.upto numlibTypesSpec)) numlibTypesUptoCard

/-- THE SECOND FORM's CARD OF 'scriptinglaw23.NumlibRounds'. -/
def numlibRoundsUptoCard : Claim7 := { stood := { row := numlibRoundsUptoRow, standIns := [], harness := (true, "cde2361d65cdb65aba23ab658542e42f398e478b236a30f1ebdad1f6f9548f29"), looks := false }, kinds := [], alts := [], laidByText := true, laidKinds := [.data, .data, .data, .data, .pinned], laidTests := true, laidLooks := .later }
def NumlibRoundsUptoCardSaid : Prop := Claim7.holds Tryz.pinned (.plain (OpenSpec.upto numlibRoundsSpec)) numlibRoundsUptoCard

/-- THE SECOND FORM's CARD OF 'scriptinglaw23.NumlibTexts'. -/
def numlibTextsUptoCard : Claim7 := { stood := { row := numlibTextsUptoRow, standIns := [], harness := (true, "cde2361d65cdb65aba23ab658542e42f398e478b236a30f1ebdad1f6f9548f29"), looks := false }, kinds := [], alts := [], laidByText := true, laidKinds := [.data, .data, .data, .data, .pinned], laidTests := true, laidLooks := .later }
def NumlibTextsUptoCardSaid : Prop := Claim7.holds Tryz.pinned (.plain (OpenSpec.upto numlibTextsSpec)) numlibTextsUptoCard

/-- THE SECOND FORM's CARD OF 'scriptinglaw23.NumlibParts'. -/
def numlibPartsUptoCard : Claim7 := { stood := { row := numlibPartsUptoRow, standIns := [], harness := (true, "cde2361d65cdb65aba23ab658542e42f398e478b236a30f1ebdad1f6f9548f29"), looks := false }, kinds := [], alts := [], laidByText := true, laidKinds := [.data, .data, .data, .data, .pinned], laidTests := true, laidLooks := .later }
def NumlibPartsUptoCardSaid : Prop := Claim7.holds Tryz.pinned (.plain (OpenSpec.upto numlibPartsSpec)) numlibPartsUptoCard
end Rows
end Go.Proofs.YtfclmnglckikbaaGreatDoor
