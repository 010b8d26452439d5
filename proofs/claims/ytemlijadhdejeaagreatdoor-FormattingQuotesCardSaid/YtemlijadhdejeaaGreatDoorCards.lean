/-
  DERIVED. GIVEN WITH THE SEED: THE CARDS: each row of YtemlijadhdejeaaGreatDoorRows.lean that lists a variable, with what it lists TIED to the program's text (the seventh form; the later family's looks); each row that meets fmt, with fmt's text TOLD by the authors' own Lean function (tested against real Go, not proved from fmt's source: count such statements apart). THE CARD IS WHAT COUNTS. Prove the row's statement (the work); the ties are given (YtemlijadhdejeaaGreatDoorTie.lean); close each card by the builder's one call (the guide's Derived/Test/ToyasCard.lean, 'card_holds'). Laid BY PROGRAM, IN A SANDBOX (cutbox-door.mjs). By AI agents, Wed Nov 11 2026. No macro, syntax, notation, axiom, sorry.
-/
import Derived.Test.YtemlijadhdejeaaGreatDoorRows
import GoSem.ClaimSeven
namespace Go.Proofs.YtemlijadhdejeaaGreatDoor
namespace Rows

/-- THE TIED CARD OF 'scriptinglaw09.FormattingPieces'. -/
def formattingPiecesCard : Claim7 := { stood := { row := formattingPiecesRow, standIns := [], harness := (true, "15fe974c34fbd6518d78f5624937c392369f8f756340076ed83836ae35ad20bc"), looks := false }, kinds := [], alts := [], laidByText := true, laidKinds := [.data, .data, .data, .data, .pinned, .pinned], laidTests := true, laidLooks := .later }
def FormattingPiecesCardSaid : Prop := Claim7.holds Tryz.pinned (.plain (OpenSpec.ofChange formattingPiecesSpec)) formattingPiecesCard

/-- THE TIED CARD OF 'scriptinglaw09.FormattingFormat'. -/
def formattingFormatCard : Claim7 := { stood := { row := formattingFormatRow, standIns := [], harness := (true, "15fe974c34fbd6518d78f5624937c392369f8f756340076ed83836ae35ad20bc"), looks := false }, kinds := [], alts := [], laidByText := true, laidKinds := [.data, .data, .data, .data, .pinned, .pinned], laidTests := true, laidLooks := .later }
def FormattingFormatCardSaid : Prop := Claim7.holds Tryz.pinned (.plain (OpenSpec.ofChange formattingFormatSpec)) formattingFormatCard

/-- THE TIED CARD OF 'scriptinglaw09.FormattingCounts'. -/
def formattingCountsCard : Claim7 := { stood := { row := formattingCountsRow, standIns := [], harness := (true, "15fe974c34fbd6518d78f5624937c392369f8f756340076ed83836ae35ad20bc"), looks := false }, kinds := [], alts := [], laidByText := true, laidKinds := [.data, .data, .data, .data, .pinned, .pinned], laidTests := true, laidLooks := .later }
def FormattingCountsCardSaid : Prop := Claim7.holds Tryz.pinned (.plain (OpenSpec.ofChange formattingCountsSpec)) formattingCountsCard

/-- THE TIED CARD OF 'scriptinglaw09.FormattingApart'. -/
def formattingApartCard : Claim7 := { stood := { row := formattingApartRow, standIns := [], harness := (true, "15fe974c34fbd6518d78f5624937c392369f8f756340076ed83836ae35ad20bc"), looks := false }, kinds := [], alts := [], laidByText := true, laidKinds := [.data, .data, .data, .data, .pinned, .pinned], laidTests := true, laidLooks := .later }
def FormattingApartCardSaid : Prop := Claim7.holds Tryz.pinned (.plain (OpenSpec.ofChange formattingApartSpec)) formattingApartCard

/-- THE TIED CARD OF 'scriptinglaw09.FormattingQuotes'. -/
def formattingQuotesCard : Claim7 := { stood := { row := formattingQuotesRow, standIns := [], harness := (true, "15fe974c34fbd6518d78f5624937c392369f8f756340076ed83836ae35ad20bc"), looks := false }, kinds := [], alts := [], laidByText := true, laidKinds := [.data, .data, .data, .data, .pinned, .pinned], laidTests := true, laidLooks := .later }
def FormattingQuotesCardSaid : Prop := Claim7.holds Tryz.pinned (.plain (OpenSpec.ofChange formattingQuotesSpec)) formattingQuotesCard

/-- THE TIED CARD OF 'scriptinglaw09.FormattingLong'. -/
def formattingLongCard : Claim7 := { stood := { row := formattingLongRow, standIns := [], harness := (true, "15fe974c34fbd6518d78f5624937c392369f8f756340076ed83836ae35ad20bc"), looks := false }, kinds := [], alts := [], laidByText := true, laidKinds := [.data, .data, .data, .data, .pinned, .pinned], laidTests := true, laidLooks := .later }
def FormattingLongCardSaid : Prop := Claim7.holds Tryz.pinned (.plain (OpenSpec.ofChange formattingLongSpec)) formattingLongCard

/-- THE TIED CARD OF 'scriptinglaw09.FormattingPad'. -/
def formattingPadCard : Claim7 := { stood := { row := formattingPadRow, standIns := [], harness := (true, "15fe974c34fbd6518d78f5624937c392369f8f756340076ed83836ae35ad20bc"), looks := false }, kinds := [], alts := [], laidByText := true, laidKinds := [.data, .data, .data, .data, .pinned, .pinned], laidTests := true, laidLooks := .later }
def FormattingPadCardSaid : Prop := Claim7.holds Tryz.pinned (.plain (OpenSpec.ofChange formattingPadSpec)) formattingPadCard

/-- THE TIED CARD OF 'scriptinglaw09.FormattingPlain'. -/
def formattingPlainCard : Claim7 := { stood := { row := formattingPlainRow, standIns := [], harness := (true, "15fe974c34fbd6518d78f5624937c392369f8f756340076ed83836ae35ad20bc"), looks := false }, kinds := [], alts := [], laidByText := true, laidKinds := [.data, .data, .data, .data, .pinned, .pinned], laidTests := true, laidLooks := .later }
def FormattingPlainCardSaid : Prop := Claim7.holds Tryz.pinned (.plain (OpenSpec.ofChange formattingPlainSpec)) formattingPlainCard

/-- THE SECOND FORM's CARD OF 'scriptinglaw09.FormattingPieces'. -/
def formattingPiecesUptoCard : Claim7 := { stood := { row := formattingPiecesUptoRow, standIns := [], harness := (true, "15fe974c34fbd6518d78f5624937c392369f8f756340076ed83836ae35ad20bc"), looks := false }, kinds := [], alts := [], laidByText := true, laidKinds := [.data, .data, .data, .data, .pinned, .pinned], laidTests := true, laidLooks := .later }
def FormattingPiecesUptoCardSaid : Prop := Claim7.holds Tryz.pinned (.plain (OpenSpec.upto formattingPiecesSpec)) formattingPiecesUptoCard

/-- THE SECOND FORM's CARD OF 'scriptinglaw09.FormattingFormat'. -/
def formattingFormatUptoCard : Claim7 := { stood := { row := formattingFormatUptoRow, standIns := [], harness := (true, "15fe974c34fbd6518d78f5624937c392369f8f756340076ed83836ae35ad20bc"), looks := false }, kinds := [], alts := [], laidByText := true, laidKinds := [.data, .data, .data, .data, .pinned, .pinned], laidTests := true, laidLooks := .later }
def FormattingFormatUptoCardSaid : Prop := Claim7.holds Tryz.pinned (.plain (OpenSpec.upto formattingFormatSpec)) formattingFormatUptoCard

/-- THE SECOND FORM's CARD OF 'scriptinglaw09.FormattingCounts'. -/
def formattingCountsUptoCard : Claim7 := { stood := { row := formattingCountsUptoRow, standIns := [], harness := (true, "15fe974c34fbd6518d78f5624937c392369f8f756340076ed83836ae35ad20bc"), looks := false }, kinds := [], alts := [], laidByText := true, laidKinds := [.data, .data, .data, .data, .pinned, .pinned], laidTests := true, laidLooks := .later }
def FormattingCountsUptoCardSaid : Prop := Claim7.holds Tryz.pinned (.plain (OpenSpec.upto formattingCountsSpec)) formattingCountsUptoCard

/-- THE SECOND FORM's CARD OF 'scriptinglaw09.FormattingApart'. -/
def formattingApartUptoCard : Claim7 := { stood := { row := formattingApartUptoRow, standIns := [], harness := (true, "15fe974c34fbd6518d78f5624937c392369f8f756340076ed83836ae35ad20bc"), looks := false }, kinds := [], alts := [], laidByText := true, laidKinds := [.data, .data, .data, .data, .pinned, .pinned], laidTests := true, laidLooks := .later }
def FormattingApartUptoCardSaid : Prop := Claim7.holds Tryz.pinned (.plain (OpenSpec.upto formattingApartSpec)) formattingApartUptoCard

/-- THE SECOND FORM's CARD OF 'scriptinglaw09.FormattingQuotes'. -/
def formattingQuotesUptoCard : Claim7 := { stood := { row := formattingQuotesUptoRow, standIns := [], harness := (true, "15fe974c34fbd6518d78f5624937c392369f8f756340076ed83836ae35ad20bc"), looks := false }, kinds := [], alts := [], laidByText := true, laidKinds := [.data, .data, .data, .data, .pinned, .pinned], laidTests := true, laidLooks := .later }
def FormattingQuotesUptoCardSaid : Prop := Claim7.holds Tryz.pinned (.plain (OpenSpec.upto formattingQuotesSpec)) formattingQuotesUptoCard

/-- THE SECOND FORM's CARD OF 'scriptinglaw09.FormattingLong'. -/
def formattingLongUptoCard : Claim7 := { stood := { row := formattingLongUptoRow, standIns := [], harness := (true, "15fe974c34fbd6518d78f5624937c392369f8f756340076ed83836ae35ad20bc"), looks := false }, kinds := [], alts := [], laidByText := true, laidKinds := [.data, .data, .data, .data, .pinned, .pinned], laidTests := true, laidLooks := .later }
def FormattingLongUptoCardSaid : Prop := Claim7.holds Tryz.pinned (.plain (OpenSpec.upto formattingLongSpec)) formattingLongUptoCard

/-- THE SECOND FORM's CARD OF 'scriptinglaw09.FormattingPad'. -/
def formattingPadUptoCard : Claim7 := { stood := { row := formattingPadUptoRow, standIns := [], harness := (true, "15fe974c34fbd6518d78f5624937c392369f8f756340076ed83836ae35ad20bc"), looks := false }, kinds := [], alts := [], laidByText := true, laidKinds := [.data, .data, .data, .data, .pinned, .pinned], laidTests := true, laidLooks := .later }
def FormattingPadUptoCardSaid : Prop := Claim7.holds Tryz.pinned (.plain (OpenSpec.upto formattingPadSpec)) formattingPadUptoCard

/-- THE SECOND FORM's CARD OF 'scriptinglaw09.FormattingPlain'. -/
def formattingPlainUptoCard : Claim7 := { stood := { row := formattingPlainUptoRow, standIns := [], harness := (true, "15fe974c34fbd6518d78f5624937c392369f8f756340076ed83836ae35ad20bc"), looks := false }, kinds := [], alts := [], laidByText := true, laidKinds := [.data, .data, .data, .data, .pinned, .pinned], laidTests := true, laidLooks := .later }
def FormattingPlainUptoCardSaid : Prop := Claim7.holds Tryz.pinned (.plain (OpenSpec.upto formattingPlainSpec)) formattingPlainUptoCard
end Rows
end Go.Proofs.YtemlijadhdejeaaGreatDoor
