/-
  DERIVED. GIVEN WITH THE SEED: THE CARDS: each row of YtgjeljhodflbgaaDoorRows.lean that lists a variable, with what it lists TIED to the program's text (the seventh form; the later family's looks); each row that meets fmt, with fmt's text TOLD by the authors' own Lean function (tested against real Go, not proved from fmt's source: count such statements apart). THE CARD IS WHAT COUNTS. Prove the row's statement (the work); the ties are given (YtgjeljhodflbgaaDoorTie.lean); close each card by the builder's one call (the guide's Derived/Test/ToyasCard.lean, 'card_holds'). Laid BY PROGRAM, IN A SANDBOX (cutbox-door.mjs). By AI agents, Wed Nov 11 2026. No macro, syntax, notation, axiom, sorry.
-/
import Derived.Test.YtgjeljhodflbgaaDoorRows
import GoSem.ClaimSeven
namespace Go.Proofs.YtgjeljhodflbgaaDoor
namespace Rows

/-- THE TIED CARD OF 'scriptinglaw03.LexerScan'. -/
def lexerScanCard : Claim7 := { stood := { row := lexerScanRow, standIns := [], harness := (true, "fc666874eb5346f8281e054142c5e25d760d0c8a0b7dbc442e297f98efd01e1f"), looks := false }, kinds := [], alts := [], laidByText := true, laidKinds := [.listed, .data], laidTests := true, laidLooks := .later }
def LexerScanCardSaid : Prop := Claim7.holds Tryd.pinned (.plain (OpenSpec.ofChange lexerScanSpec)) lexerScanCard

/-- THE TIED CARD OF 'scriptinglaw03.LexerWords'. -/
def lexerWordsCard : Claim7 := { stood := { row := lexerWordsRow, standIns := [], harness := (true, "fc666874eb5346f8281e054142c5e25d760d0c8a0b7dbc442e297f98efd01e1f"), looks := false }, kinds := [], alts := [], laidByText := true, laidKinds := [.listed, .data], laidTests := true, laidLooks := .later }
def LexerWordsCardSaid : Prop := Claim7.holds Tryd.pinned (.plain (OpenSpec.ofChange lexerWordsSpec)) lexerWordsCard

/-- THE TIED CARD OF 'scriptinglaw03.LexerQuote'. -/
def lexerQuoteCard : Claim7 := { stood := { row := lexerQuoteRow, standIns := [], harness := (true, "fc666874eb5346f8281e054142c5e25d760d0c8a0b7dbc442e297f98efd01e1f"), looks := false }, kinds := [], alts := [], laidByText := true, laidKinds := [.listed, .data], laidTests := true, laidLooks := .later }
def LexerQuoteCardSaid : Prop := Claim7.holds Tryd.pinned (.plain (OpenSpec.ofChange lexerQuoteSpec)) lexerQuoteCard

/-- THE TIED CARD OF 'scriptinglaw03.LexerJoin'. -/
def lexerJoinCard : Claim7 := { stood := { row := lexerJoinRow, standIns := [], harness := (true, "fc666874eb5346f8281e054142c5e25d760d0c8a0b7dbc442e297f98efd01e1f"), looks := false }, kinds := [], alts := [], laidByText := true, laidKinds := [.listed, .data], laidTests := true, laidLooks := .later }
def LexerJoinCardSaid : Prop := Claim7.holds Tryd.pinned (.plain (OpenSpec.ofChange lexerJoinSpec)) lexerJoinCard

/-- THE TIED CARD OF 'scriptinglaw03.LexerAgain'. -/
def lexerAgainCard : Claim7 := { stood := { row := lexerAgainRow, standIns := [], harness := (true, "fc666874eb5346f8281e054142c5e25d760d0c8a0b7dbc442e297f98efd01e1f"), looks := false }, kinds := [], alts := [], laidByText := true, laidKinds := [.listed, .data], laidTests := true, laidLooks := .later }
def LexerAgainCardSaid : Prop := Claim7.holds Tryd.pinned (.plain (OpenSpec.ofChange lexerAgainSpec)) lexerAgainCard

/-- THE TIED CARD OF 'scriptinglaw03.LexerPlaces'. -/
def lexerPlacesCard : Claim7 := { stood := { row := lexerPlacesRow, standIns := [], harness := (true, "fc666874eb5346f8281e054142c5e25d760d0c8a0b7dbc442e297f98efd01e1f"), looks := false }, kinds := [], alts := [], laidByText := true, laidKinds := [.listed, .data], laidTests := true, laidLooks := .later }
def LexerPlacesCardSaid : Prop := Claim7.holds Tryd.pinned (.plain (OpenSpec.ofChange lexerPlacesSpec)) lexerPlacesCard

/-- THE TIED CARD OF 'scriptinglaw03.LexerApart'. -/
def lexerApartCard : Claim7 := { stood := { row := lexerApartRow, standIns := [], harness := (true, "fc666874eb5346f8281e054142c5e25d760d0c8a0b7dbc442e297f98efd01e1f"), looks := false }, kinds := [], alts := [], laidByText := true, laidKinds := [.listed, .data], laidTests := true, laidLooks := .later }
def LexerApartCardSaid : Prop := Claim7.holds Tryd.pinned (.plain (OpenSpec.ofChange lexerApartSpec)) lexerApartCard

/-- THE TIED CARD OF 'scriptinglaw03.LexerLimit'. -/
def lexerLimitCard : Claim7 := { stood := { row := lexerLimitRow, standIns := [], harness := (true, "fc666874eb5346f8281e054142c5e25d760d0c8a0b7dbc442e297f98efd01e1f"), looks := false }, kinds := [], alts := [], laidByText := true, laidKinds := [.listed, .data], laidTests := true, laidLooks := .later }
def LexerLimitCardSaid : Prop := Claim7.holds Tryd.pinned (.plain (OpenSpec.ofChange lexerLimitSpec)) lexerLimitCard

/-- THE SECOND FORM's CARD OF 'scriptinglaw03.LexerScan'. -/
def lexerScanUptoCard : Claim7 := { stood := { row := lexerScanUptoRow, standIns := [], harness := (true, "fc666874eb5346f8281e054142c5e25d760d0c8a0b7dbc442e297f98efd01e1f"), looks := false }, kinds := [], alts := [], laidByText := true, laidKinds := [.listed, .data], laidTests := true, laidLooks := .later }
def LexerScanUptoCardSaid : Prop := Claim7.holds Tryd.pinned (.plain (OpenSpec.upto lexerScanSpec)) lexerScanUptoCard

/-- THE SECOND FORM's CARD OF 'scriptinglaw03.LexerWords'. -/
def lexerWordsUptoCard : Claim7 := { stood := { row := lexerWordsUptoRow, standIns := [], harness := (true, "fc666874eb5346f8281e054142c5e25d760d0c8a0b7dbc442e297f98efd01e1f"), looks := false }, kinds := [], alts := [], laidByText := true, laidKinds := [.listed, .data], laidTests := true, laidLooks := .later }
def LexerWordsUptoCardSaid : Prop := Claim7.holds Tryd.pinned (.plain (OpenSpec.upto lexerWordsSpec)) lexerWordsUptoCard

/-- THE SECOND FORM's CARD OF 'scriptinglaw03.LexerQuote'. -/
def lexerQuoteUptoCard : Claim7 := { stood := { row := lexerQuoteUptoRow, standIns := [], harness := (true, "fc666874eb5346f8281e054142c5e25d760d0c8a0b7dbc442e297f98efd01e1f"), looks := false }, kinds := [], alts := [], laidByText := true, laidKinds := [.listed, .data], laidTests := true, laidLooks := .later }
def LexerQuoteUptoCardSaid : Prop := Claim7.holds Tryd.pinned (.plain (OpenSpec.upto lexerQuoteSpec)) lexerQuoteUptoCard

/-- THE SECOND FORM's CARD OF 'scriptinglaw03.LexerJoin'. -/
def lexerJoinUptoCard : Claim7 := { stood := { row := lexerJoinUptoRow, standIns := [], harness := (true, "fc666874eb5346f8281e054142c5e25d760d0c8a0b7dbc442e297f98efd01e1f"), looks := false }, kinds := [], alts := [], laidByText := true, laidKinds := [.listed, .data], laidTests := true, laidLooks := .later }
def LexerJoinUptoCardSaid : Prop := Claim7.holds Tryd.pinned (.plain (OpenSpec.upto lexerJoinSpec)) lexerJoinUptoCard

/-- THE SECOND FORM's CARD OF 'scriptinglaw03.LexerAgain'. -/
def lexerAgainUptoCard : Claim7 := { stood := { row := lexerAgainUptoRow, standIns := [], harness := (true, "fc666874eb5346f8281e054142c5e25d760d0c8a0b7dbc442e297f98efd01e1f"), looks := false }, kinds := [], alts := [], laidByText := true, laidKinds := [.listed, .data], laidTests := true, laidLooks := .later }
def LexerAgainUptoCardSaid : Prop := Claim7.holds Tryd.pinned (.plain (OpenSpec.upto lexerAgainSpec)) lexerAgainUptoCard

/-- THE SECOND FORM's CARD OF 'scriptinglaw03.LexerPlaces'. -/
def lexerPlacesUptoCard : Claim7 := { stood := { row := lexerPlacesUptoRow, standIns := [], harness := (true, "fc666874eb5346f8281e054142c5e25d760d0c8a0b7dbc442e297f98efd01e1f"), looks := false }, kinds := [], alts := [], laidByText := true, laidKinds := [.listed, .data], laidTests := true, laidLooks := .later }
def LexerPlacesUptoCardSaid : Prop := Claim7.holds Tryd.pinned (.plain (OpenSpec.upto lexerPlacesSpec)) lexerPlacesUptoCard

/-- THE SECOND FORM's CARD OF 'scriptinglaw03.LexerApart'. -/
def lexerApartUptoCard : Claim7 := { stood := { row := lexerApartUptoRow, standIns := [], harness := (true, "fc666874eb5346f8281e054142c5e25d760d0c8a0b7dbc442e297f98efd01e1f"), looks := false }, kinds := [], alts := [], laidByText := true, laidKinds := [.listed, .data], laidTests := true, laidLooks := .later }
def LexerApartUptoCardSaid : Prop := Claim7.holds Tryd.pinned (.plain (OpenSpec.upto lexerApartSpec)) lexerApartUptoCard

/-- THE SECOND FORM's CARD OF 'scriptinglaw03.LexerLimit'. -/
def lexerLimitUptoCard : Claim7 := { stood := { row := lexerLimitUptoRow, standIns := [], harness := (true, "fc666874eb5346f8281e054142c5e25d760d0c8a0b7dbc442e297f98efd01e1f"), looks := false }, kinds := [], alts := [], laidByText := true, laidKinds := [.listed, .data], laidTests := true, laidLooks := .later }
def LexerLimitUptoCardSaid : Prop := Claim7.holds Tryd.pinned (.plain (OpenSpec.upto lexerLimitSpec)) lexerLimitUptoCard
end Rows
end Go.Proofs.YtgjeljhodflbgaaDoor
