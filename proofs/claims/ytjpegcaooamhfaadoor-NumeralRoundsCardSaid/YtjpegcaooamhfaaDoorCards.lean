/-
  DERIVED. GIVEN WITH THE SEED: THE CARDS: each row of YtjpegcaooamhfaaDoorRows.lean that lists a variable, with what it lists TIED to the program's text (the seventh form; the later family's looks); each row that meets fmt, with fmt's text TOLD by the authors' own Lean function (tested against real Go, not proved from fmt's source: count such statements apart). THE CARD IS WHAT COUNTS. Prove the row's statement (the work); the ties are given (YtjpegcaooamhfaaDoorTie.lean); close each card by the builder's one call (the guide's Derived/Test/ToyasCard.lean, 'card_holds'). Laid BY PROGRAM, IN A SANDBOX (cutbox-door.mjs). By AI agents, Wed Nov 11 2026. No macro, syntax, notation, axiom, sorry.
-/
import Derived.Test.YtjpegcaooamhfaaDoorRows
import GoSem.ClaimSeven
namespace Go.Proofs.YtjpegcaooamhfaaDoor
namespace Rows

/-- THE TIED CARD OF 'scriptinglaw02.NumeralTexts'. -/
def numeralTextsCard : Claim7 := { stood := { row := numeralTextsRow, standIns := [], harness := (true, "c2689cb081b065feaaba05fba512bf6fac55aed7edb92efd0036668d478ad54f"), looks := false }, kinds := [], alts := [], laidByText := true, laidKinds := [.data, .data, .data, .data, .pinned], laidTests := true, laidLooks := .later }
def NumeralTextsCardSaid : Prop := Claim7.holds Tryd.pinned (.plain (OpenSpec.ofChange numeralTextsSpec)) numeralTextsCard

/-- THE TIED CARD OF 'scriptinglaw02.NumeralParses'. -/
def numeralParsesCard : Claim7 := { stood := { row := numeralParsesRow, standIns := [], harness := (true, "c2689cb081b065feaaba05fba512bf6fac55aed7edb92efd0036668d478ad54f"), looks := false }, kinds := [], alts := [], laidByText := true, laidKinds := [.data, .data, .data, .data, .pinned], laidTests := true, laidLooks := .later }
def NumeralParsesCardSaid : Prop := Claim7.holds Tryd.pinned (.plain (OpenSpec.ofChange numeralParsesSpec)) numeralParsesCard

/-- THE TIED CARD OF 'scriptinglaw02.NumeralScans'. -/
def numeralScansCard : Claim7 := { stood := { row := numeralScansRow, standIns := [], harness := (true, "c2689cb081b065feaaba05fba512bf6fac55aed7edb92efd0036668d478ad54f"), looks := false }, kinds := [], alts := [], laidByText := true, laidKinds := [.data, .data, .data, .data, .pinned], laidTests := true, laidLooks := .later }
def NumeralScansCardSaid : Prop := Claim7.holds Tryd.pinned (.plain (OpenSpec.ofChange numeralScansSpec)) numeralScansCard

/-- THE TIED CARD OF 'scriptinglaw02.NumeralFixes'. -/
def numeralFixesCard : Claim7 := { stood := { row := numeralFixesRow, standIns := [], harness := (true, "c2689cb081b065feaaba05fba512bf6fac55aed7edb92efd0036668d478ad54f"), looks := false }, kinds := [], alts := [], laidByText := true, laidKinds := [.data, .data, .data, .data, .pinned], laidTests := true, laidLooks := .later }
def NumeralFixesCardSaid : Prop := Claim7.holds Tryd.pinned (.plain (OpenSpec.ofChange numeralFixesSpec)) numeralFixesCard

/-- THE TIED CARD OF 'scriptinglaw02.NumeralBases'. -/
def numeralBasesCard : Claim7 := { stood := { row := numeralBasesRow, standIns := [], harness := (true, "c2689cb081b065feaaba05fba512bf6fac55aed7edb92efd0036668d478ad54f"), looks := false }, kinds := [], alts := [], laidByText := true, laidKinds := [.data, .data, .data, .data, .pinned], laidTests := true, laidLooks := .later }
def NumeralBasesCardSaid : Prop := Claim7.holds Tryd.pinned (.plain (OpenSpec.ofChange numeralBasesSpec)) numeralBasesCard

/-- THE TIED CARD OF 'scriptinglaw02.NumeralAgrees'. -/
def numeralAgreesCard : Claim7 := { stood := { row := numeralAgreesRow, standIns := [], harness := (true, "c2689cb081b065feaaba05fba512bf6fac55aed7edb92efd0036668d478ad54f"), looks := false }, kinds := [], alts := [], laidByText := true, laidKinds := [.data, .data, .data, .data, .pinned], laidTests := true, laidLooks := .later }
def NumeralAgreesCardSaid : Prop := Claim7.holds Tryd.pinned (.plain (OpenSpec.ofChange numeralAgreesSpec)) numeralAgreesCard

/-- THE TIED CARD OF 'scriptinglaw02.NumeralReturns'. -/
def numeralReturnsCard : Claim7 := { stood := { row := numeralReturnsRow, standIns := [], harness := (true, "c2689cb081b065feaaba05fba512bf6fac55aed7edb92efd0036668d478ad54f"), looks := false }, kinds := [], alts := [], laidByText := true, laidKinds := [.data, .data, .data, .data, .pinned], laidTests := true, laidLooks := .later }
def NumeralReturnsCardSaid : Prop := Claim7.holds Tryd.pinned (.plain (OpenSpec.ofChange numeralReturnsSpec)) numeralReturnsCard

/-- THE TIED CARD OF 'scriptinglaw02.NumeralWholes'. -/
def numeralWholesCard : Claim7 := { stood := { row := numeralWholesRow, standIns := [], harness := (true, "c2689cb081b065feaaba05fba512bf6fac55aed7edb92efd0036668d478ad54f"), looks := false }, kinds := [], alts := [], laidByText := true, laidKinds := [.data, .data, .data, .data, .pinned], laidTests := true, laidLooks := .later }
def NumeralWholesCardSaid : Prop := Claim7.holds Tryd.pinned (.plain (OpenSpec.ofChange numeralWholesSpec)) numeralWholesCard

/-- THE TIED CARD OF 'scriptinglaw02.NumeralRounds'. -/
def numeralRoundsCard : Claim7 := { stood := { row := numeralRoundsRow, standIns := [], harness := (true, "c2689cb081b065feaaba05fba512bf6fac55aed7edb92efd0036668d478ad54f"), looks := false }, kinds := [], alts := [], laidByText := true, laidKinds := [.data, .data, .data, .data, .pinned], laidTests := true, laidLooks := .later }
def NumeralRoundsCardSaid : Prop := Claim7.holds Tryd.pinned (.plain (OpenSpec.ofChange numeralRoundsSpec)) numeralRoundsCard

/-- THE SECOND FORM's CARD OF 'scriptinglaw02.NumeralTexts'. -/
def numeralTextsUptoCard : Claim7 := { stood := { row := numeralTextsUptoRow, standIns := [], harness := (true, "c2689cb081b065feaaba05fba512bf6fac55aed7edb92efd0036668d478ad54f"), looks := false }, kinds := [], alts := [], laidByText := true, laidKinds := [.data, .data, .data, .data, .pinned], laidTests := true, laidLooks := .later }
def NumeralTextsUptoCardSaid : Prop := Claim7.holds Tryd.pinned (.plain (OpenSpec.upto numeralTextsSpec)) numeralTextsUptoCard

/-- THE SECOND FORM's CARD OF 'scriptinglaw02.NumeralParses'. -/
def numeralParsesUptoCard : Claim7 := { stood := { row := numeralParsesUptoRow, standIns := [], harness := (true, "c2689cb081b065feaaba05fba512bf6fac55aed7edb92efd0036668d478ad54f"), looks := false }, kinds := [], alts := [], laidByText := true, laidKinds := [.data, .data, .data, .data, .pinned], laidTests := true, laidLooks := .later }
def NumeralParsesUptoCardSaid : Prop := Claim7.holds Tryd.pinned (.plain (OpenSpec.upto numeralParsesSpec)) numeralParsesUptoCard

/-- THE SECOND FORM's CARD OF 'scriptinglaw02.NumeralScans'. -/
def numeralScansUptoCard : Claim7 := { stood := { row := numeralScansUptoRow, standIns := [], harness := (true, "c2689cb081b065feaaba05fba512bf6fac55aed7edb92efd0036668d478ad54f"), looks := false }, kinds := [], alts := [], laidByText := true, laidKinds := [.data, .data, .data, .data, .pinned], laidTests := true, laidLooks := .later }
def NumeralScansUptoCardSaid : Prop := Claim7.holds Tryd.pinned (.plain (OpenSpec.upto numeralScansSpec)) numeralScansUptoCard

/-- THE SECOND FORM's CARD OF 'scriptinglaw02.NumeralFixes'. -/
def numeralFixesUptoCard : Claim7 := { stood := { row := numeralFixesUptoRow, standIns := [], harness := (true, "c2689cb081b065feaaba05fba512bf6fac55aed7edb92efd0036668d478ad54f"), looks := false }, kinds := [], alts := [], laidByText := true, laidKinds := [.data, .data, .data, .data, .pinned], laidTests := true, laidLooks := .later }
def NumeralFixesUptoCardSaid : Prop := Claim7.holds Tryd.pinned (.plain (OpenSpec.upto numeralFixesSpec)) numeralFixesUptoCard

/-- THE SECOND FORM's CARD OF 'scriptinglaw02.NumeralBases'. -/
def numeralBasesUptoCard : Claim7 := { stood := { row := numeralBasesUptoRow, standIns := [], harness := (true, "c2689cb081b065feaaba05fba512bf6fac55aed7edb92efd0036668d478ad54f"), looks := false }, kinds := [], alts := [], laidByText := true, laidKinds := [.data, .data, .data, .data, .pinned], laidTests := true, laidLooks := .later }
def NumeralBasesUptoCardSaid : Prop := Claim7.holds Tryd.pinned (.plain (OpenSpec.upto numeralBasesSpec)) numeralBasesUptoCard

/-- THE SECOND FORM's CARD OF 'scriptinglaw02.NumeralAgrees'. -/
def numeralAgreesUptoCard : Claim7 := { stood := { row := numeralAgreesUptoRow, standIns := [], harness := (true, "c2689cb081b065feaaba05fba512bf6fac55aed7edb92efd0036668d478ad54f"), looks := false }, kinds := [], alts := [], laidByText := true, laidKinds := [.data, .data, .data, .data, .pinned], laidTests := true, laidLooks := .later }
def NumeralAgreesUptoCardSaid : Prop := Claim7.holds Tryd.pinned (.plain (OpenSpec.upto numeralAgreesSpec)) numeralAgreesUptoCard

/-- THE SECOND FORM's CARD OF 'scriptinglaw02.NumeralReturns'. -/
def numeralReturnsUptoCard : Claim7 := { stood := { row := numeralReturnsUptoRow, standIns := [], harness := (true, "c2689cb081b065feaaba05fba512bf6fac55aed7edb92efd0036668d478ad54f"), looks := false }, kinds := [], alts := [], laidByText := true, laidKinds := [.data, .data, .data, .data, .pinned], laidTests := true, laidLooks := .later }
def NumeralReturnsUptoCardSaid : Prop := Claim7.holds Tryd.pinned (.plain (OpenSpec.upto numeralReturnsSpec)) numeralReturnsUptoCard

/-- THE SECOND FORM's CARD OF 'scriptinglaw02.NumeralWholes'. -/
def numeralWholesUptoCard : Claim7 := { stood := { row := numeralWholesUptoRow, standIns := [], harness := (true, "c2689cb081b065feaaba05fba512bf6fac55aed7edb92efd0036668d478ad54f"), looks := false }, kinds := [], alts := [], laidByText := true, laidKinds := [.data, .data, .data, .data, .pinned], laidTests := true, laidLooks := .later }
def NumeralWholesUptoCardSaid : Prop := Claim7.holds Tryd.pinned (.plain (OpenSpec.upto numeralWholesSpec)) numeralWholesUptoCard

/-- THE SECOND FORM's CARD OF 'scriptinglaw02.NumeralRounds'. -/
def numeralRoundsUptoCard : Claim7 := { stood := { row := numeralRoundsUptoRow, standIns := [], harness := (true, "c2689cb081b065feaaba05fba512bf6fac55aed7edb92efd0036668d478ad54f"), looks := false }, kinds := [], alts := [], laidByText := true, laidKinds := [.data, .data, .data, .data, .pinned], laidTests := true, laidLooks := .later }
def NumeralRoundsUptoCardSaid : Prop := Claim7.holds Tryd.pinned (.plain (OpenSpec.upto numeralRoundsSpec)) numeralRoundsUptoCard
end Rows
end Go.Proofs.YtjpegcaooamhfaaDoor
