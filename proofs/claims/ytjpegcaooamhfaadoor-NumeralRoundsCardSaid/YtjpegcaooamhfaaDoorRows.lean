/-
  NARROWER THAN 'FOR EVERY INPUT', by the rows' own cells (each row's printed sentence says how): NumeralTexts: laid · NumeralParses: laid · NumeralScans: laid · NumeralFixes: laid · NumeralBases: laid · NumeralAgrees: laid · NumeralReturns: laid · NumeralWholes: laid · NumeralRounds: laid.
  DERIVED. THE GIVEN ROWS OF THIS SEAT. 9 by the template 'for every input the law returns true; each argument reads behind the call as it read before'; 0 by the template 'total and deterministic' (their statements: YtjpegcaooamhfaaDoorTotals.lean).
  GIVEN WITH THE SEED: the statements are not yours to turn. If you find one false, say at which input.
  Laid BY PROGRAM, IN A SANDBOX (cutbox-rows.mjs): the forced cells as the released guide's own fill.sh prints them over the translation ef30bc23e5b04e06… (all of the seat's roots in one cut). By AI agents, Wed Nov 11 2026. No macro, syntax, notation, axiom, sorry.
-/
import Derived.Test.YtjpegcaooamhfaaDoorChecked
import GoSem.PinnedTables
import GoSem.Claim
import GoSem.ClaimJoined
import GoSem.ClaimMapViews
import Derived.JoinedTies
import Derived.KernelRfl
namespace Go.Proofs.YtjpegcaooamhfaaDoor
/- THE CELL 'sum', in the pinned program and in every row, IS THE sha256 OF THE DUMP (.gsa) THAT YtjpegcaooamhfaaDoorProg.lean LOADS. Nothing in Lean hashes anything: it is a label: what it is worth is what the hold of that sum in a sandbox is worth. -/
noncomputable def Tryd.pinned : Pinned := { name := "ytjpegcaooamhfaadoor", sum := "ef30bc23e5b04e06df971cbb28d6d5b3544caf7889a10fdc53ab1520e9f1d21b", checked := Tryd.checked }
namespace Rows
def none {H : Type} : Left H := { results := [], args := [] }

/- WHAT THE LISTED PACKAGE-LEVEL VARIABLES READ AS WHEN THE CALL BEGINS. Each datum BY PROGRAM (the guide's laid-datum.mjs) off the statement by which the dump's own 'gosem.cut.vars' lays the variable. In a bare row this is a premise. The card (YtjpegcaooamhfaaDoorCards.lean) ties it to the program's text. -/
def laid_math_bits_deBruijn32tab {H : Type} : DataW H := .agg [.lit (.int .u8 0), .lit (.int .u8 1), .lit (.int .u8 28), .lit (.int .u8 2), .lit (.int .u8 29), .lit (.int .u8 14), .lit (.int .u8 24), .lit (.int .u8 3), .lit (.int .u8 30), .lit (.int .u8 22), .lit (.int .u8 20), .lit (.int .u8 15), .lit (.int .u8 25), .lit (.int .u8 17), .lit (.int .u8 4), .lit (.int .u8 8), .lit (.int .u8 31), .lit (.int .u8 27), .lit (.int .u8 13), .lit (.int .u8 23), .lit (.int .u8 21), .lit (.int .u8 19), .lit (.int .u8 16), .lit (.int .u8 7), .lit (.int .u8 26), .lit (.int .u8 12), .lit (.int .u8 18), .lit (.int .u8 6), .lit (.int .u8 11), .lit (.int .u8 5), .lit (.int .u8 10), .lit (.int .u8 9)]
def laid_math_bits_deBruijn64tab {H : Type} : DataW H := .agg [.lit (.int .u8 0), .lit (.int .u8 1), .lit (.int .u8 56), .lit (.int .u8 2), .lit (.int .u8 57), .lit (.int .u8 49), .lit (.int .u8 28), .lit (.int .u8 3), .lit (.int .u8 61), .lit (.int .u8 58), .lit (.int .u8 42), .lit (.int .u8 50), .lit (.int .u8 38), .lit (.int .u8 29), .lit (.int .u8 17), .lit (.int .u8 4), .lit (.int .u8 62), .lit (.int .u8 47), .lit (.int .u8 59), .lit (.int .u8 36), .lit (.int .u8 45), .lit (.int .u8 43), .lit (.int .u8 51), .lit (.int .u8 22), .lit (.int .u8 53), .lit (.int .u8 39), .lit (.int .u8 33), .lit (.int .u8 30), .lit (.int .u8 24), .lit (.int .u8 18), .lit (.int .u8 12), .lit (.int .u8 5), .lit (.int .u8 63), .lit (.int .u8 55), .lit (.int .u8 48), .lit (.int .u8 27), .lit (.int .u8 60), .lit (.int .u8 41), .lit (.int .u8 37), .lit (.int .u8 16), .lit (.int .u8 46), .lit (.int .u8 35), .lit (.int .u8 44), .lit (.int .u8 21), .lit (.int .u8 52), .lit (.int .u8 32), .lit (.int .u8 23), .lit (.int .u8 11), .lit (.int .u8 54), .lit (.int .u8 26), .lit (.int .u8 40), .lit (.int .u8 15), .lit (.int .u8 34), .lit (.int .u8 20), .lit (.int .u8 31), .lit (.int .u8 10), .lit (.int .u8 25), .lit (.int .u8 14), .lit (.int .u8 19), .lit (.int .u8 9), .lit (.int .u8 13), .lit (.int .u8 8), .lit (.int .u8 7), .lit (.int .u8 6)]
def laid_internal_strconv_uint64pow10 {H : Type} : DataW H := .agg [.lit (.int .u64 1), .lit (.int .u64 10), .lit (.int .u64 100), .lit (.int .u64 1000), .lit (.int .u64 10000), .lit (.int .u64 100000), .lit (.int .u64 1000000), .lit (.int .u64 10000000), .lit (.int .u64 100000000), .lit (.int .u64 1000000000), .lit (.int .u64 10000000000), .lit (.int .u64 100000000000), .lit (.int .u64 1000000000000), .lit (.int .u64 10000000000000), .lit (.int .u64 100000000000000), .lit (.int .u64 1000000000000000), .lit (.int .u64 10000000000000000), .lit (.int .u64 100000000000000000), .lit (.int .u64 1000000000000000000), .lit (.int .u64 10000000000000000000)]
def laid_unicode_utf8_acceptRanges {H : Type} : DataW H := .agg [.agg [.lit (.int .u8 128), .lit (.int .u8 191)], .agg [.lit (.int .u8 160), .lit (.int .u8 191)], .agg [.lit (.int .u8 128), .lit (.int .u8 159)], .agg [.lit (.int .u8 144), .lit (.int .u8 191)], .agg [.lit (.int .u8 128), .lit (.int .u8 143)], .agg [.lit (.int .u8 0), .lit (.int .u8 0)], .agg [.lit (.int .u8 0), .lit (.int .u8 0)], .agg [.lit (.int .u8 0), .lit (.int .u8 0)], .agg [.lit (.int .u8 0), .lit (.int .u8 0)], .agg [.lit (.int .u8 0), .lit (.int .u8 0)], .agg [.lit (.int .u8 0), .lit (.int .u8 0)], .agg [.lit (.int .u8 0), .lit (.int .u8 0)], .agg [.lit (.int .u8 0), .lit (.int .u8 0)], .agg [.lit (.int .u8 0), .lit (.int .u8 0)], .agg [.lit (.int .u8 0), .lit (.int .u8 0)], .agg [.lit (.int .u8 0), .lit (.int .u8 0)]]
/-- One of Go's own tables, pinned by name: the form's constant. -/
def laid_unicode_utf8_first : DataW Unit := Go.Pinned.utf8First

/-- 'scriptinglaw02.NumeralTexts': WHATEVER THE INPUT: true; the input reads as it did. -/
def numeralTextsSpec : ChangeSpec := { name := "numeralTexts", fn := fun _ => fun
  | [d] => { results := [.lit (.bool true)], args := [d] }
  | _ => none }
def numeralTextsRow : OpenClaim := { program := "ytjpegcaooamhfaadoor", sum := "ef30bc23e5b04e06df971cbb28d6d5b3544caf7889a10fdc53ab1520e9f1d21b", func := "scripting/scriptinglaw02.NumeralTexts", spec := "numeralTexts", inPlace := ["internal/bytealg.IndexByteString", "internal/bytealg.IndexString"], named := ["internal/strconv.uint64pow10", "math/bits.deBruijn32tab", "math/bits.deBruijn64tab", "unicode/utf8.first", "unicode/utf8.acceptRanges", "internal/bytealg.MaxLen"], apart := false, laid := [("math/bits.deBruijn32tab", laid_math_bits_deBruijn32tab), ("math/bits.deBruijn64tab", laid_math_bits_deBruijn64tab), ("internal/strconv.uint64pow10", laid_internal_strconv_uint64pow10), ("unicode/utf8.acceptRanges", laid_unicode_utf8_acceptRanges), ("unicode/utf8.first", laid_unicode_utf8_first)] }
def NumeralTextsSaid : Prop := numeralTextsRow.holds Tryd.pinned (OpenSpec.ofChange numeralTextsSpec)

/-- ITS FALSE NEIGHBOUR: 'it returns false'. Refute it at one input. -/
def numeralTextsWrong : ChangeSpec := { name := "numeralTexts", fn := fun _ => fun
  | [d] => { results := [.lit (.bool false)], args := [d] }
  | _ => none }
def NumeralTextsWrongFalsely : Prop := numeralTextsRow.holds Tryd.pinned (OpenSpec.ofChange numeralTextsWrong)

/-- 'scriptinglaw02.NumeralParses': WHATEVER THE INPUT: true; the input reads as it did. -/
def numeralParsesSpec : ChangeSpec := { name := "numeralParses", fn := fun _ => fun
  | [d] => { results := [.lit (.bool true)], args := [d] }
  | _ => none }
def numeralParsesRow : OpenClaim := { program := "ytjpegcaooamhfaadoor", sum := "ef30bc23e5b04e06df971cbb28d6d5b3544caf7889a10fdc53ab1520e9f1d21b", func := "scripting/scriptinglaw02.NumeralParses", spec := "numeralParses", inPlace := ["internal/bytealg.IndexByteString", "internal/bytealg.IndexString"], named := ["unicode/utf8.first", "unicode/utf8.acceptRanges", "internal/bytealg.MaxLen", "internal/strconv.uint64pow10", "math/bits.deBruijn32tab", "math/bits.deBruijn64tab"], apart := false, laid := [("math/bits.deBruijn32tab", laid_math_bits_deBruijn32tab), ("math/bits.deBruijn64tab", laid_math_bits_deBruijn64tab), ("internal/strconv.uint64pow10", laid_internal_strconv_uint64pow10), ("unicode/utf8.acceptRanges", laid_unicode_utf8_acceptRanges), ("unicode/utf8.first", laid_unicode_utf8_first)] }
def NumeralParsesSaid : Prop := numeralParsesRow.holds Tryd.pinned (OpenSpec.ofChange numeralParsesSpec)

/-- ITS FALSE NEIGHBOUR: 'it returns false'. Refute it at one input. -/
def numeralParsesWrong : ChangeSpec := { name := "numeralParses", fn := fun _ => fun
  | [d] => { results := [.lit (.bool false)], args := [d] }
  | _ => none }
def NumeralParsesWrongFalsely : Prop := numeralParsesRow.holds Tryd.pinned (OpenSpec.ofChange numeralParsesWrong)

/-- 'scriptinglaw02.NumeralScans': WHATEVER THE INPUT: true; the input reads as it did. -/
def numeralScansSpec : ChangeSpec := { name := "numeralScans", fn := fun _ => fun
  | [d1, d2] => { results := [.lit (.bool true)], args := [d1, d2] }
  | _ => none }
def numeralScansRow : OpenClaim := { program := "ytjpegcaooamhfaadoor", sum := "ef30bc23e5b04e06df971cbb28d6d5b3544caf7889a10fdc53ab1520e9f1d21b", func := "scripting/scriptinglaw02.NumeralScans", spec := "numeralScans", inPlace := ["internal/bytealg.IndexByteString", "internal/bytealg.IndexString"], named := ["unicode/utf8.first", "unicode/utf8.acceptRanges", "internal/bytealg.MaxLen", "internal/strconv.uint64pow10", "math/bits.deBruijn32tab", "math/bits.deBruijn64tab"], apart := false, laid := [("math/bits.deBruijn32tab", laid_math_bits_deBruijn32tab), ("math/bits.deBruijn64tab", laid_math_bits_deBruijn64tab), ("internal/strconv.uint64pow10", laid_internal_strconv_uint64pow10), ("unicode/utf8.acceptRanges", laid_unicode_utf8_acceptRanges), ("unicode/utf8.first", laid_unicode_utf8_first)] }
def NumeralScansSaid : Prop := numeralScansRow.holds Tryd.pinned (OpenSpec.ofChange numeralScansSpec)

/-- ITS FALSE NEIGHBOUR: 'it returns false'. Refute it at one input. -/
def numeralScansWrong : ChangeSpec := { name := "numeralScans", fn := fun _ => fun
  | [d1, d2] => { results := [.lit (.bool false)], args := [d1, d2] }
  | _ => none }
def NumeralScansWrongFalsely : Prop := numeralScansRow.holds Tryd.pinned (OpenSpec.ofChange numeralScansWrong)

/-- 'scriptinglaw02.NumeralFixes': WHATEVER THE INPUT: true; the input reads as it did. -/
def numeralFixesSpec : ChangeSpec := { name := "numeralFixes", fn := fun _ => fun
  | [d1, d2] => { results := [.lit (.bool true)], args := [d1, d2] }
  | _ => none }
def numeralFixesRow : OpenClaim := { program := "ytjpegcaooamhfaadoor", sum := "ef30bc23e5b04e06df971cbb28d6d5b3544caf7889a10fdc53ab1520e9f1d21b", func := "scripting/scriptinglaw02.NumeralFixes", spec := "numeralFixes", inPlace := ["internal/bytealg.IndexByteString", "internal/bytealg.IndexString"], named := ["internal/strconv.uint64pow10", "math/bits.deBruijn32tab", "math/bits.deBruijn64tab", "unicode/utf8.first", "unicode/utf8.acceptRanges", "internal/bytealg.MaxLen"], apart := false, laid := [("math/bits.deBruijn32tab", laid_math_bits_deBruijn32tab), ("math/bits.deBruijn64tab", laid_math_bits_deBruijn64tab), ("internal/strconv.uint64pow10", laid_internal_strconv_uint64pow10), ("unicode/utf8.acceptRanges", laid_unicode_utf8_acceptRanges), ("unicode/utf8.first", laid_unicode_utf8_first)] }
def NumeralFixesSaid : Prop := numeralFixesRow.holds Tryd.pinned (OpenSpec.ofChange numeralFixesSpec)

/-- ITS FALSE NEIGHBOUR: 'it returns false'. Refute it at one input. -/
def numeralFixesWrong : ChangeSpec := { name := "numeralFixes", fn := fun _ => fun
  | [d1, d2] => { results := [.lit (.bool false)], args := [d1, d2] }
  | _ => none }
def NumeralFixesWrongFalsely : Prop := numeralFixesRow.holds Tryd.pinned (OpenSpec.ofChange numeralFixesWrong)

/-- 'scriptinglaw02.NumeralBases': WHATEVER THE INPUT: true; the input reads as it did. -/
def numeralBasesSpec : ChangeSpec := { name := "numeralBases", fn := fun _ => fun
  | [d1, d2] => { results := [.lit (.bool true)], args := [d1, d2] }
  | _ => none }
def numeralBasesRow : OpenClaim := { program := "ytjpegcaooamhfaadoor", sum := "ef30bc23e5b04e06df971cbb28d6d5b3544caf7889a10fdc53ab1520e9f1d21b", func := "scripting/scriptinglaw02.NumeralBases", spec := "numeralBases", inPlace := ["internal/bytealg.IndexByteString", "internal/bytealg.IndexString"], named := ["internal/strconv.uint64pow10", "math/bits.deBruijn32tab", "math/bits.deBruijn64tab", "unicode/utf8.first", "unicode/utf8.acceptRanges", "internal/bytealg.MaxLen"], apart := false, laid := [("math/bits.deBruijn32tab", laid_math_bits_deBruijn32tab), ("math/bits.deBruijn64tab", laid_math_bits_deBruijn64tab), ("internal/strconv.uint64pow10", laid_internal_strconv_uint64pow10), ("unicode/utf8.acceptRanges", laid_unicode_utf8_acceptRanges), ("unicode/utf8.first", laid_unicode_utf8_first)] }
def NumeralBasesSaid : Prop := numeralBasesRow.holds Tryd.pinned (OpenSpec.ofChange numeralBasesSpec)

/-- ITS FALSE NEIGHBOUR: 'it returns false'. Refute it at one input. -/
def numeralBasesWrong : ChangeSpec := { name := "numeralBases", fn := fun _ => fun
  | [d1, d2] => { results := [.lit (.bool false)], args := [d1, d2] }
  | _ => none }
def NumeralBasesWrongFalsely : Prop := numeralBasesRow.holds Tryd.pinned (OpenSpec.ofChange numeralBasesWrong)

/-- 'scriptinglaw02.NumeralAgrees': WHATEVER THE INPUT: true; the input reads as it did. -/
def numeralAgreesSpec : ChangeSpec := { name := "numeralAgrees", fn := fun _ => fun
  | [d1, d2] => { results := [.lit (.bool true)], args := [d1, d2] }
  | _ => none }
def numeralAgreesRow : OpenClaim := { program := "ytjpegcaooamhfaadoor", sum := "ef30bc23e5b04e06df971cbb28d6d5b3544caf7889a10fdc53ab1520e9f1d21b", func := "scripting/scriptinglaw02.NumeralAgrees", spec := "numeralAgrees", inPlace := ["internal/bytealg.IndexByteString", "internal/bytealg.IndexString"], named := ["unicode/utf8.first", "unicode/utf8.acceptRanges", "internal/bytealg.MaxLen", "internal/strconv.uint64pow10", "math/bits.deBruijn32tab", "math/bits.deBruijn64tab"], apart := false, laid := [("math/bits.deBruijn32tab", laid_math_bits_deBruijn32tab), ("math/bits.deBruijn64tab", laid_math_bits_deBruijn64tab), ("internal/strconv.uint64pow10", laid_internal_strconv_uint64pow10), ("unicode/utf8.acceptRanges", laid_unicode_utf8_acceptRanges), ("unicode/utf8.first", laid_unicode_utf8_first)] }
def NumeralAgreesSaid : Prop := numeralAgreesRow.holds Tryd.pinned (OpenSpec.ofChange numeralAgreesSpec)

/-- ITS FALSE NEIGHBOUR: 'it returns false'. Refute it at one input. -/
def numeralAgreesWrong : ChangeSpec := { name := "numeralAgrees", fn := fun _ => fun
  | [d1, d2] => { results := [.lit (.bool false)], args := [d1, d2] }
  | _ => none }
def NumeralAgreesWrongFalsely : Prop := numeralAgreesRow.holds Tryd.pinned (OpenSpec.ofChange numeralAgreesWrong)

/-- 'scriptinglaw02.NumeralReturns': WHATEVER THE INPUT: true; the input reads as it did. -/
def numeralReturnsSpec : ChangeSpec := { name := "numeralReturns", fn := fun _ => fun
  | [d] => { results := [.lit (.bool true)], args := [d] }
  | _ => none }
def numeralReturnsRow : OpenClaim := { program := "ytjpegcaooamhfaadoor", sum := "ef30bc23e5b04e06df971cbb28d6d5b3544caf7889a10fdc53ab1520e9f1d21b", func := "scripting/scriptinglaw02.NumeralReturns", spec := "numeralReturns", inPlace := ["internal/bytealg.IndexByteString", "internal/bytealg.IndexString"], named := ["internal/strconv.uint64pow10", "math/bits.deBruijn32tab", "math/bits.deBruijn64tab", "unicode/utf8.first", "unicode/utf8.acceptRanges", "internal/bytealg.MaxLen"], apart := false, laid := [("math/bits.deBruijn32tab", laid_math_bits_deBruijn32tab), ("math/bits.deBruijn64tab", laid_math_bits_deBruijn64tab), ("internal/strconv.uint64pow10", laid_internal_strconv_uint64pow10), ("unicode/utf8.acceptRanges", laid_unicode_utf8_acceptRanges), ("unicode/utf8.first", laid_unicode_utf8_first)] }
def NumeralReturnsSaid : Prop := numeralReturnsRow.holds Tryd.pinned (OpenSpec.ofChange numeralReturnsSpec)

/-- ITS FALSE NEIGHBOUR: 'it returns false'. Refute it at one input. -/
def numeralReturnsWrong : ChangeSpec := { name := "numeralReturns", fn := fun _ => fun
  | [d] => { results := [.lit (.bool false)], args := [d] }
  | _ => none }
def NumeralReturnsWrongFalsely : Prop := numeralReturnsRow.holds Tryd.pinned (OpenSpec.ofChange numeralReturnsWrong)

/-- 'scriptinglaw02.NumeralWholes': WHATEVER THE INPUT: true; the input reads as it did. -/
def numeralWholesSpec : ChangeSpec := { name := "numeralWholes", fn := fun _ => fun
  | [d] => { results := [.lit (.bool true)], args := [d] }
  | _ => none }
def numeralWholesRow : OpenClaim := { program := "ytjpegcaooamhfaadoor", sum := "ef30bc23e5b04e06df971cbb28d6d5b3544caf7889a10fdc53ab1520e9f1d21b", func := "scripting/scriptinglaw02.NumeralWholes", spec := "numeralWholes", inPlace := ["internal/bytealg.IndexByteString", "internal/bytealg.IndexString"], named := ["unicode/utf8.first", "unicode/utf8.acceptRanges", "internal/bytealg.MaxLen", "internal/strconv.uint64pow10", "math/bits.deBruijn32tab", "math/bits.deBruijn64tab"], apart := false, laid := [("math/bits.deBruijn32tab", laid_math_bits_deBruijn32tab), ("math/bits.deBruijn64tab", laid_math_bits_deBruijn64tab), ("internal/strconv.uint64pow10", laid_internal_strconv_uint64pow10), ("unicode/utf8.acceptRanges", laid_unicode_utf8_acceptRanges), ("unicode/utf8.first", laid_unicode_utf8_first)] }
def NumeralWholesSaid : Prop := numeralWholesRow.holds Tryd.pinned (OpenSpec.ofChange numeralWholesSpec)

/-- ITS FALSE NEIGHBOUR: 'it returns false'. Refute it at one input. -/
def numeralWholesWrong : ChangeSpec := { name := "numeralWholes", fn := fun _ => fun
  | [d] => { results := [.lit (.bool false)], args := [d] }
  | _ => none }
def NumeralWholesWrongFalsely : Prop := numeralWholesRow.holds Tryd.pinned (OpenSpec.ofChange numeralWholesWrong)

/-- 'scriptinglaw02.NumeralRounds': WHATEVER THE INPUT: true; the input reads as it did. -/
def numeralRoundsSpec : ChangeSpec := { name := "numeralRounds", fn := fun _ => fun
  | [d1, d2] => { results := [.lit (.bool true)], args := [d1, d2] }
  | _ => none }
def numeralRoundsRow : OpenClaim := { program := "ytjpegcaooamhfaadoor", sum := "ef30bc23e5b04e06df971cbb28d6d5b3544caf7889a10fdc53ab1520e9f1d21b", func := "scripting/scriptinglaw02.NumeralRounds", spec := "numeralRounds", inPlace := ["internal/bytealg.IndexByteString", "internal/bytealg.IndexString"], unfollowed := true, recurses := true, named := ["internal/strconv.uint64pow10", "math/bits.deBruijn32tab", "math/bits.deBruijn64tab", "unicode/utf8.first", "unicode/utf8.acceptRanges", "internal/bytealg.MaxLen"], apart := false, laid := [("math/bits.deBruijn32tab", laid_math_bits_deBruijn32tab), ("math/bits.deBruijn64tab", laid_math_bits_deBruijn64tab), ("internal/strconv.uint64pow10", laid_internal_strconv_uint64pow10), ("unicode/utf8.acceptRanges", laid_unicode_utf8_acceptRanges), ("unicode/utf8.first", laid_unicode_utf8_first)] }
def NumeralRoundsSaid : Prop := numeralRoundsRow.holds Tryd.pinned (OpenSpec.ofChange numeralRoundsSpec)

/-- ITS FALSE NEIGHBOUR: 'it returns false'. Refute it at one input. -/
def numeralRoundsWrong : ChangeSpec := { name := "numeralRounds", fn := fun _ => fun
  | [d1, d2] => { results := [.lit (.bool false)], args := [d1, d2] }
  | _ => none }
def NumeralRoundsWrongFalsely : Prop := numeralRoundsRow.holds Tryd.pinned (OpenSpec.ofChange numeralRoundsWrong)

/- THE SECOND FORM. 'bulk': how many values and letters a reading holds, each counted each time it is reached (what is shared counts as often as it is met; a slice's spare places count too). A statement '..UptoSaid' is the law's where the arguments, and the package variables that the reading takes, are together of bulk at most 1048576: NARROWER than '..Said'. Prove '..Said' where nothing that the law and all that it calls make is longer than what came in: it says more and counts as full. Else prove '..UptoSaid'. A law counts once. -/
mutual
def uptoBulk {H : Type} : DataW H → Nat
  | .lit (.string bytes) => bytes.length + 1
  | .lit _ => 1
  | .nil => 1
  | .ptr d => uptoBulk d + 1
  | .slice elems spare => uptoBulkAll elems + uptoBulkAll spare + 1
  | .agg parts => uptoBulkAll parts + 1
  | .iface _ d => uptoBulk d + 1
  | .map entries => uptoBulkEntries entries + 1
  | .held _ => 1
def uptoBulkAll {H : Type} : List (DataW H) → Nat
  | [] => 0
  | d :: r => uptoBulk d + uptoBulkAll r
def uptoBulkEntries {H : Type} : List (Lit × DataW H) → Nat
  | [] => 0
  | x :: r => uptoBulkEntry x + uptoBulkEntries r
def uptoBulkEntry {H : Type} : Lit × DataW H → Nat
  | (.string bytes, d) => bytes.length + uptoBulk d + 1
  | (_, d) => uptoBulk d + 1
 end
def uptoSmall : (H : Type) → List (DataW H) → Bool := fun _ ds => decide (uptoBulkAll ds ≤ 1048576)
def OpenSpec.upto (s : _root_.Go.ChangeSpec) : _root_.Go.OpenSpec := { _root_.Go.OpenSpec.ofChange s with cond := some uptoSmall }

/-- 'scriptinglaw02.NumeralTexts', WHERE WHAT IT READS IS OF BULK AT MOST 1048576: true; the input reads as it did. -/
def numeralTextsUptoRow : OpenClaim := { program := "ytjpegcaooamhfaadoor", sum := "ef30bc23e5b04e06df971cbb28d6d5b3544caf7889a10fdc53ab1520e9f1d21b", func := "scripting/scriptinglaw02.NumeralTexts", spec := "numeralTexts", inPlace := ["internal/bytealg.IndexByteString", "internal/bytealg.IndexString"], named := ["internal/strconv.uint64pow10", "math/bits.deBruijn32tab", "math/bits.deBruijn64tab", "unicode/utf8.first", "unicode/utf8.acceptRanges", "internal/bytealg.MaxLen"], apart := false, laid := [("math/bits.deBruijn32tab", laid_math_bits_deBruijn32tab), ("math/bits.deBruijn64tab", laid_math_bits_deBruijn64tab), ("internal/strconv.uint64pow10", laid_internal_strconv_uint64pow10), ("unicode/utf8.acceptRanges", laid_unicode_utf8_acceptRanges), ("unicode/utf8.first", laid_unicode_utf8_first)], narrowed := true }
def NumeralTextsUptoSaid : Prop := numeralTextsUptoRow.holds Tryd.pinned (OpenSpec.upto numeralTextsSpec)

/-- 'scriptinglaw02.NumeralParses', WHERE WHAT IT READS IS OF BULK AT MOST 1048576: true; the input reads as it did. -/
def numeralParsesUptoRow : OpenClaim := { program := "ytjpegcaooamhfaadoor", sum := "ef30bc23e5b04e06df971cbb28d6d5b3544caf7889a10fdc53ab1520e9f1d21b", func := "scripting/scriptinglaw02.NumeralParses", spec := "numeralParses", inPlace := ["internal/bytealg.IndexByteString", "internal/bytealg.IndexString"], named := ["unicode/utf8.first", "unicode/utf8.acceptRanges", "internal/bytealg.MaxLen", "internal/strconv.uint64pow10", "math/bits.deBruijn32tab", "math/bits.deBruijn64tab"], apart := false, laid := [("math/bits.deBruijn32tab", laid_math_bits_deBruijn32tab), ("math/bits.deBruijn64tab", laid_math_bits_deBruijn64tab), ("internal/strconv.uint64pow10", laid_internal_strconv_uint64pow10), ("unicode/utf8.acceptRanges", laid_unicode_utf8_acceptRanges), ("unicode/utf8.first", laid_unicode_utf8_first)], narrowed := true }
def NumeralParsesUptoSaid : Prop := numeralParsesUptoRow.holds Tryd.pinned (OpenSpec.upto numeralParsesSpec)

/-- 'scriptinglaw02.NumeralScans', WHERE WHAT IT READS IS OF BULK AT MOST 1048576: true; the input reads as it did. -/
def numeralScansUptoRow : OpenClaim := { program := "ytjpegcaooamhfaadoor", sum := "ef30bc23e5b04e06df971cbb28d6d5b3544caf7889a10fdc53ab1520e9f1d21b", func := "scripting/scriptinglaw02.NumeralScans", spec := "numeralScans", inPlace := ["internal/bytealg.IndexByteString", "internal/bytealg.IndexString"], named := ["unicode/utf8.first", "unicode/utf8.acceptRanges", "internal/bytealg.MaxLen", "internal/strconv.uint64pow10", "math/bits.deBruijn32tab", "math/bits.deBruijn64tab"], apart := false, laid := [("math/bits.deBruijn32tab", laid_math_bits_deBruijn32tab), ("math/bits.deBruijn64tab", laid_math_bits_deBruijn64tab), ("internal/strconv.uint64pow10", laid_internal_strconv_uint64pow10), ("unicode/utf8.acceptRanges", laid_unicode_utf8_acceptRanges), ("unicode/utf8.first", laid_unicode_utf8_first)], narrowed := true }
def NumeralScansUptoSaid : Prop := numeralScansUptoRow.holds Tryd.pinned (OpenSpec.upto numeralScansSpec)

/-- 'scriptinglaw02.NumeralFixes', WHERE WHAT IT READS IS OF BULK AT MOST 1048576: true; the input reads as it did. -/
def numeralFixesUptoRow : OpenClaim := { program := "ytjpegcaooamhfaadoor", sum := "ef30bc23e5b04e06df971cbb28d6d5b3544caf7889a10fdc53ab1520e9f1d21b", func := "scripting/scriptinglaw02.NumeralFixes", spec := "numeralFixes", inPlace := ["internal/bytealg.IndexByteString", "internal/bytealg.IndexString"], named := ["internal/strconv.uint64pow10", "math/bits.deBruijn32tab", "math/bits.deBruijn64tab", "unicode/utf8.first", "unicode/utf8.acceptRanges", "internal/bytealg.MaxLen"], apart := false, laid := [("math/bits.deBruijn32tab", laid_math_bits_deBruijn32tab), ("math/bits.deBruijn64tab", laid_math_bits_deBruijn64tab), ("internal/strconv.uint64pow10", laid_internal_strconv_uint64pow10), ("unicode/utf8.acceptRanges", laid_unicode_utf8_acceptRanges), ("unicode/utf8.first", laid_unicode_utf8_first)], narrowed := true }
def NumeralFixesUptoSaid : Prop := numeralFixesUptoRow.holds Tryd.pinned (OpenSpec.upto numeralFixesSpec)

/-- 'scriptinglaw02.NumeralBases', WHERE WHAT IT READS IS OF BULK AT MOST 1048576: true; the input reads as it did. -/
def numeralBasesUptoRow : OpenClaim := { program := "ytjpegcaooamhfaadoor", sum := "ef30bc23e5b04e06df971cbb28d6d5b3544caf7889a10fdc53ab1520e9f1d21b", func := "scripting/scriptinglaw02.NumeralBases", spec := "numeralBases", inPlace := ["internal/bytealg.IndexByteString", "internal/bytealg.IndexString"], named := ["internal/strconv.uint64pow10", "math/bits.deBruijn32tab", "math/bits.deBruijn64tab", "unicode/utf8.first", "unicode/utf8.acceptRanges", "internal/bytealg.MaxLen"], apart := false, laid := [("math/bits.deBruijn32tab", laid_math_bits_deBruijn32tab), ("math/bits.deBruijn64tab", laid_math_bits_deBruijn64tab), ("internal/strconv.uint64pow10", laid_internal_strconv_uint64pow10), ("unicode/utf8.acceptRanges", laid_unicode_utf8_acceptRanges), ("unicode/utf8.first", laid_unicode_utf8_first)], narrowed := true }
def NumeralBasesUptoSaid : Prop := numeralBasesUptoRow.holds Tryd.pinned (OpenSpec.upto numeralBasesSpec)

/-- 'scriptinglaw02.NumeralAgrees', WHERE WHAT IT READS IS OF BULK AT MOST 1048576: true; the input reads as it did. -/
def numeralAgreesUptoRow : OpenClaim := { program := "ytjpegcaooamhfaadoor", sum := "ef30bc23e5b04e06df971cbb28d6d5b3544caf7889a10fdc53ab1520e9f1d21b", func := "scripting/scriptinglaw02.NumeralAgrees", spec := "numeralAgrees", inPlace := ["internal/bytealg.IndexByteString", "internal/bytealg.IndexString"], named := ["unicode/utf8.first", "unicode/utf8.acceptRanges", "internal/bytealg.MaxLen", "internal/strconv.uint64pow10", "math/bits.deBruijn32tab", "math/bits.deBruijn64tab"], apart := false, laid := [("math/bits.deBruijn32tab", laid_math_bits_deBruijn32tab), ("math/bits.deBruijn64tab", laid_math_bits_deBruijn64tab), ("internal/strconv.uint64pow10", laid_internal_strconv_uint64pow10), ("unicode/utf8.acceptRanges", laid_unicode_utf8_acceptRanges), ("unicode/utf8.first", laid_unicode_utf8_first)], narrowed := true }
def NumeralAgreesUptoSaid : Prop := numeralAgreesUptoRow.holds Tryd.pinned (OpenSpec.upto numeralAgreesSpec)

/-- 'scriptinglaw02.NumeralReturns', WHERE WHAT IT READS IS OF BULK AT MOST 1048576: true; the input reads as it did. -/
def numeralReturnsUptoRow : OpenClaim := { program := "ytjpegcaooamhfaadoor", sum := "ef30bc23e5b04e06df971cbb28d6d5b3544caf7889a10fdc53ab1520e9f1d21b", func := "scripting/scriptinglaw02.NumeralReturns", spec := "numeralReturns", inPlace := ["internal/bytealg.IndexByteString", "internal/bytealg.IndexString"], named := ["internal/strconv.uint64pow10", "math/bits.deBruijn32tab", "math/bits.deBruijn64tab", "unicode/utf8.first", "unicode/utf8.acceptRanges", "internal/bytealg.MaxLen"], apart := false, laid := [("math/bits.deBruijn32tab", laid_math_bits_deBruijn32tab), ("math/bits.deBruijn64tab", laid_math_bits_deBruijn64tab), ("internal/strconv.uint64pow10", laid_internal_strconv_uint64pow10), ("unicode/utf8.acceptRanges", laid_unicode_utf8_acceptRanges), ("unicode/utf8.first", laid_unicode_utf8_first)], narrowed := true }
def NumeralReturnsUptoSaid : Prop := numeralReturnsUptoRow.holds Tryd.pinned (OpenSpec.upto numeralReturnsSpec)

/-- 'scriptinglaw02.NumeralWholes', WHERE WHAT IT READS IS OF BULK AT MOST 1048576: true; the input reads as it did. -/
def numeralWholesUptoRow : OpenClaim := { program := "ytjpegcaooamhfaadoor", sum := "ef30bc23e5b04e06df971cbb28d6d5b3544caf7889a10fdc53ab1520e9f1d21b", func := "scripting/scriptinglaw02.NumeralWholes", spec := "numeralWholes", inPlace := ["internal/bytealg.IndexByteString", "internal/bytealg.IndexString"], named := ["unicode/utf8.first", "unicode/utf8.acceptRanges", "internal/bytealg.MaxLen", "internal/strconv.uint64pow10", "math/bits.deBruijn32tab", "math/bits.deBruijn64tab"], apart := false, laid := [("math/bits.deBruijn32tab", laid_math_bits_deBruijn32tab), ("math/bits.deBruijn64tab", laid_math_bits_deBruijn64tab), ("internal/strconv.uint64pow10", laid_internal_strconv_uint64pow10), ("unicode/utf8.acceptRanges", laid_unicode_utf8_acceptRanges), ("unicode/utf8.first", laid_unicode_utf8_first)], narrowed := true }
def NumeralWholesUptoSaid : Prop := numeralWholesUptoRow.holds Tryd.pinned (OpenSpec.upto numeralWholesSpec)

/-- 'scriptinglaw02.NumeralRounds', WHERE WHAT IT READS IS OF BULK AT MOST 1048576: true; the input reads as it did. -/
def numeralRoundsUptoRow : OpenClaim := { program := "ytjpegcaooamhfaadoor", sum := "ef30bc23e5b04e06df971cbb28d6d5b3544caf7889a10fdc53ab1520e9f1d21b", func := "scripting/scriptinglaw02.NumeralRounds", spec := "numeralRounds", inPlace := ["internal/bytealg.IndexByteString", "internal/bytealg.IndexString"], unfollowed := true, recurses := true, named := ["internal/strconv.uint64pow10", "math/bits.deBruijn32tab", "math/bits.deBruijn64tab", "unicode/utf8.first", "unicode/utf8.acceptRanges", "internal/bytealg.MaxLen"], apart := false, laid := [("math/bits.deBruijn32tab", laid_math_bits_deBruijn32tab), ("math/bits.deBruijn64tab", laid_math_bits_deBruijn64tab), ("internal/strconv.uint64pow10", laid_internal_strconv_uint64pow10), ("unicode/utf8.acceptRanges", laid_unicode_utf8_acceptRanges), ("unicode/utf8.first", laid_unicode_utf8_first)], narrowed := true }
def NumeralRoundsUptoSaid : Prop := numeralRoundsUptoRow.holds Tryd.pinned (OpenSpec.upto numeralRoundsSpec)

end Rows
end Go.Proofs.YtjpegcaooamhfaaDoor
