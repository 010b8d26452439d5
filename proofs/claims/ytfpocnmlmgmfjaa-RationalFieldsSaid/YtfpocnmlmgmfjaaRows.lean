/-
  No cell of these rows narrows 'for every input' (looked for: loops, veiled, ifaces, maps, wideKeys, modest, calm, conditions, laid).
  DERIVED. THE GIVEN ROWS OF THIS SEAT. 11 by the template 'for every input the law returns true; each argument reads behind the call as it read before'; 0 by the template 'total and deterministic' (their statements: YtfpocnmlmgmfjaaTotals.lean).
  GIVEN WITH THE SEED: the statements are not yours to turn. If you find one false, say at which input.
  Laid BY PROGRAM, IN A SANDBOX (cutbox-rows.mjs): the forced cells as the released guide's own fill.sh prints them over the translation aa8ab2288969e537… (all of the seat's roots in one cut). By AI agents, Wed Nov 11 2026. No macro, syntax, notation, axiom, sorry.
-/
import Derived.Test.YtfpocnmlmgmfjaaChecked
import GoSem.Claim
import GoSem.ClaimJoined
import GoSem.ClaimMapViews
import Derived.JoinedTies
import Derived.KernelRfl
namespace Go.Proofs.Ytfpocnmlmgmfjaa
/- THE CELL 'sum', in the pinned program and in every row, IS THE sha256 OF THE DUMP (.gsa) THAT YtfpocnmlmgmfjaaProg.lean LOADS. Nothing in Lean hashes anything: it is a label: what it is worth is what the hold of that sum in a sandbox is worth. -/
noncomputable def Try.pinned : Pinned := { name := "ytfpocnmlmgmfjaa", sum := "aa8ab2288969e5370a37916527b286d37e6d2b6027e3ecb60c19cbf1ab89c937", checked := Try.checked }
namespace Rows
def none {H : Type} : Left H := { results := [], args := [] }

/-- 'scriptinglaw01.RationalMakes': WHATEVER THE INPUT: true; the input reads as it did. -/
def rationalMakesSpec : ChangeSpec := { name := "rationalMakes", fn := fun _ => fun
  | [d1, d2, d3] => { results := [.lit (.bool true)], args := [d1, d2, d3] }
  | _ => none }
def rationalMakesRow : OpenClaim := { program := "ytfpocnmlmgmfjaa", sum := "aa8ab2288969e5370a37916527b286d37e6d2b6027e3ecb60c19cbf1ab89c937", func := "scripting/scriptinglaw01.RationalMakes", spec := "rationalMakes", unfollowed := true, recurses := true, apart := false }
def RationalMakesSaid : Prop := rationalMakesRow.holds Try.pinned (OpenSpec.ofChange rationalMakesSpec)

/-- ITS FALSE NEIGHBOUR: 'it returns false'. Refute it at one input. -/
def rationalMakesWrong : ChangeSpec := { name := "rationalMakes", fn := fun _ => fun
  | [d1, d2, d3] => { results := [.lit (.bool false)], args := [d1, d2, d3] }
  | _ => none }
def RationalMakesWrongFalsely : Prop := rationalMakesRow.holds Try.pinned (OpenSpec.ofChange rationalMakesWrong)

/-- 'scriptinglaw01.RationalPowers': WHATEVER THE INPUT: true; the input reads as it did. -/
def rationalPowersSpec : ChangeSpec := { name := "rationalPowers", fn := fun _ => fun
  | [d1, d2] => { results := [.lit (.bool true)], args := [d1, d2] }
  | _ => none }
def rationalPowersRow : OpenClaim := { program := "ytfpocnmlmgmfjaa", sum := "aa8ab2288969e5370a37916527b286d37e6d2b6027e3ecb60c19cbf1ab89c937", func := "scripting/scriptinglaw01.RationalPowers", spec := "rationalPowers", unfollowed := true, recurses := true, apart := false }
def RationalPowersSaid : Prop := rationalPowersRow.holds Try.pinned (OpenSpec.ofChange rationalPowersSpec)

/-- ITS FALSE NEIGHBOUR: 'it returns false'. Refute it at one input. -/
def rationalPowersWrong : ChangeSpec := { name := "rationalPowers", fn := fun _ => fun
  | [d1, d2] => { results := [.lit (.bool false)], args := [d1, d2] }
  | _ => none }
def RationalPowersWrongFalsely : Prop := rationalPowersRow.holds Try.pinned (OpenSpec.ofChange rationalPowersWrong)

/-- 'scriptinglaw01.RationalCompares': WHATEVER THE INPUT: true; the input reads as it did. -/
def rationalComparesSpec : ChangeSpec := { name := "rationalCompares", fn := fun _ => fun
  | [d1, d2] => { results := [.lit (.bool true)], args := [d1, d2] }
  | _ => none }
def rationalComparesRow : OpenClaim := { program := "ytfpocnmlmgmfjaa", sum := "aa8ab2288969e5370a37916527b286d37e6d2b6027e3ecb60c19cbf1ab89c937", func := "scripting/scriptinglaw01.RationalCompares", spec := "rationalCompares", unfollowed := true, recurses := true, apart := false }
def RationalComparesSaid : Prop := rationalComparesRow.holds Try.pinned (OpenSpec.ofChange rationalComparesSpec)

/-- ITS FALSE NEIGHBOUR: 'it returns false'. Refute it at one input. -/
def rationalComparesWrong : ChangeSpec := { name := "rationalCompares", fn := fun _ => fun
  | [d1, d2] => { results := [.lit (.bool false)], args := [d1, d2] }
  | _ => none }
def RationalComparesWrongFalsely : Prop := rationalComparesRow.holds Try.pinned (OpenSpec.ofChange rationalComparesWrong)

/-- 'scriptinglaw01.RationalBits': WHATEVER THE INPUT: true; the input reads as it did. -/
def rationalBitsSpec : ChangeSpec := { name := "rationalBits", fn := fun _ => fun
  | [d1, d2, d3] => { results := [.lit (.bool true)], args := [d1, d2, d3] }
  | _ => none }
def rationalBitsRow : OpenClaim := { program := "ytfpocnmlmgmfjaa", sum := "aa8ab2288969e5370a37916527b286d37e6d2b6027e3ecb60c19cbf1ab89c937", func := "scripting/scriptinglaw01.RationalBits", spec := "rationalBits", unfollowed := true, recurses := true, apart := false }
def RationalBitsSaid : Prop := rationalBitsRow.holds Try.pinned (OpenSpec.ofChange rationalBitsSpec)

/-- ITS FALSE NEIGHBOUR: 'it returns false'. Refute it at one input. -/
def rationalBitsWrong : ChangeSpec := { name := "rationalBits", fn := fun _ => fun
  | [d1, d2, d3] => { results := [.lit (.bool false)], args := [d1, d2, d3] }
  | _ => none }
def RationalBitsWrongFalsely : Prop := rationalBitsRow.holds Try.pinned (OpenSpec.ofChange rationalBitsWrong)

/-- 'scriptinglaw01.RationalSums': WHATEVER THE INPUT: true; the input reads as it did. -/
def rationalSumsSpec : ChangeSpec := { name := "rationalSums", fn := fun _ => fun
  | [d1, d2] => { results := [.lit (.bool true)], args := [d1, d2] }
  | _ => none }
def rationalSumsRow : OpenClaim := { program := "ytfpocnmlmgmfjaa", sum := "aa8ab2288969e5370a37916527b286d37e6d2b6027e3ecb60c19cbf1ab89c937", func := "scripting/scriptinglaw01.RationalSums", spec := "rationalSums", unfollowed := true, recurses := true, apart := false }
def RationalSumsSaid : Prop := rationalSumsRow.holds Try.pinned (OpenSpec.ofChange rationalSumsSpec)

/-- ITS FALSE NEIGHBOUR: 'it returns false'. Refute it at one input. -/
def rationalSumsWrong : ChangeSpec := { name := "rationalSums", fn := fun _ => fun
  | [d1, d2] => { results := [.lit (.bool false)], args := [d1, d2] }
  | _ => none }
def RationalSumsWrongFalsely : Prop := rationalSumsRow.holds Try.pinned (OpenSpec.ofChange rationalSumsWrong)

/-- 'scriptinglaw01.RationalProducts': WHATEVER THE INPUT: true; the input reads as it did. -/
def rationalProductsSpec : ChangeSpec := { name := "rationalProducts", fn := fun _ => fun
  | [d1, d2] => { results := [.lit (.bool true)], args := [d1, d2] }
  | _ => none }
def rationalProductsRow : OpenClaim := { program := "ytfpocnmlmgmfjaa", sum := "aa8ab2288969e5370a37916527b286d37e6d2b6027e3ecb60c19cbf1ab89c937", func := "scripting/scriptinglaw01.RationalProducts", spec := "rationalProducts", unfollowed := true, recurses := true, apart := false }
def RationalProductsSaid : Prop := rationalProductsRow.holds Try.pinned (OpenSpec.ofChange rationalProductsSpec)

/-- ITS FALSE NEIGHBOUR: 'it returns false'. Refute it at one input. -/
def rationalProductsWrong : ChangeSpec := { name := "rationalProducts", fn := fun _ => fun
  | [d1, d2] => { results := [.lit (.bool false)], args := [d1, d2] }
  | _ => none }
def RationalProductsWrongFalsely : Prop := rationalProductsRow.holds Try.pinned (OpenSpec.ofChange rationalProductsWrong)

/-- 'scriptinglaw01.RationalQuotients': WHATEVER THE INPUT: true; the input reads as it did. -/
def rationalQuotientsSpec : ChangeSpec := { name := "rationalQuotients", fn := fun _ => fun
  | [d1, d2] => { results := [.lit (.bool true)], args := [d1, d2] }
  | _ => none }
def rationalQuotientsRow : OpenClaim := { program := "ytfpocnmlmgmfjaa", sum := "aa8ab2288969e5370a37916527b286d37e6d2b6027e3ecb60c19cbf1ab89c937", func := "scripting/scriptinglaw01.RationalQuotients", spec := "rationalQuotients", unfollowed := true, recurses := true, apart := false }
def RationalQuotientsSaid : Prop := rationalQuotientsRow.holds Try.pinned (OpenSpec.ofChange rationalQuotientsSpec)

/-- ITS FALSE NEIGHBOUR: 'it returns false'. Refute it at one input. -/
def rationalQuotientsWrong : ChangeSpec := { name := "rationalQuotients", fn := fun _ => fun
  | [d1, d2] => { results := [.lit (.bool false)], args := [d1, d2] }
  | _ => none }
def RationalQuotientsWrongFalsely : Prop := rationalQuotientsRow.holds Try.pinned (OpenSpec.ofChange rationalQuotientsWrong)

/-- 'scriptinglaw01.RationalDivides': WHATEVER THE INPUT: true; the input reads as it did. -/
def rationalDividesSpec : ChangeSpec := { name := "rationalDivides", fn := fun _ => fun
  | [d1, d2] => { results := [.lit (.bool true)], args := [d1, d2] }
  | _ => none }
def rationalDividesRow : OpenClaim := { program := "ytfpocnmlmgmfjaa", sum := "aa8ab2288969e5370a37916527b286d37e6d2b6027e3ecb60c19cbf1ab89c937", func := "scripting/scriptinglaw01.RationalDivides", spec := "rationalDivides", unfollowed := true, recurses := true, apart := false }
def RationalDividesSaid : Prop := rationalDividesRow.holds Try.pinned (OpenSpec.ofChange rationalDividesSpec)

/-- ITS FALSE NEIGHBOUR: 'it returns false'. Refute it at one input. -/
def rationalDividesWrong : ChangeSpec := { name := "rationalDivides", fn := fun _ => fun
  | [d1, d2] => { results := [.lit (.bool false)], args := [d1, d2] }
  | _ => none }
def RationalDividesWrongFalsely : Prop := rationalDividesRow.holds Try.pinned (OpenSpec.ofChange rationalDividesWrong)

/-- 'scriptinglaw01.RationalFields': WHATEVER THE INPUT: true; the input reads as it did. -/
def rationalFieldsSpec : ChangeSpec := { name := "rationalFields", fn := fun _ => fun
  | [d1, d2, d3] => { results := [.lit (.bool true)], args := [d1, d2, d3] }
  | _ => none }
def rationalFieldsRow : OpenClaim := { program := "ytfpocnmlmgmfjaa", sum := "aa8ab2288969e5370a37916527b286d37e6d2b6027e3ecb60c19cbf1ab89c937", func := "scripting/scriptinglaw01.RationalFields", spec := "rationalFields", unfollowed := true, recurses := true, apart := false }
def RationalFieldsSaid : Prop := rationalFieldsRow.holds Try.pinned (OpenSpec.ofChange rationalFieldsSpec)

/-- ITS FALSE NEIGHBOUR: 'it returns false'. Refute it at one input. -/
def rationalFieldsWrong : ChangeSpec := { name := "rationalFields", fn := fun _ => fun
  | [d1, d2, d3] => { results := [.lit (.bool false)], args := [d1, d2, d3] }
  | _ => none }
def RationalFieldsWrongFalsely : Prop := rationalFieldsRow.holds Try.pinned (OpenSpec.ofChange rationalFieldsWrong)

/-- 'scriptinglaw01.RationalOrders': WHATEVER THE INPUT: true; the input reads as it did. -/
def rationalOrdersSpec : ChangeSpec := { name := "rationalOrders", fn := fun _ => fun
  | [d1, d2, d3] => { results := [.lit (.bool true)], args := [d1, d2, d3] }
  | _ => none }
def rationalOrdersRow : OpenClaim := { program := "ytfpocnmlmgmfjaa", sum := "aa8ab2288969e5370a37916527b286d37e6d2b6027e3ecb60c19cbf1ab89c937", func := "scripting/scriptinglaw01.RationalOrders", spec := "rationalOrders", unfollowed := true, recurses := true, apart := false }
def RationalOrdersSaid : Prop := rationalOrdersRow.holds Try.pinned (OpenSpec.ofChange rationalOrdersSpec)

/-- ITS FALSE NEIGHBOUR: 'it returns false'. Refute it at one input. -/
def rationalOrdersWrong : ChangeSpec := { name := "rationalOrders", fn := fun _ => fun
  | [d1, d2, d3] => { results := [.lit (.bool false)], args := [d1, d2, d3] }
  | _ => none }
def RationalOrdersWrongFalsely : Prop := rationalOrdersRow.holds Try.pinned (OpenSpec.ofChange rationalOrdersWrong)

/-- 'scriptinglaw01.RationalValid': WHATEVER THE INPUT: true; the input reads as it did. -/
def rationalValidSpec : ChangeSpec := { name := "rationalValid", fn := fun _ => fun
  | [d] => { results := [.lit (.bool true)], args := [d] }
  | _ => none }
def rationalValidRow : OpenClaim := { program := "ytfpocnmlmgmfjaa", sum := "aa8ab2288969e5370a37916527b286d37e6d2b6027e3ecb60c19cbf1ab89c937", func := "scripting/scriptinglaw01.RationalValid", spec := "rationalValid", unfollowed := true, recurses := true, apart := false }
def RationalValidSaid : Prop := rationalValidRow.holds Try.pinned (OpenSpec.ofChange rationalValidSpec)

/-- ITS FALSE NEIGHBOUR: 'it returns false'. Refute it at one input. -/
def rationalValidWrong : ChangeSpec := { name := "rationalValid", fn := fun _ => fun
  | [d] => { results := [.lit (.bool false)], args := [d] }
  | _ => none }
def RationalValidWrongFalsely : Prop := rationalValidRow.holds Try.pinned (OpenSpec.ofChange rationalValidWrong)

/- THE SECOND FORM. 'bulk': how many values and letters a reading holds, each counted each time it is reached (what is shared counts as often as it is met; a slice's spare places count too). A statement '..UptoSaid' is the law's where the arguments, and the package variables that the reading takes, are together of bulk at most 1048576: NARROWER than '..Said'. Prove '..Said' where nothing that the law and all that it calls make is longer than what came in: it says more and counts as full. Else prove '..UptoSaid'. A law counts once. -/
mutual
def uptoBulk {H : Type} : DataW H → Nat
  | .lit (.string bytes) => bytes.length + 1
  | .lit _ => 1
  | .nil => 1
  | .ptr d => uptoBulk d + 1
  | .slice elems spare => uptoBulkAll elems + uptoBulkAll spare + 1
  | .agg parts => uptoBulkAll parts + 1
  | .iface _ d => uptoBulk d + 1
  | .map entries => uptoBulkEntries entries + 1
  | .held _ => 1
def uptoBulkAll {H : Type} : List (DataW H) → Nat
  | [] => 0
  | d :: r => uptoBulk d + uptoBulkAll r
def uptoBulkEntries {H : Type} : List (Lit × DataW H) → Nat
  | [] => 0
  | x :: r => uptoBulkEntry x + uptoBulkEntries r
def uptoBulkEntry {H : Type} : Lit × DataW H → Nat
  | (.string bytes, d) => bytes.length + uptoBulk d + 1
  | (_, d) => uptoBulk d + 1
 end
def uptoSmall : (H : Type) → List (DataW H) → Bool := fun _ ds => decide (uptoBulkAll ds ≤ 1048576)
def OpenSpec.upto (s : _root_.Go.ChangeSpec) : _root_.Go.OpenSpec := { _root_.Go.OpenSpec.ofChange s with cond := some uptoSmall }

/-- 'scriptinglaw01.RationalMakes', WHERE WHAT IT READS IS OF BULK AT MOST 1048576: true; the input reads as it did. -/
def rationalMakesUptoRow : OpenClaim := { program := "ytfpocnmlmgmfjaa", sum := "aa8ab2288969e5370a37916527b286d37e6d2b6027e3ecb60c19cbf1ab89c937", func := "scripting/scriptinglaw01.RationalMakes", spec := "rationalMakes", unfollowed := true, recurses := true, apart := false, narrowed := true }
def RationalMakesUptoSaid : Prop := rationalMakesUptoRow.holds Try.pinned (OpenSpec.upto rationalMakesSpec)

/-- 'scriptinglaw01.RationalPowers', WHERE WHAT IT READS IS OF BULK AT MOST 1048576: true; the input reads as it did. -/
def rationalPowersUptoRow : OpenClaim := { program := "ytfpocnmlmgmfjaa", sum := "aa8ab2288969e5370a37916527b286d37e6d2b6027e3ecb60c19cbf1ab89c937", func := "scripting/scriptinglaw01.RationalPowers", spec := "rationalPowers", unfollowed := true, recurses := true, apart := false, narrowed := true }
def RationalPowersUptoSaid : Prop := rationalPowersUptoRow.holds Try.pinned (OpenSpec.upto rationalPowersSpec)

/-- 'scriptinglaw01.RationalCompares', WHERE WHAT IT READS IS OF BULK AT MOST 1048576: true; the input reads as it did. -/
def rationalComparesUptoRow : OpenClaim := { program := "ytfpocnmlmgmfjaa", sum := "aa8ab2288969e5370a37916527b286d37e6d2b6027e3ecb60c19cbf1ab89c937", func := "scripting/scriptinglaw01.RationalCompares", spec := "rationalCompares", unfollowed := true, recurses := true, apart := false, narrowed := true }
def RationalComparesUptoSaid : Prop := rationalComparesUptoRow.holds Try.pinned (OpenSpec.upto rationalComparesSpec)

/-- 'scriptinglaw01.RationalBits', WHERE WHAT IT READS IS OF BULK AT MOST 1048576: true; the input reads as it did. -/
def rationalBitsUptoRow : OpenClaim := { program := "ytfpocnmlmgmfjaa", sum := "aa8ab2288969e5370a37916527b286d37e6d2b6027e3ecb60c19cbf1ab89c937", func := "scripting/scriptinglaw01.RationalBits", spec := "rationalBits", unfollowed := true, recurses := true, apart := false, narrowed := true }
def RationalBitsUptoSaid : Prop := rationalBitsUptoRow.holds Try.pinned (OpenSpec.upto rationalBitsSpec)

/-- 'scriptinglaw01.RationalSums', WHERE WHAT IT READS IS OF BULK AT MOST 1048576: true; the input reads as it did. -/
def rationalSumsUptoRow : OpenClaim := { program := "ytfpocnmlmgmfjaa", sum := "aa8ab2288969e5370a37916527b286d37e6d2b6027e3ecb60c19cbf1ab89c937", func := "scripting/scriptinglaw01.RationalSums", spec := "rationalSums", unfollowed := true, recurses := true, apart := false, narrowed := true }
def RationalSumsUptoSaid : Prop := rationalSumsUptoRow.holds Try.pinned (OpenSpec.upto rationalSumsSpec)

/-- 'scriptinglaw01.RationalProducts', WHERE WHAT IT READS IS OF BULK AT MOST 1048576: true; the input reads as it did. -/
def rationalProductsUptoRow : OpenClaim := { program := "ytfpocnmlmgmfjaa", sum := "aa8ab2288969e5370a37916527b286d37e6d2b6027e3ecb60c19cbf1ab89c937", func := "scripting/scriptinglaw01.RationalProducts", spec := "rationalProducts", unfollowed := true, recurses := true, apart := false, narrowed := true }
def RationalProductsUptoSaid : Prop := rationalProductsUptoRow.holds Try.pinned (OpenSpec.upto rationalProductsSpec)

/-- 'scriptinglaw01.RationalQuotients', WHERE WHAT IT READS IS OF BULK AT MOST 1048576: true; the input reads as it did. -/
def rationalQuotientsUptoRow : OpenClaim := { program := "ytfpocnmlmgmfjaa", sum := "aa8ab2288969e5370a37916527b286d37e6d2b6027e3ecb60c19cbf1ab89c937", func := "scripting/scriptinglaw01.RationalQuotients", spec := "rationalQuotients", unfollowed := true, recurses := true, apart := false, narrowed := true }
def RationalQuotientsUptoSaid : Prop := rationalQuotientsUptoRow.holds Try.pinned (OpenSpec.upto rationalQuotientsSpec)

/-- 'scriptinglaw01.RationalDivides', WHERE WHAT IT READS IS OF BULK AT MOST 1048576: true; the input reads as it did. -/
def rationalDividesUptoRow : OpenClaim := { program := "ytfpocnmlmgmfjaa", sum := "aa8ab2288969e5370a37916527b286d37e6d2b6027e3ecb60c19cbf1ab89c937", func := "scripting/scriptinglaw01.RationalDivides", spec := "rationalDivides", unfollowed := true, recurses := true, apart := false, narrowed := true }
def RationalDividesUptoSaid : Prop := rationalDividesUptoRow.holds Try.pinned (OpenSpec.upto rationalDividesSpec)

/-- 'scriptinglaw01.RationalFields', WHERE WHAT IT READS IS OF BULK AT MOST 1048576: true; the input reads as it did. -/
def rationalFieldsUptoRow : OpenClaim := { program := "ytfpocnmlmgmfjaa", sum := "aa8ab2288969e5370a37916527b286d37e6d2b6027e3ecb60c19cbf1ab89c937", func := "scripting/scriptinglaw01.RationalFields", spec := "rationalFields", unfollowed := true, recurses := true, apart := false, narrowed := true }
def RationalFieldsUptoSaid : Prop := rationalFieldsUptoRow.holds Try.pinned (OpenSpec.upto rationalFieldsSpec)

/-- 'scriptinglaw01.RationalOrders', WHERE WHAT IT READS IS OF BULK AT MOST 1048576: true; the input reads as it did. -/
def rationalOrdersUptoRow : OpenClaim := { program := "ytfpocnmlmgmfjaa", sum := "aa8ab2288969e5370a37916527b286d37e6d2b6027e3ecb60c19cbf1ab89c937", func := "scripting/scriptinglaw01.RationalOrders", spec := "rationalOrders", unfollowed := true, recurses := true, apart := false, narrowed := true }
def RationalOrdersUptoSaid : Prop := rationalOrdersUptoRow.holds Try.pinned (OpenSpec.upto rationalOrdersSpec)

/-- 'scriptinglaw01.RationalValid', WHERE WHAT IT READS IS OF BULK AT MOST 1048576: true; the input reads as it did. -/
def rationalValidUptoRow : OpenClaim := { program := "ytfpocnmlmgmfjaa", sum := "aa8ab2288969e5370a37916527b286d37e6d2b6027e3ecb60c19cbf1ab89c937", func := "scripting/scriptinglaw01.RationalValid", spec := "rationalValid", unfollowed := true, recurses := true, apart := false, narrowed := true }
def RationalValidUptoSaid : Prop := rationalValidUptoRow.holds Try.pinned (OpenSpec.upto rationalValidSpec)

end Rows
end Go.Proofs.Ytfpocnmlmgmfjaa
