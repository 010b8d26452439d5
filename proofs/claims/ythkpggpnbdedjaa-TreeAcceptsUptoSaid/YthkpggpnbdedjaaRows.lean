/-
  NARROWER THAN 'FOR EVERY INPUT', by the rows' own cells (each row's printed sentence says how): TreeMeasures: loops · TreeVisits: loops · TreeCounts: loops · TreeAccepts: loops · TreeEquals: loops.
  DERIVED. THE GIVEN ROWS OF THIS SEAT. 5 by the template 'for every input the law returns true; each argument reads behind the call as it read before'; 0 by the template 'total and deterministic' (their statements: YthkpggpnbdedjaaTotals.lean).
  GIVEN WITH THE SEED: the statements are not yours to turn. If you find one false, say at which input.
  Laid BY PROGRAM, IN A SANDBOX (cutbox-rows.mjs): the forced cells as the released guide's own fill.sh prints them over the translation 1f7ea05e44ce13a9… (all of the seat's roots in one cut). By AI agents, Wed Nov 11 2026. No macro, syntax, notation, axiom, sorry.
-/
import Derived.Test.YthkpggpnbdedjaaChecked
import GoSem.Claim
import GoSem.ClaimJoined
import GoSem.ClaimMapViews
import Derived.JoinedTies
import Derived.KernelRfl
namespace Go.Proofs.Ythkpggpnbdedjaa
/- THE CELL 'sum', in the pinned program and in every row, IS THE sha256 OF THE DUMP (.gsa) THAT YthkpggpnbdedjaaProg.lean LOADS. Nothing in Lean hashes anything: it is a label: what it is worth is what the hold of that sum in a sandbox is worth. -/
noncomputable def Try.pinned : Pinned := { name := "ythkpggpnbdedjaa", sum := "1f7ea05e44ce13a968d0288551386b364f0cf32da8d089a00ce4b300257ea057", checked := Try.checked }
namespace Rows
def none {H : Type} : Left H := { results := [], args := [] }

/-- 'scriptinglaw05.TreeMeasures': WHATEVER THE INPUT: true; the input reads as it did. -/
def treeMeasuresSpec : ChangeSpec := { name := "treeMeasures", fn := fun _ => fun
  | [d] => { results := [.lit (.bool true)], args := [d] }
  | _ => none }
def treeMeasuresRow : OpenClaim := { program := "ythkpggpnbdedjaa", sum := "1f7ea05e44ce13a968d0288551386b364f0cf32da8d089a00ce4b300257ea057", func := "scripting/scriptinglaw05.TreeMeasures", spec := "treeMeasures", inPlace := ["internal/bytealg.IndexByteString", "internal/abi.NoEscape", "internal/bytealg.MakeNoZero"], unfollowed := true, recurses := true, loops := true, apart := false }
def TreeMeasuresSaid : Prop := treeMeasuresRow.holds Try.pinned (OpenSpec.ofChange treeMeasuresSpec)

/-- ITS FALSE NEIGHBOUR: 'it returns false'. Refute it at one input. -/
def treeMeasuresWrong : ChangeSpec := { name := "treeMeasures", fn := fun _ => fun
  | [d] => { results := [.lit (.bool false)], args := [d] }
  | _ => none }
def TreeMeasuresWrongFalsely : Prop := treeMeasuresRow.holds Try.pinned (OpenSpec.ofChange treeMeasuresWrong)

/-- 'scriptinglaw05.TreeVisits': WHATEVER THE INPUT: true; the input reads as it did. -/
def treeVisitsSpec : ChangeSpec := { name := "treeVisits", fn := fun _ => fun
  | [d1, d2] => { results := [.lit (.bool true)], args := [d1, d2] }
  | _ => none }
def treeVisitsRow : OpenClaim := { program := "ythkpggpnbdedjaa", sum := "1f7ea05e44ce13a968d0288551386b364f0cf32da8d089a00ce4b300257ea057", func := "scripting/scriptinglaw05.TreeVisits", spec := "treeVisits", inPlace := ["internal/bytealg.IndexByteString", "internal/abi.NoEscape", "internal/bytealg.MakeNoZero"], unfollowed := true, recurses := true, loops := true, apart := false }
def TreeVisitsSaid : Prop := treeVisitsRow.holds Try.pinned (OpenSpec.ofChange treeVisitsSpec)

/-- ITS FALSE NEIGHBOUR: 'it returns false'. Refute it at one input. -/
def treeVisitsWrong : ChangeSpec := { name := "treeVisits", fn := fun _ => fun
  | [d1, d2] => { results := [.lit (.bool false)], args := [d1, d2] }
  | _ => none }
def TreeVisitsWrongFalsely : Prop := treeVisitsRow.holds Try.pinned (OpenSpec.ofChange treeVisitsWrong)

/-- 'scriptinglaw05.TreeCounts': WHATEVER THE INPUT: true; the input reads as it did. -/
def treeCountsSpec : ChangeSpec := { name := "treeCounts", fn := fun _ => fun
  | [d] => { results := [.lit (.bool true)], args := [d] }
  | _ => none }
def treeCountsRow : OpenClaim := { program := "ythkpggpnbdedjaa", sum := "1f7ea05e44ce13a968d0288551386b364f0cf32da8d089a00ce4b300257ea057", func := "scripting/scriptinglaw05.TreeCounts", spec := "treeCounts", inPlace := ["internal/bytealg.IndexByteString", "internal/abi.NoEscape", "internal/bytealg.MakeNoZero"], unfollowed := true, recurses := true, loops := true, apart := false }
def TreeCountsSaid : Prop := treeCountsRow.holds Try.pinned (OpenSpec.ofChange treeCountsSpec)

/-- ITS FALSE NEIGHBOUR: 'it returns false'. Refute it at one input. -/
def treeCountsWrong : ChangeSpec := { name := "treeCounts", fn := fun _ => fun
  | [d] => { results := [.lit (.bool false)], args := [d] }
  | _ => none }
def TreeCountsWrongFalsely : Prop := treeCountsRow.holds Try.pinned (OpenSpec.ofChange treeCountsWrong)

/-- 'scriptinglaw05.TreeAccepts': WHATEVER THE INPUT: true; the input reads as it did. -/
def treeAcceptsSpec : ChangeSpec := { name := "treeAccepts", fn := fun _ => fun
  | [d] => { results := [.lit (.bool true)], args := [d] }
  | _ => none }
def treeAcceptsRow : OpenClaim := { program := "ythkpggpnbdedjaa", sum := "1f7ea05e44ce13a968d0288551386b364f0cf32da8d089a00ce4b300257ea057", func := "scripting/scriptinglaw05.TreeAccepts", spec := "treeAccepts", inPlace := ["internal/bytealg.IndexByteString", "internal/abi.NoEscape", "internal/bytealg.MakeNoZero"], unfollowed := true, recurses := true, loops := true, apart := false }
def TreeAcceptsSaid : Prop := treeAcceptsRow.holds Try.pinned (OpenSpec.ofChange treeAcceptsSpec)

/-- ITS FALSE NEIGHBOUR: 'it returns false'. Refute it at one input. -/
def treeAcceptsWrong : ChangeSpec := { name := "treeAccepts", fn := fun _ => fun
  | [d] => { results := [.lit (.bool false)], args := [d] }
  | _ => none }
def TreeAcceptsWrongFalsely : Prop := treeAcceptsRow.holds Try.pinned (OpenSpec.ofChange treeAcceptsWrong)

/-- 'scriptinglaw05.TreeEquals': WHATEVER THE INPUT: true; the input reads as it did. -/
def treeEqualsSpec : ChangeSpec := { name := "treeEquals", fn := fun _ => fun
  | [d1, d2, d3, d4] => { results := [.lit (.bool true)], args := [d1, d2, d3, d4] }
  | _ => none }
def treeEqualsRow : OpenClaim := { program := "ythkpggpnbdedjaa", sum := "1f7ea05e44ce13a968d0288551386b364f0cf32da8d089a00ce4b300257ea057", func := "scripting/scriptinglaw05.TreeEquals", spec := "treeEquals", inPlace := ["internal/bytealg.IndexByteString", "internal/abi.NoEscape", "internal/bytealg.MakeNoZero"], unfollowed := true, recurses := true, loops := true, apart := false }
def TreeEqualsSaid : Prop := treeEqualsRow.holds Try.pinned (OpenSpec.ofChange treeEqualsSpec)

/-- ITS FALSE NEIGHBOUR: 'it returns false'. Refute it at one input. -/
def treeEqualsWrong : ChangeSpec := { name := "treeEquals", fn := fun _ => fun
  | [d1, d2, d3, d4] => { results := [.lit (.bool false)], args := [d1, d2, d3, d4] }
  | _ => none }
def TreeEqualsWrongFalsely : Prop := treeEqualsRow.holds Try.pinned (OpenSpec.ofChange treeEqualsWrong)

/- THE SECOND FORM. 'bulk': how many values and letters a reading holds, each counted each time it is reached (what is shared counts as often as it is met; a slice's spare places count too). A statement '..UptoSaid' is the law's where the arguments, and the package variables that the reading takes, are together of bulk at most 1048576: NARROWER than '..Said'. Prove '..Said' where nothing that the law and all that it calls make is longer than what came in: it says more and counts as full. Else prove '..UptoSaid'. A law counts once. -/
mutual
def uptoBulk {H : Type} : DataW H → Nat
  | .lit (.string bytes) => bytes.length + 1
  | .lit _ => 1
  | .nil => 1
  | .ptr d => uptoBulk d + 1
  | .slice elems spare => uptoBulkAll elems + uptoBulkAll spare + 1
  | .agg parts => uptoBulkAll parts + 1
  | .iface _ d => uptoBulk d + 1
  | .map entries => uptoBulkEntries entries + 1
  | .held _ => 1
def uptoBulkAll {H : Type} : List (DataW H) → Nat
  | [] => 0
  | d :: r => uptoBulk d + uptoBulkAll r
def uptoBulkEntries {H : Type} : List (Lit × DataW H) → Nat
  | [] => 0
  | x :: r => uptoBulkEntry x + uptoBulkEntries r
def uptoBulkEntry {H : Type} : Lit × DataW H → Nat
  | (.string bytes, d) => bytes.length + uptoBulk d + 1
  | (_, d) => uptoBulk d + 1
 end
def uptoSmall : (H : Type) → List (DataW H) → Bool := fun _ ds => decide (uptoBulkAll ds ≤ 1048576)
def OpenSpec.upto (s : _root_.Go.ChangeSpec) : _root_.Go.OpenSpec := { _root_.Go.OpenSpec.ofChange s with cond := some uptoSmall }

/-- 'scriptinglaw05.TreeMeasures', WHERE WHAT IT READS IS OF BULK AT MOST 1048576: true; the input reads as it did. -/
def treeMeasuresUptoRow : OpenClaim := { program := "ythkpggpnbdedjaa", sum := "1f7ea05e44ce13a968d0288551386b364f0cf32da8d089a00ce4b300257ea057", func := "scripting/scriptinglaw05.TreeMeasures", spec := "treeMeasures", inPlace := ["internal/bytealg.IndexByteString", "internal/abi.NoEscape", "internal/bytealg.MakeNoZero"], unfollowed := true, recurses := true, loops := true, apart := false, narrowed := true }
def TreeMeasuresUptoSaid : Prop := treeMeasuresUptoRow.holds Try.pinned (OpenSpec.upto treeMeasuresSpec)

/-- 'scriptinglaw05.TreeVisits', WHERE WHAT IT READS IS OF BULK AT MOST 1048576: true; the input reads as it did. -/
def treeVisitsUptoRow : OpenClaim := { program := "ythkpggpnbdedjaa", sum := "1f7ea05e44ce13a968d0288551386b364f0cf32da8d089a00ce4b300257ea057", func := "scripting/scriptinglaw05.TreeVisits", spec := "treeVisits", inPlace := ["internal/bytealg.IndexByteString", "internal/abi.NoEscape", "internal/bytealg.MakeNoZero"], unfollowed := true, recurses := true, loops := true, apart := false, narrowed := true }
def TreeVisitsUptoSaid : Prop := treeVisitsUptoRow.holds Try.pinned (OpenSpec.upto treeVisitsSpec)

/-- 'scriptinglaw05.TreeCounts', WHERE WHAT IT READS IS OF BULK AT MOST 1048576: true; the input reads as it did. -/
def treeCountsUptoRow : OpenClaim := { program := "ythkpggpnbdedjaa", sum := "1f7ea05e44ce13a968d0288551386b364f0cf32da8d089a00ce4b300257ea057", func := "scripting/scriptinglaw05.TreeCounts", spec := "treeCounts", inPlace := ["internal/bytealg.IndexByteString", "internal/abi.NoEscape", "internal/bytealg.MakeNoZero"], unfollowed := true, recurses := true, loops := true, apart := false, narrowed := true }
def TreeCountsUptoSaid : Prop := treeCountsUptoRow.holds Try.pinned (OpenSpec.upto treeCountsSpec)

/-- 'scriptinglaw05.TreeAccepts', WHERE WHAT IT READS IS OF BULK AT MOST 1048576: true; the input reads as it did. -/
def treeAcceptsUptoRow : OpenClaim := { program := "ythkpggpnbdedjaa", sum := "1f7ea05e44ce13a968d0288551386b364f0cf32da8d089a00ce4b300257ea057", func := "scripting/scriptinglaw05.TreeAccepts", spec := "treeAccepts", inPlace := ["internal/bytealg.IndexByteString", "internal/abi.NoEscape", "internal/bytealg.MakeNoZero"], unfollowed := true, recurses := true, loops := true, apart := false, narrowed := true }
def TreeAcceptsUptoSaid : Prop := treeAcceptsUptoRow.holds Try.pinned (OpenSpec.upto treeAcceptsSpec)

/-- 'scriptinglaw05.TreeEquals', WHERE WHAT IT READS IS OF BULK AT MOST 1048576: true; the input reads as it did. -/
def treeEqualsUptoRow : OpenClaim := { program := "ythkpggpnbdedjaa", sum := "1f7ea05e44ce13a968d0288551386b364f0cf32da8d089a00ce4b300257ea057", func := "scripting/scriptinglaw05.TreeEquals", spec := "treeEquals", inPlace := ["internal/bytealg.IndexByteString", "internal/abi.NoEscape", "internal/bytealg.MakeNoZero"], unfollowed := true, recurses := true, loops := true, apart := false, narrowed := true }
def TreeEqualsUptoSaid : Prop := treeEqualsUptoRow.holds Try.pinned (OpenSpec.upto treeEqualsSpec)

end Rows
end Go.Proofs.Ythkpggpnbdedjaa
