/- What the rows list of the library's tables: met in a start, and what the walks ask of it. -/
import Derived.Test.YtfclmnglckikbaaGreatDoorMStr
import Derived.ProofKit
import Derived.OpenShut
import Derived.LaidMore
import Derived.Lay
import Derived.SevenTiedAt
import Derived.Stop.Joined
import Derived.Stop.LaidErr
import Derived.Lib.LaidTab
import Derived.Lib.SmallJoins
namespace Go.Proofs.YtfclmnglckikbaaGreatDoor
open Go.ChangeShapes Go.WideShapes Go.ChangeAt Go.RowKit
set_option linter.unusedVariables false

theorem own : ownKnob Tryz.prog.godebug = none := by kernel_rfl
theorem laidOut : laidOutB Tryz.prog = true := by kernel_rfl
abbrev laidS : List (String × DataW Unit) := Rows.numlibNamesRow.laid

theorem laid_tabs {W : World} (h : laidMetH Tryz.prog laidS W) : Tabs W := by
  rw [MakeChecks.laidMetH_plain _ _ _ (by kernel_rfl)] at h
  have h64 : Lib.TabIs Tryz.prog W ((Rows.numlibNamesRow.laid.map fun x => x.1).getD 1 default) .u8 (Lib.deBruijn64tab.map fun (n : Nat) => (n : Int)) :=
    Lib.tabIs_of_head (g := 2) (t := 141) (e := 5) (n := 64) (by kernel_rfl) (by kernel_rfl) (by kernel_rfl) (by kernel_rfl) (by kernel_rfl) (by kernel_rfl) (h.tail)
  have h10 : Lib.TabIs Tryz.prog W Tryz.nm_internal_strconv_uint64pow10 .u64 Lib.pow10Tab :=
    Lib.tabIs_of_head (g := 0) (t := 117) (e := 106) (n := 20) (by kernel_rfl) (by kernel_rfl) (by kernel_rfl) (by kernel_rfl) (by kernel_rfl) (by kernel_rfl) (h.tail.tail)
  refine ⟨h10, fun j hj => ?_⟩
  have hc := h64.cell (g := 2) (by kernel_rfl) j (by simpa using hj)
  rw [hc]
  simp only [List.getD_eq_getElem?_getD, List.getElem?_map]
  rw [List.getElem?_eq_getElem hj]
  rfl

theorem start_met (os : Os) (args : Array Value) : laidMetH Tryz.prog laidS ((World.laidAll Tryz.prog os laidS).forCall (fun _ _ => 0) ⟨#[], args, []⟩).memory := by
  rw [MakeChecks.laidMetH_plain _ _ _ (by kernel_rfl)]
  exact laidMet_laidAll _ (by kernel_rfl) (by kernel_rfl)
theorem start_shaped (os : Os) : World.Shaped Tryz.prog (World.laidAll Tryz.prog os laidS) := World.shaped_of_ZipB (by kernel_rfl) (by kernel_rfl)
end Go.Proofs.YtfclmnglckikbaaGreatDoor
