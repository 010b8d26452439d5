/- The lexer's add: a token behind those that it has. -/
import Derived.Test.YtemlijadhdejeaaGreatDoorMLxW4
import Derived.Deep.AppendLies
import Derived.Deep.RegionLaw
namespace Go.Proofs.YtemlijadhdejeaaGreatDoor
open Go.RowKit Go.Instr
set_option linter.unusedVariables false

theorem token_info : (Tryz.prog.info? 49).map (fun i => (i.zero, i.size, i.bytes)) = some (some (.agg #[.int .i64 0, .string ⟨#[]⟩, .int .i64 0, .int .i64 0]), 4, 40) := by kernel_rfl
theorem Sc.grown {w w1 : World} {X : Nat} {s : ByteArray} {i ln : Nat} {v : Value} {T : TypeId} {r : Option Nat} (h : w.heap[X]? = some (.cells #[.string s, .int .i64 i, .int .i64 ln, v] T (0, 0))) (hg : w.grownBy w1 r) (hr : r ≠ some X) : w1.heap[X]? = some (.cells #[.string s, .int .i64 i, .int .i64 ln, v] T (0, 0)) :=
  (hg.block X (Array.getElem?_eq_some_iff.1 h).1 (fun e => hr e.symm)).trans h

theorem Sc.added {w1 : World} {X : Nat} {s xb : ByteArray} {i ln : Nat} {k : Int} {v v2 : Value} {T : TypeId} {l : List Tk} (en : Nat) (h : w1.heap[X]? = some (.cells #[.string s, .int .i64 i, .int .i64 ln, v] T (0, 0)))
    (ho : w1.ownsRow (X + 1) 49 4 v2 (l.length + 1) (flatTk l ++ [.int .i64 k, .string xb, .int .i64 ln, .int .i64 i])) :
    Sc ((w1.setCell ⟨X, 3, none⟩ v2).setCell ⟨X, 1, none⟩ (.int .i64 en)) X s en ln (l ++ [⟨k, xb.data.toList, ln, i⟩]) := by
  refine ⟨v2, T, ?_, ?_⟩
  · exact heap_setCell_same _ X 1 _ T _ (heap_setCell_same w1 X 3 _ T _ h)
  · rw [List.length_append, flatTk_snoc, mkS_of]
    exact ownsRow_setCell_below (ownsRow_setCell_below ho (by simp) _) (by simp) _
end Go.Proofs.YtemlijadhdejeaaGreatDoor
