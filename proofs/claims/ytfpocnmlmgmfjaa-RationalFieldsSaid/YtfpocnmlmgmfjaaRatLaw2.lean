/- Contracts of the program's functions by the equation of their result, and the bounds of every result. -/
import Derived.Test.YtfpocnmlmgmfjaaRatAw
import Derived.Test.YtfpocnmlmgmfjaaRatLaw
import Derived.Test.YtfpocnmlmgmfjaaMem
namespace Go.Proofs.Ytfpocnmlmgmfjaa
open Go.RowKit
set_option linter.unusedVariables false

theorem rP_bd (p q : Int) : -2147483647 ≤ rP p q ∧ rP p q ≤ 2147483647 := by
  unfold rP; split
  · have := redOk_true ‹_›; omega
  · omega
theorem intT_bd (n : Int) : -2147483647 ≤ (intT n).1 ∧ (intT n).1 ≤ 2147483647 := by
  unfold intT; split
  · assumption
  · exact ⟨by omega, by omega⟩
theorem redT_bd (p q : Int) : -2147483647 ≤ (redT p q).1 ∧ (redT p q).1 ≤ 2147483647 := rP_bd p q
theorem zero_bd (e : Int) : -2147483647 ≤ ((0, 0, e) : Int × Int × Int).1 ∧ ((0, 0, e) : Int × Int × Int).1 ≤ 2147483647 := ⟨by omega, by omega⟩
theorem addT_bd (a b c d : Int) : -2147483647 ≤ (addT a b c d).1 ∧ (addT a b c d).1 ≤ 2147483647 := by
  unfold addT; split
  · exact redT_bd _ _
  · exact zero_bd _
theorem mulT_bd (a b c d : Int) : -2147483647 ≤ (mulT a b c d).1 ∧ (mulT a b c d).1 ≤ 2147483647 := by
  unfold mulT; split
  · exact redT_bd _ _
  · exact zero_bd _
theorem quotT_bd (a b c d : Int) : -2147483647 ≤ (quotT a b c d).1 ∧ (quotT a b c d).1 ≤ 2147483647 := by
  unfold quotT; split
  · split
    · exact zero_bd _
    · exact intT_bd _
  · exact zero_bd _
theorem modT_bd (a b c d : Int) : -2147483647 ≤ (modT a b c d).1 ∧ (modT a b c d).1 ≤ 2147483647 := by
  unfold modT; split
  · split
    · exact zero_bd _
    · exact redT_bd _ _
  · exact zero_bd _
theorem addT_E {a b c d : Int} (h : vldB a b = true) (h2 : vldB c d = true) : (addT a b c d).2.2 = 0 ∨ (addT a b c d).2.2 = 6 := by rw [addT_out h h2]; exact out_E _
theorem mulT_E {a b c d : Int} (h : vldB a b = true) (h2 : vldB c d = true) : (mulT a b c d).2.2 = 0 ∨ (mulT a b c d).2.2 = 6 := by rw [mulT_out h h2]; exact out_E _

/-- A contract, at the equation of its result. -/
theorem at_eq {P : Program} {f : FuncId} {args : Array Value} {w : World} {t : Int × Int × Int} (x y z : Int) (ht : t = (x, y, z))
    (h : Calls P f args w fun e w' => e = .returned (.tuple #[.agg #[.int .i64 t.1, .int .i64 t.2.1], .int .i64 t.2.2]) ∧ Below w.heap.size w w') :
    Calls P f args w fun e w' => e = .returned (.tuple #[.agg #[.int .i64 x, .int .i64 y], .int .i64 z]) ∧ Below w.heap.size w w' := by
  subst ht; exact h
end Go.Proofs.Ytfpocnmlmgmfjaa
