/- Sums, products, quotients of rational: what each call returns. -/
import Derived.Test.YtplphejillkdeaaGreatDoorMRat
namespace Go.Proofs.YtplphejillkdeaaGreatDoor
open Go.RowKit
set_option linter.unusedVariables false

/-- A function value that is handed to 'with': what its call returns, in whatever later memory. -/
def CloSays2 (F : Nat) (x y r s t : Int) (p q : Addr) (w : World) : Prop :=
  ∀ w1, Below w.heap.size w w1 → Calls Tryz.prog F #[.int .i64 x, .int .i64 y, .pointer (some p), .pointer (some q)] w1 fun e w' => e = .returned (.tuple #[.agg #[.int .i64 r, .int .i64 s], .int .i64 t]) ∧ Below w1.heap.size w1 w'
def CloSays0 (F : Nat) (x y r s t : Int) (w : World) : Prop :=
  ∀ w1, Below w.heap.size w w1 → Calls Tryz.prog F #[.int .i64 x, .int .i64 y] w1 fun e w' => e = .returned (.tuple #[.agg #[.int .i64 r, .int .i64 s], .int .i64 t]) ∧ Below w1.heap.size w1 w'

theorem both_yes {a b c d : Int} (h : bothB a b c d = true) : vldB a b = true ∧ vldB c d = true := by unfold bothB at h; simpa using h

theorem intT_yes {n : Int} (h : -2147483647 ≤ n) (h2 : n ≤ 2147483647) : n = (intT n).1 ∧ 1 = (intT n).2.1 ∧ 0 = (intT n).2.2 := by simp [intT, h, h2]
theorem intT_no {n : Int} (h : ¬ (-2147483647 ≤ n ∧ n ≤ 2147483647)) : 0 = (intT n).1 ∧ 0 = (intT n).2.1 ∧ 6 = (intT n).2.2 := by simp only [intT, if_neg h]; simp

end Go.Proofs.YtplphejillkdeaaGreatDoor
