/- Sums, products, quotients of rational: what each call returns. -/
import Derived.Test.YtnpnbpilhfgnfaaGreatDoorMRat
namespace Go.Proofs.YtnpnbpilhfgnfaaGreatDoor
open Go.RowKit
set_option linter.unusedVariables false

/-- A function value that is handed to 'with': what its call returns, in whatever later memory. -/
def CloSays2 (F : Nat) (x y r s t : Int) (p q : Addr) (w : World) : Prop :=
  ∀ w1, Below w.heap.size w w1 → Calls Tryz.prog F #[.int .i64 x, .int .i64 y, .pointer (some p), .pointer (some q)] w1 fun e w' => e = .returned (.tuple #[.agg #[.int .i64 r, .int .i64 s], .int .i64 t]) ∧ Below w1.heap.size w1 w'
def CloSays0 (F : Nat) (x y r s t : Int) (w : World) : Prop :=
  ∀ w1, Below w.heap.size w w1 → Calls Tryz.prog F #[.int .i64 x, .int .i64 y] w1 fun e w' => e = .returned (.tuple #[.agg #[.int .i64 r, .int .i64 s], .int .i64 t]) ∧ Below w1.heap.size w1 w'

theorem both_yes {a b c d : Int} (h : bothB a b c d = true) : vldB a b = true ∧ vldB c d = true := by unfold bothB at h; simpa using h

theorem intT_yes {n : Int} (h : -2147483647 ≤ n) (h2 : n ≤ 2147483647) : n = (intT n).1 ∧ 1 = (intT n).2.1 ∧ 0 = (intT n).2.2 := by simp [intT, h, h2]
theorem intT_no {n : Int} (h : ¬ (-2147483647 ≤ n ∧ n ≤ 2147483647)) : 0 = (intT n).1 ∧ 0 = (intT n).2.1 ∧ 6 = (intT n).2.2 := by simp only [intT, if_neg h]; simp

set_option maxHeartbeats 400000 in
theorem int_any (n : Int) (w : World) : Calls Tryz.prog 91 #[.int .i64 n] w fun e w' => e = .returned (.tuple #[.agg #[.int .i64 (intT n).1, .int .i64 (intT n).2.1], .int .i64 (intT n).2.2]) ∧ Below w.heap.size w w' := by
  go_enter Tryz.func91, Tryz.ntmps91
  go_wp2
  all_goals go_returns
  all_goals first | (refine ⟨ret_num (intT_yes ?_ ?_), ?_⟩; omega; omega) | (refine ⟨ret_num (intT_no ?_), ?_⟩; omega) | skip
  all_goals (repeat' (first | (with_reducible exact Below.refl _ _) | (with_reducible assumption) | (with_reducible refine Below.alloc ?_ ?_ _) | (with_reducible refine below_drewN ?_ _) | (with_reducible refine Below.drew ?_) | (with_reducible refine Below.setCell ?_ ?_ _) | (with_reducible refine below_via (by assumption) ?_ ?_) | (with_reducible refine below_via (later_below _) ?_ ?_) | (with_reducible exact Nat.le_refl _) | omega | (simp; omega) | (simp; done)))

end Go.Proofs.YtnpnbpilhfgnfaaGreatDoor
