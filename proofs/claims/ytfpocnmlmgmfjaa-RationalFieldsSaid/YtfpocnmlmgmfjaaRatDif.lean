/- Two equal results do not differ. -/
import Derived.Test.YtfpocnmlmgmfjaaRatLaw2
namespace Go.Proofs.Ytfpocnmlmgmfjaa
open Go.RowKit
set_option linter.unusedVariables false

set_option maxHeartbeats 1000000 in
theorem differ_same (p q e : Int) (w : World) (he : e = 0 ∨ e = 6) :
    Calls Try.prog 39 #[.agg #[.int .i64 p, .int .i64 q], .int .i64 e, .agg #[.int .i64 p, .int .i64 q], .int .i64 e] w fun e w' => e = .returned (.bool false) ∧ Below w.heap.size w w' := by
  rcases he with rfl | rfl
  all_goals
    go_enter Try.func39, Try.ntmps39
    go_wp2
    go_returns
    refine ⟨rfl, ?_⟩
    (repeat' (first | (with_reducible exact Below.refl _ _) | (with_reducible assumption) | (with_reducible refine Below.alloc ?_ ?_ _) | (with_reducible refine below_drewN ?_ _) | (with_reducible refine Below.drew ?_) | (with_reducible refine Below.setCell ?_ ?_ _) | (with_reducible refine below_via (by assumption) ?_ ?_) | (with_reducible exact Nat.le_refl _) | omega | (simp; omega) | (simp; done)))
end Go.Proofs.Ytfpocnmlmgmfjaa
