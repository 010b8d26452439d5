/- The functions of the reference: what each call returns. -/
import Derived.Test.YtpahemohpaaeoaaDoorRatR1
import Derived.Test.YtpahemohpaaeoaaDoorRatPlain2
import Derived.Test.YtpahemohpaaeoaaDoorRatW4
namespace Go.Proofs.YtpahemohpaaeoaaDoor
open Go.RowKit
set_option linter.unusedVariables false

set_option maxHeartbeats 400000 in
theorem rvalid_any (p q : Int) (w : World) (hp : -9223372036854775808 ≤ p) (hp' : p ≤ 9223372036854775807) :
    Calls Tryd.prog 25 #[.agg #[.int .i64 p, .int .i64 q]] w fun e w' => e = .returned (.bool (vldB p q)) ∧ Below w.heap.size w w' := by
  cases g1 : decide (1 ≤ q)
  all_goals cases g2 : decide (q ≤ 2147483647)
  all_goals cases g3 : decide (p ≤ 2147483647)
  all_goals cases g4 : decide (-2147483647 ≤ p)
  all_goals
    go_enter Tryd.func25, Tryd.ntmps25
    go_wp2
    go_quiet ((first | (go_at_call 46; exact Calls.quiet_of_same ((rabs_any _ _ (by simp at g4; omega) (by simp at g3; omega)).mono (fun _ _ h => ⟨h.1, h.2.symm⟩))) | (go_at_call 45; exact Calls.quiet_of (rgcd_any _ _ _ (by omega) (by simp at g1; omega) (by simp at g4 g3; omega) (by simp at g2; omega)))))
    go_wp2
    go_returns
    refine ⟨ret_bool ?_, ?_⟩
    · unfold vldB; simp only [g1, g2, g3, g4]; simp [Int.gcd]
    · (repeat' (first | (with_reducible exact Below.refl _ _) | (with_reducible assumption) | (with_reducible refine Below.alloc ?_ ?_ _) | (with_reducible refine below_drewN ?_ _) | (with_reducible refine Below.drew ?_) | (with_reducible refine Below.setCell ?_ ?_ _) | (with_reducible refine below_via (by assumption) ?_ ?_) | (with_reducible refine below_via (later_below _) ?_ ?_) | (with_reducible exact Nat.le_refl _) | omega | (simp; omega) | (simp; done)))

set_option maxHeartbeats 400000 in
theorem rorder_any (x y : Int) (w : World) :
    Calls Tryd.prog 55 #[.int .i64 x, .int .i64 y] w fun e w' => e = .returned (.int .i64 (cmpI x y)) ∧ Below w.heap.size w w' := by
  go_enter Tryd.func55, Tryd.ntmps55
  go_wp2
  all_goals go_returns
  all_goals refine ⟨ret_int ?_, ?_⟩
  all_goals first | exact cmp_lt (by omega) | exact cmp_gt (by omega) | exact cmp_eq (by omega) (by omega) | (repeat' (first | (with_reducible exact Below.refl _ _) | (with_reducible assumption) | (with_reducible refine Below.alloc ?_ ?_ _) | (with_reducible refine below_drewN ?_ _) | (with_reducible refine Below.drew ?_) | (with_reducible refine Below.setCell ?_ ?_ _) | (with_reducible refine below_via (by assumption) ?_ ?_) | (with_reducible refine below_via (later_below _) ?_ ?_) | (with_reducible exact Nat.le_refl _) | omega | (simp; omega) | (simp; done)))

end Go.Proofs.YtpahemohpaaeoaaDoor
