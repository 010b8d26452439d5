/- Valid, floor, order, power, shift of rational: what each call returns. -/
import Derived.Test.YtpahemohpaaeoaaDoorRatW1
namespace Go.Proofs.YtpahemohpaaeoaaDoor
open Go.RowKit
set_option linter.unusedVariables false

set_option maxHeartbeats 400000 in
theorem valid_any (p q : Int) (w : World) (hp : -9223372036854775808 ≤ p) (hp' : p ≤ 9223372036854775807) :
    Calls Tryd.prog 37 #[.agg #[.int .i64 p, .int .i64 q]] w fun e w' => e = .returned (.bool (vldB p q)) ∧ Below w.heap.size w w' := by
  go_enter Tryd.func37, Tryd.ntmps37
  go_wp2_with (first | (go_at_call 51; refine (gcd_any _ _ _ (by omega) (by omega) (by omega) (by omega)).mono ?_; rintro e w1 ⟨rfl, n1, rfl⟩))
  all_goals go_returns
  all_goals refine ⟨ret_bool ?_, ?_⟩
  all_goals first | (unfold vldB; simp [*]; done) | (unfold vldB; simp; omega) | (repeat' (first | (with_reducible exact Below.refl _ _) | (with_reducible assumption) | (with_reducible refine Below.alloc ?_ ?_ _) | (with_reducible refine below_drewN ?_ _) | (with_reducible refine Below.drew ?_) | (with_reducible refine Below.setCell ?_ ?_ _) | (with_reducible refine below_via (by assumption) ?_ ?_) | (with_reducible refine below_via (later_below _) ?_ ?_) | (with_reducible exact Nat.le_refl _) | omega | (simp; omega) | (simp; done)))

theorem cmp_lt {x y : Int} (h : x < y) : -1 = cmpI x y := by simp [cmpI, h]
theorem cmp_gt {x y : Int} (h : y < x) : 1 = cmpI x y := by simp [cmpI, h]; omega
theorem cmp_eq {x y : Int} (h : y ≤ x) (h2 : x ≤ y) : 0 = cmpI x y := by simp [cmpI]; omega

set_option maxHeartbeats 400000 in
theorem order_any (x y : Int) (w : World) :
    Calls Tryd.prog 54 #[.int .i64 x, .int .i64 y] w fun e w' => e = .returned (.int .i64 (cmpI x y)) ∧ Below w.heap.size w w' := by
  go_enter Tryd.func54, Tryd.ntmps54
  go_wp2
  all_goals go_returns
  all_goals refine ⟨ret_int ?_, ?_⟩
  all_goals first | exact cmp_lt (by omega) | exact cmp_gt (by omega) | exact cmp_eq (by omega) (by omega) | (repeat' (first | (with_reducible exact Below.refl _ _) | (with_reducible assumption) | (with_reducible refine Below.alloc ?_ ?_ _) | (with_reducible refine below_drewN ?_ _) | (with_reducible refine Below.drew ?_) | (with_reducible refine Below.setCell ?_ ?_ _) | (with_reducible refine below_via (by assumption) ?_ ?_) | (with_reducible refine below_via (later_below _) ?_ ?_) | (with_reducible exact Nat.le_refl _) | omega | (simp; omega) | (simp; done)))

theorem pow_bd (x : Int) (k : Nat) (hx : -2147483647 ≤ x) (hx' : x ≤ 2147483647) (h1 : -2147483647 ≤ x ^ k) (h2 : x ^ k ≤ 2147483647) : -4611686014132420609 ≤ x ^ k * x ∧ x ^ k * x ≤ 4611686014132420609 := by
  generalize x ^ k = y at *
  have h : (y * x).natAbs ≤ 2147483647 * 2147483647 := by rw [Int.natAbs_mul]; exact Nat.mul_le_mul (by omega) (by omega)
  omega

end Go.Proofs.YtpahemohpaaeoaaDoor
