/- Valid, floor, order, power, shift of rational: what each call returns. -/
import Derived.Test.YtfpocnmlmgmfjaaRatW1
namespace Go.Proofs.Ytfpocnmlmgmfjaa
open Go.RowKit
set_option linter.unusedVariables false

set_option maxHeartbeats 400000 in
theorem valid_any (p q : Int) (w : World) (hp : -9223372036854775808 ≤ p) (hp' : p ≤ 9223372036854775807) :
    Calls Try.prog 38 #[.agg #[.int .i64 p, .int .i64 q]] w fun e w' => e = .returned (.bool (vldB p q)) ∧ Below w.heap.size w w' := by
  go_enter Try.func38, Try.ntmps38
  go_wp2_with (first | (go_at_call 69; refine (gcd_any _ _ _ (by omega) (by omega) (by omega) (by omega)).mono ?_; rintro e w1 ⟨rfl, n1, rfl⟩))
  all_goals go_returns
  all_goals refine ⟨ret_bool ?_, ?_⟩
  all_goals first | (unfold vldB; simp [*]; done) | (unfold vldB; simp; omega) | (repeat' (first | (with_reducible exact Below.refl _ _) | (with_reducible assumption) | (with_reducible refine Below.alloc ?_ ?_ _) | (with_reducible refine below_drewN ?_ _) | (with_reducible refine Below.drew ?_) | (with_reducible refine Below.setCell ?_ ?_ _) | (with_reducible refine below_via (by assumption) ?_ ?_) | (with_reducible exact Nat.le_refl _) | omega | (simp; omega) | (simp; done)))

set_option maxHeartbeats 400000 in
theorem floor_any (x y : Int) (w : World) (h1 : -4611686018427387903 ≤ x) (h2 : x ≤ 4611686018427387903) (h3 : -4611686018427387903 ≤ y) (h4 : y ≤ 4611686018427387903) (hy : y ≠ 0) :
    Calls Try.prog 65 #[.int .i64 x, .int .i64 y] w fun e w' => e = .returned (.tuple #[.int .i64 (x.fdiv y), .int .i64 (x.fmod y)]) ∧ Below w.heap.size w w' := by
  obtain ⟨hd1, hd2⟩ := tdiv_bd x y
  have hm := tmod_abs x y hy
  have hm1 : -4611686018427387903 ≤ x.tmod y := by omega
  have hm2 : x.tmod y ≤ 4611686018427387903 := by omega
  have hd1' : -4611686018427387903 ≤ x.tdiv y := by omega
  have hd2' : x.tdiv y ≤ 4611686018427387903 := by omega
  clear hd1 hd2 hm
  have hy0 : (y == 0) = false := by simpa using hy
  go_enter Try.func65, Try.ntmps65
  go_wp2
  go_quiet (fail)
  go_wp2
  all_goals go_returns
  all_goals refine ⟨ret_ii ?_, ?_⟩
  all_goals first | ((repeat' (first | (with_reducible exact Below.refl _ _) | (with_reducible assumption) | (with_reducible refine Below.alloc ?_ ?_ _) | (with_reducible refine below_drewN ?_ _) | (with_reducible refine Below.drew ?_) | (with_reducible refine Below.setCell ?_ ?_ _) | (with_reducible refine below_via (by assumption) ?_ ?_) | (with_reducible exact Nat.le_refl _) | omega | (simp; omega) | (simp; done))); done) | exact fl0 x y hy ‹_› | exact fl1 x y hy ‹_› ‹_› | exact fl2 x y hy ‹_› ‹_›

theorem cmp_lt {x y : Int} (h : x < y) : -1 = cmpI x y := by simp [cmpI, h]
theorem cmp_gt {x y : Int} (h : y < x) : 1 = cmpI x y := by simp [cmpI, h]; omega
theorem cmp_eq {x y : Int} (h : y ≤ x) (h2 : x ≤ y) : 0 = cmpI x y := by simp [cmpI]; omega

set_option maxHeartbeats 400000 in
theorem order_any (x y : Int) (w : World) :
    Calls Try.prog 54 #[.int .i64 x, .int .i64 y] w fun e w' => e = .returned (.int .i64 (cmpI x y)) ∧ Below w.heap.size w w' := by
  go_enter Try.func54, Try.ntmps54
  go_wp2
  all_goals go_returns
  all_goals refine ⟨ret_int ?_, ?_⟩
  all_goals first | exact cmp_lt (by omega) | exact cmp_gt (by omega) | exact cmp_eq (by omega) (by omega) | (repeat' (first | (with_reducible exact Below.refl _ _) | (with_reducible assumption) | (with_reducible refine Below.alloc ?_ ?_ _) | (with_reducible refine below_drewN ?_ _) | (with_reducible refine Below.drew ?_) | (with_reducible refine Below.setCell ?_ ?_ _) | (with_reducible refine below_via (by assumption) ?_ ?_) | (with_reducible exact Nat.le_refl _) | omega | (simp; omega) | (simp; done)))

theorem pow_bd (x : Int) (k : Nat) (hx : -2147483647 ≤ x) (hx' : x ≤ 2147483647) (h1 : -2147483647 ≤ x ^ k) (h2 : x ^ k ≤ 2147483647) : -4611686014132420609 ≤ x ^ k * x ∧ x ^ k * x ≤ 4611686014132420609 := by
  generalize x ^ k = y at *
  have h : (y * x).natAbs ≤ 2147483647 * 2147483647 := by rw [Int.natAbs_mul]; exact Nat.mul_le_mul (by omega) (by omega)
  omega

set_option maxHeartbeats 400000 in
theorem power_any (x n : Int) (w : World) (h1 : -2147483647 ≤ x) (h2 : x ≤ 2147483647) (h3 : 0 ≤ n) (h4 : n ≤ 64) :
    Calls Try.prog 51 #[.int .i64 x, .int .i64 n] w fun e w' => e = .returned (.tuple #[.int .i64 (powV x n.toNat), .bool (powOk x n.toNat)]) ∧ w' = w := by
  obtain ⟨m, rfl⟩ := Int.eq_ofNat_of_zero_le h3
  rw [Int.toNat_natCast]
  go_enter Try.func51, Try.ntmps51
  go_wp2
  go_loop [6, 8] (fun p i => ∃ k : Nat, k ≤ m ∧ i = .int .i64 k ∧ p = .int .i64 (x ^ k) ∧ -2147483647 ≤ x ^ k ∧ x ^ k ≤ 2147483647) (fun _ i => m - (intOf i).toNat)
  case atStart => exact ⟨0, Nat.zero_le _, rfl, by rw [Int.pow_zero], by rw [Int.pow_zero]; omega, by rw [Int.pow_zero]; omega⟩
  case round =>
    obtain ⟨k, hk, rfl, rfl, ha, hb⟩ := hrel
    obtain ⟨hc, hd⟩ := pow_bd x k h1 h2 ha hb
    by_cases hlt : k < m
    · go_wp2
      all_goals first
        | (go_returns; exact ⟨ret_ib (powV_no (k := k + 1) (by rw [Int.pow_succ]; omega) (by omega)), rfl⟩)
        | exact ⟨⟨k + 1, by omega, by go_num, by rw [Int.pow_succ], by rw [Int.pow_succ]; omega, by rw [Int.pow_succ]; omega⟩, by simp [intOf]; omega⟩
    · obtain rfl : k = m := by omega
      go_wp2
      go_ret2
      exact ⟨ret_ib (powV_ok ha hb), rfl⟩
end Go.Proofs.Ytfpocnmlmgmfjaa
