/- The inner functions of rational: what each call returns, said of integers. -/
import Derived.Test.YtfclmnglckikbaaGreatDoorMPlainA
import Derived.Test.YtfclmnglckikbaaGreatDoorRows
import Derived.Test.YtfclmnglckikbaaGreatDoorMBase
namespace Go.Proofs.YtfclmnglckikbaaGreatDoor
open Go.RowKit
set_option linter.unusedVariables false

theorem gcd_step (a b : Int) (h0 : 0 ≤ a) (hb : 0 < b) : Int.gcd b (a % b) = Int.gcd a b := by
  obtain ⟨m, rfl⟩ := Int.eq_ofNat_of_zero_le h0
  obtain ⟨n, rfl⟩ := Int.eq_ofNat_of_zero_le (Int.le_of_lt hb)
  rw [← Int.natCast_emod, Int.gcd_natCast_natCast, Int.gcd_natCast_natCast, Nat.gcd_comm m n, Nat.gcd_comm n, ← Nat.gcd_rec]

set_option maxHeartbeats 400000 in
theorem gcd_any (a b : Int) (w : World) (ha : 0 ≤ a) (hb : 0 ≤ b) (ha' : a ≤ 9223372036854775807) (hb' : b ≤ 9223372036854775807) :
    Calls Tryz.prog 83 #[.int .i64 a, .int .i64 b] w fun e w' => e = .returned (.int .i64 (Int.gcd a b : Int)) ∧ ∃ n, w' = w.drewN n := by
  go_enter Tryz.func83, Tryz.ntmps83
  go_wp2
  go_loopw [0, 1] (fun x y wr => ∃ c d : Int, 0 ≤ c ∧ 0 ≤ d ∧ c ≤ 9223372036854775807 ∧ d ≤ 9223372036854775807 ∧ Int.gcd c d = Int.gcd a b ∧ x = .int .i64 c ∧ y = .int .i64 d ∧ ∃ n, wr = w.drewN n) (fun _ y _ => (intOf y).toNat)
  case atStart => exact ⟨a, b, ha, hb, ha', hb', rfl, rfl, rfl, 0, rfl⟩
  case round =>
    obtain ⟨c, d, hc, hd, hc', hd', hg, rfl, rfl, n, rfl⟩ := hrel
    have HG := Lib.hid hg
    clear hg
    by_cases hz : d = 0
    · subst hz
      go_wp2
      go_ret
      refine ⟨ret_int ?_, n, rfl⟩
      rw [← HG.out]; simp; omega
    · have hne : (d != 0) = true := by simpa using hz
      go_wp2
      go_quiet (fail)
      go_wp2
      have h1 := Int.emod_nonneg c hz
      have h2 := Int.emod_lt_of_pos c (show 0 < d by omega)
      exact ⟨⟨d, c % d, hd, h1, hd', by omega, by rw [← HG.out]; exact gcd_step c d hc (by omega), rfl, rfl, n + nq, by rw [World.drewN_drewN]⟩, by simp [intOf]; omega⟩

/-- The same, the result under a name. -/
theorem gcd_g (a b : Int) (w : World) (ha : 0 ≤ a) (hb : 0 < b) (ha' : a ≤ 9223372036854775807) (hb' : b ≤ 9223372036854775807) :
    Calls Tryz.prog 83 #[.int .i64 a, .int .i64 b] w fun e w' => ∃ g : Int, e = .returned (.int .i64 g) ∧ 1 ≤ g ∧ g ≤ b ∧ Hid (g = (Int.gcd a b : Int)) ∧ ∃ n, w' = w.drewN n :=
  (gcd_any a b w ha (Int.le_of_lt hb) ha' hb').mono fun _ _ ⟨he, hw⟩ => ⟨_, he, gcd_pos a b hb, Int.le_of_dvd hb (Int.gcd_dvd_right a b), rfl, hw⟩

set_option maxHeartbeats 400000 in
theorem red_pos (p q : Int) (w : World) (hp : -9223372036854775807 ≤ p) (hp' : p ≤ 9223372036854775807) (hqp : 0 < q) (hq2 : q ≤ 9223372036854775807) :
    Calls Tryz.prog 55 #[.int .i64 p, .int .i64 q] w fun e w' => e = .returned (.tuple #[.agg #[.int .i64 (rP p q), .int .i64 (rQ p q)], .int .i64 (rE p q)]) ∧ Below w.heap.size w w' := by
  go_enter Tryz.func55, Tryz.ntmps55
  go_wp2_with (first | (go_at_call 83; refine (gcd_g _ _ _ (by omega) (by omega) (by omega) (by omega)).mono ?_; rintro e w1 ⟨g, rfl, hg1, hg2, HG, n1, rfl⟩))
  all_goals go_quiet (fail)
  all_goals first | rw [tdiv_red p q g hqp (max_gcd p q g HG.out), div_red p q g hqp (max_gcd p q g HG.out)] | rw [pdiv_red p q g hqp (max_gcd p q g HG.out), div_red p q g hqp (max_gcd p q g HG.out)]
  all_goals clear HG hg1 hg2
  all_goals go_wp2
  all_goals go_returns
  all_goals first | (refine ⟨ret_num (r_ok' ?_), ?_⟩; omega) | (refine ⟨ret_num (r_no' ?_), ?_⟩; omega)
  all_goals (repeat' (first | (with_reducible exact Below.refl _ _) | (with_reducible assumption) | (with_reducible refine Below.alloc ?_ ?_ _) | (with_reducible refine below_drewN ?_ _) | (with_reducible refine Below.drew ?_) | (with_reducible refine Below.setCell ?_ ?_ _) | (with_reducible refine below_via (by assumption) ?_ ?_) | (with_reducible refine below_via (later_below _) ?_ ?_) | (with_reducible exact Nat.le_refl _) | omega | (simp; omega) | (simp; done)))

set_option maxHeartbeats 400000 in
theorem red_negs (p q : Int) (w : World) (hp : -9223372036854775807 ≤ p) (hp' : p ≤ 9223372036854775807) (hqp : 0 < q) (hq2 : q ≤ 9223372036854775807) :
    Calls Tryz.prog 55 #[.int .i64 (-p), .int .i64 (-q)] w fun e w' => e = .returned (.tuple #[.agg #[.int .i64 (rP p q), .int .i64 (rQ p q)], .int .i64 (rE p q)]) ∧ Below w.heap.size w w' := by
  go_enter Tryz.func55, Tryz.ntmps55
  go_wp2_with (first | (go_at_call 83; refine (gcd_g _ _ _ (by omega) (by omega) (by omega) (by omega)).mono ?_; rintro e w1 ⟨g, rfl, hg1, hg2, HG, n1, rfl⟩))
  all_goals go_quiet (fail)
  all_goals first | rw [tdiv_red p q g hqp (max_gcd p q g HG.out), div_red p q g hqp (max_gcd p q g HG.out)] | rw [pdiv_red p q g hqp (max_gcd p q g HG.out), div_red p q g hqp (max_gcd p q g HG.out)]
  all_goals clear HG hg1 hg2
  all_goals go_wp2
  all_goals go_returns
  all_goals first | (refine ⟨ret_num (r_ok' ?_), ?_⟩; omega) | (refine ⟨ret_num (r_no' ?_), ?_⟩; omega)
  all_goals (repeat' (first | (with_reducible exact Below.refl _ _) | (with_reducible assumption) | (with_reducible refine Below.alloc ?_ ?_ _) | (with_reducible refine below_drewN ?_ _) | (with_reducible refine Below.drew ?_) | (with_reducible refine Below.setCell ?_ ?_ _) | (with_reducible refine below_via (by assumption) ?_ ?_) | (with_reducible refine below_via (later_below _) ?_ ?_) | (with_reducible exact Nat.le_refl _) | omega | (simp; omega) | (simp; done)))

theorem red_any (p q : Int) (w : World) (hp : -9223372036854775807 ≤ p) (hp' : p ≤ 9223372036854775807) (hq : q ≠ 0) (hq1 : -9223372036854775807 ≤ q) (hq2 : q ≤ 9223372036854775807) :
    Calls Tryz.prog 55 #[.int .i64 p, .int .i64 q] w fun e w' => e = .returned (.tuple #[.agg #[.int .i64 (rP p q), .int .i64 (rQ p q)], .int .i64 (rE p q)]) ∧ Below w.heap.size w w' := by
  by_cases hn : q < 0
  · have h := red_negs (-p) (-q) w (by omega) (by omega) (by omega) (by omega)
    rw [Int.neg_neg, Int.neg_neg, (r_neg p q).1, (r_neg p q).2.1, (r_neg p q).2.2] at h
    exact h
  · exact red_pos p q w hp hp' (by omega) hq2
end Go.Proofs.YtfclmnglckikbaaGreatDoor

/- Valid, floor, order, power, shift of rational: what each call returns. -/
namespace Go.Proofs.YtfclmnglckikbaaGreatDoor
open Go.RowKit
set_option linter.unusedVariables false

set_option maxHeartbeats 400000 in
theorem valid_any (p q : Int) (w : World) (hp : -9223372036854775808 ≤ p) (hp' : p ≤ 9223372036854775807) :
    Calls Tryz.prog 48 #[.agg #[.int .i64 p, .int .i64 q]] w fun e w' => e = .returned (.bool (vldB p q)) ∧ Below w.heap.size w w' := by
  go_enter Tryz.func48, Tryz.ntmps48
  go_wp2_with (first | (go_at_call 83; refine (gcd_any _ _ _ (by omega) (by omega) (by omega) (by omega)).mono ?_; rintro e w1 ⟨rfl, n1, rfl⟩))
  all_goals go_returns
  all_goals refine ⟨ret_bool ?_, ?_⟩
  all_goals first | (unfold vldB; simp [*]; done) | (unfold vldB; simp; omega) | (repeat' (first | (with_reducible exact Below.refl _ _) | (with_reducible assumption) | (with_reducible refine Below.alloc ?_ ?_ _) | (with_reducible refine below_drewN ?_ _) | (with_reducible refine Below.drew ?_) | (with_reducible refine Below.setCell ?_ ?_ _) | (with_reducible refine below_via (by assumption) ?_ ?_) | (with_reducible refine below_via (later_below _) ?_ ?_) | (with_reducible exact Nat.le_refl _) | omega | (simp; omega) | (simp; done)))

set_option maxHeartbeats 400000 in
theorem floor_any (x y : Int) (w : World) (h1 : -4611686018427387903 ≤ x) (h2 : x ≤ 4611686018427387903) (h3 : -4611686018427387903 ≤ y) (h4 : y ≤ 4611686018427387903) (hy : y ≠ 0) :
    Calls Tryz.prog 91 #[.int .i64 x, .int .i64 y] w fun e w' => e = .returned (.tuple #[.int .i64 (x.fdiv y), .int .i64 (x.fmod y)]) ∧ Below w.heap.size w w' := by
  obtain ⟨hd1, hd2⟩ := tdiv_bd x y
  have hm := tmod_abs x y hy
  have hm1 : -4611686018427387903 ≤ x.tmod y := by omega
  have hm2 : x.tmod y ≤ 4611686018427387903 := by omega
  have hd1' : -4611686018427387903 ≤ x.tdiv y := by omega
  have hd2' : x.tdiv y ≤ 4611686018427387903 := by omega
  clear hd1 hd2 hm
  have hy0 : (y == 0) = false := by simpa using hy
  go_enter Tryz.func91, Tryz.ntmps91
  go_wp2
  go_quiet (fail)
  go_wp2
  all_goals go_returns
  all_goals refine ⟨ret_ii ?_, ?_⟩
  all_goals first | ((repeat' (first | (with_reducible exact Below.refl _ _) | (with_reducible assumption) | (with_reducible refine Below.alloc ?_ ?_ _) | (with_reducible refine below_drewN ?_ _) | (with_reducible refine Below.drew ?_) | (with_reducible refine Below.setCell ?_ ?_ _) | (with_reducible refine below_via (by assumption) ?_ ?_) | (with_reducible refine below_via (later_below _) ?_ ?_) | (with_reducible exact Nat.le_refl _) | omega | (simp; omega) | (simp; done))); done) | exact fl0 x y hy ‹_› | exact fl1 x y hy ‹_› ‹_› | exact fl2 x y hy ‹_› ‹_›

theorem cmp_lt {x y : Int} (h : x < y) : -1 = cmpI x y := by simp [cmpI, h]
theorem cmp_gt {x y : Int} (h : y < x) : 1 = cmpI x y := by simp [cmpI, h]; omega
theorem cmp_eq {x y : Int} (h : y ≤ x) (h2 : x ≤ y) : 0 = cmpI x y := by simp [cmpI]; omega

set_option maxHeartbeats 400000 in
theorem order_any (x y : Int) (w : World) :
    Calls Tryz.prog 49 #[.int .i64 x, .int .i64 y] w fun e w' => e = .returned (.int .i64 (cmpI x y)) ∧ Below w.heap.size w w' := by
  go_enter Tryz.func49, Tryz.ntmps49
  go_wp2
  all_goals go_returns
  all_goals refine ⟨ret_int ?_, ?_⟩
  all_goals first | exact cmp_lt (by omega) | exact cmp_gt (by omega) | exact cmp_eq (by omega) (by omega) | (repeat' (first | (with_reducible exact Below.refl _ _) | (with_reducible assumption) | (with_reducible refine Below.alloc ?_ ?_ _) | (with_reducible refine below_drewN ?_ _) | (with_reducible refine Below.drew ?_) | (with_reducible refine Below.setCell ?_ ?_ _) | (with_reducible refine below_via (by assumption) ?_ ?_) | (with_reducible refine below_via (later_below _) ?_ ?_) | (with_reducible exact Nat.le_refl _) | omega | (simp; omega) | (simp; done)))

theorem pow_bd (x : Int) (k : Nat) (hx : -2147483647 ≤ x) (hx' : x ≤ 2147483647) (h1 : -2147483647 ≤ x ^ k) (h2 : x ^ k ≤ 2147483647) : -4611686014132420609 ≤ x ^ k * x ∧ x ^ k * x ≤ 4611686014132420609 := by
  generalize x ^ k = y at *
  have h : (y * x).natAbs ≤ 2147483647 * 2147483647 := by rw [Int.natAbs_mul]; exact Nat.mul_le_mul (by omega) (by omega)
  omega

end Go.Proofs.YtfclmnglckikbaaGreatDoor
