/- The inner functions of the reference: what each call returns. -/
import Derived.Test.YtfclmnglckikbaaGreatDoorMRat
namespace Go.Proofs.YtfclmnglckikbaaGreatDoor
open Go.RowKit
set_option linter.unusedVariables false

set_option maxHeartbeats 400000 in
theorem rgcd_any (a b : Int) (w : World) (ha : 0 ≤ a) (hb : 0 ≤ b) (ha' : a ≤ 9223372036854775807) (hb' : b ≤ 9223372036854775807) :
    Calls Tryz.prog 57 #[.int .i64 a, .int .i64 b] w fun e w' => e = .returned (.int .i64 (Int.gcd a b : Int)) ∧ ∃ n, w' = w.drewN n := by
  go_enter Tryz.func57, Tryz.ntmps57
  go_wp2
  go_loopw [0, 1] (fun x y wr => ∃ c d : Int, 0 ≤ c ∧ 0 ≤ d ∧ c ≤ 9223372036854775807 ∧ d ≤ 9223372036854775807 ∧ Int.gcd c d = Int.gcd a b ∧ x = .int .i64 c ∧ y = .int .i64 d ∧ ∃ n, wr = w.drewN n) (fun _ y _ => (intOf y).toNat)
  case atStart => exact ⟨a, b, ha, hb, ha', hb', rfl, rfl, rfl, 0, rfl⟩
  case round =>
    obtain ⟨c, d, hc, hd, hc', hd', hg, rfl, rfl, n, rfl⟩ := hrel
    have HG := Lib.hid hg
    clear hg
    by_cases hz : d = 0
    · subst hz
      go_wp2
      go_ret
      refine ⟨ret_int ?_, n, rfl⟩
      rw [← HG.out]; simp; omega
    · have hne : (d != 0) = true := by simpa using hz
      go_wp2
      go_quiet (fail)
      go_wp2
      have h1 := Int.emod_nonneg c hz
      have h2 := Int.emod_lt_of_pos c (show 0 < d by omega)
      exact ⟨⟨d, c % d, hd, h1, hd', by omega, by rw [← HG.out]; exact gcd_step c d hc (by omega), rfl, rfl, n + nq, by rw [World.drewN_drewN]⟩, by simp [intOf]; omega⟩

/-- The same, the result under a name. -/
theorem rgcd_g (a b : Int) (w : World) (ha : 0 ≤ a) (hb : 0 < b) (ha' : a ≤ 9223372036854775807) (hb' : b ≤ 9223372036854775807) :
    Calls Tryz.prog 57 #[.int .i64 a, .int .i64 b] w fun e w' => ∃ g : Int, e = .returned (.int .i64 g) ∧ 1 ≤ g ∧ g ≤ b ∧ Hid (g = (Int.gcd a b : Int)) ∧ ∃ n, w' = w.drewN n :=
  (rgcd_any a b w ha (Int.le_of_lt hb) ha' hb').mono fun _ _ ⟨he, hw⟩ => ⟨_, he, gcd_pos a b hb, Int.le_of_dvd hb (Int.gcd_dvd_right a b), rfl, hw⟩


set_option maxHeartbeats 400000 in
theorem rabs_any (x : Int) (w : World) (h1 : -9223372036854775807 ≤ x) (h2 : x ≤ 9223372036854775807) :
    Calls Tryz.prog 58 #[.int .i64 x] w fun e w' => e = .returned (.int .i64 (x.natAbs : Int)) ∧ w = w' := by
  go_enter Tryz.func58, Tryz.ntmps58
  go_wp2
  all_goals go_returns
  all_goals exact ⟨ret_int (by omega), rfl⟩

set_option maxHeartbeats 400000 in
theorem frac_pos (p q : Int) (w : World) (hp : -9223372036854775807 ≤ p) (hp' : p ≤ 9223372036854775807) (hqp : 0 < q) (hq2 : q ≤ 9223372036854775807) :
    Calls Tryz.prog 138 #[.int .i64 p, .int .i64 q] w fun e w' => e = .returned (.tuple #[.agg #[.int .i64 (rP p q), .int .i64 (rQ p q)], .int .i64 (rE p q)]) ∧ Below w.heap.size w w' := by
  obtain ⟨hb1, hb2⟩ := redP_bd p q hqp
  obtain ⟨hb3, hb4⟩ := redQ_bd p q hqp
  go_enter Tryz.func138, Tryz.ntmps138
  go_wp2_with (first | (go_at_call 58; refine (rabs_any _ _ (by omega) (by omega)).mono ?_; rintro e w1 ⟨rfl, rfl⟩) | (go_at_call 57; refine (rgcd_g _ _ _ (by omega) (by omega) (by omega) (by omega)).mono ?_; rintro e w1 ⟨g, rfl, hg1, hg2, HG, n1, rfl⟩; have he1 := tdiv_red p q g hqp (abs_gcd p q g HG.out); have he2 := div_red p q g hqp (abs_gcd p q g HG.out); have he3 := pdiv_red p q g hqp (abs_gcd p q g HG.out); have he4 := tdivq_red p q g hqp (abs_gcd p q g HG.out)))
  all_goals go_returns
  all_goals first | (refine ⟨ret_num (r_ok' ?_), ?_⟩; omega) | (refine ⟨ret_num (r_no' ?_), ?_⟩; omega)
  all_goals (repeat' (first | (with_reducible exact Below.refl _ _) | (with_reducible assumption) | (with_reducible refine Below.alloc ?_ ?_ _) | (with_reducible refine below_drewN ?_ _) | (with_reducible refine Below.drew ?_) | (with_reducible refine Below.setCell ?_ ?_ _) | (with_reducible refine below_via (by assumption) ?_ ?_) | (with_reducible refine below_via (later_below _) ?_ ?_) | (with_reducible exact Nat.le_refl _) | omega | (simp; omega) | (simp; done)))

set_option maxHeartbeats 400000 in
theorem frac_negs (p q : Int) (w : World) (hp : -9223372036854775807 ≤ p) (hp' : p ≤ 9223372036854775807) (hqp : 0 < q) (hq2 : q ≤ 9223372036854775807) :
    Calls Tryz.prog 138 #[.int .i64 (-p), .int .i64 (-q)] w fun e w' => e = .returned (.tuple #[.agg #[.int .i64 (rP p q), .int .i64 (rQ p q)], .int .i64 (rE p q)]) ∧ Below w.heap.size w w' := by
  obtain ⟨hb1, hb2⟩ := redP_bd p q hqp
  obtain ⟨hb3, hb4⟩ := redQ_bd p q hqp
  go_enter Tryz.func138, Tryz.ntmps138
  go_wp2_with (first | (go_at_call 58; refine (rabs_any _ _ (by omega) (by omega)).mono ?_; rintro e w1 ⟨rfl, rfl⟩) | (go_at_call 57; refine (rgcd_g _ _ _ (by omega) (by omega) (by omega) (by omega)).mono ?_; rintro e w1 ⟨g, rfl, hg1, hg2, HG, n1, rfl⟩; have he1 := tdiv_red p q g hqp (abs_gcd p q g HG.out); have he2 := div_red p q g hqp (abs_gcd p q g HG.out); have he3 := pdiv_red p q g hqp (abs_gcd p q g HG.out); have he4 := tdivq_red p q g hqp (abs_gcd p q g HG.out)))
  all_goals go_returns
  all_goals first | (refine ⟨ret_num (r_ok' ?_), ?_⟩; omega) | (refine ⟨ret_num (r_no' ?_), ?_⟩; omega)
  all_goals (repeat' (first | (with_reducible exact Below.refl _ _) | (with_reducible assumption) | (with_reducible refine Below.alloc ?_ ?_ _) | (with_reducible refine below_drewN ?_ _) | (with_reducible refine Below.drew ?_) | (with_reducible refine Below.setCell ?_ ?_ _) | (with_reducible refine below_via (by assumption) ?_ ?_) | (with_reducible refine below_via (later_below _) ?_ ?_) | (with_reducible exact Nat.le_refl _) | omega | (simp; omega) | (simp; done)))

theorem frac_any (p q : Int) (w : World) (hp : -9223372036854775807 ≤ p) (hp' : p ≤ 9223372036854775807) (hq : q ≠ 0) (hq1 : -9223372036854775807 ≤ q) (hq2 : q ≤ 9223372036854775807) :
    Calls Tryz.prog 138 #[.int .i64 p, .int .i64 q] w fun e w' => e = .returned (.tuple #[.agg #[.int .i64 (rP p q), .int .i64 (rQ p q)], .int .i64 (rE p q)]) ∧ Below w.heap.size w w' := by
  by_cases hn : q < 0
  · have h := frac_negs (-p) (-q) w (by omega) (by omega) (by omega) (by omega)
    rw [Int.neg_neg, Int.neg_neg, (r_neg p q).1, (r_neg p q).2.1, (r_neg p q).2.2] at h
    exact h
  · exact frac_pos p q w hp hp' (by omega) hq2
end Go.Proofs.YtfclmnglckikbaaGreatDoor
