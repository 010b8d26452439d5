/- The inner functions of the reference: what each call returns. -/
import Derived.Test.YthkpggpnbdedjaaGreatMRat
namespace Go.Proofs.YthkpggpnbdedjaaGreat
open Go.RowKit
set_option linter.unusedVariables false

set_option maxHeartbeats 400000 in
theorem rgcd_any (a b : Int) (w : World) (ha : 0 ≤ a) (hb : 0 ≤ b) (ha' : a ≤ 9223372036854775807) (hb' : b ≤ 9223372036854775807) :
    Calls Tryz.prog 119 #[.int .i64 a, .int .i64 b] w fun e w' => e = .returned (.int .i64 (Int.gcd a b : Int)) ∧ ∃ n, w' = w.drewN n := by
  go_enter Tryz.func119, Tryz.ntmps119
  go_wp2
  go_loopw [0, 1] (fun x y wr => ∃ c d : Int, 0 ≤ c ∧ 0 ≤ d ∧ c ≤ 9223372036854775807 ∧ d ≤ 9223372036854775807 ∧ Int.gcd c d = Int.gcd a b ∧ x = .int .i64 c ∧ y = .int .i64 d ∧ ∃ n, wr = w.drewN n) (fun _ y _ => (intOf y).toNat)
  case atStart => exact ⟨a, b, ha, hb, ha', hb', rfl, rfl, rfl, 0, rfl⟩
  case round =>
    obtain ⟨c, d, hc, hd, hc', hd', hg, rfl, rfl, n, rfl⟩ := hrel
    have HG := Lib.hid hg
    clear hg
    by_cases hz : d = 0
    · subst hz
      go_wp2
      go_ret
      refine ⟨ret_int ?_, n, rfl⟩
      rw [← HG.out]; simp; omega
    · have hne : (d != 0) = true := by simpa using hz
      go_wp2
      go_quiet (fail)
      go_wp2
      have h1 := Int.emod_nonneg c hz
      have h2 := Int.emod_lt_of_pos c (show 0 < d by omega)
      exact ⟨⟨d, c % d, hd, h1, hd', by omega, by rw [← HG.out]; exact gcd_step c d hc (by omega), rfl, rfl, n + nq, by rw [World.drewN_drewN]⟩, by simp [intOf]; omega⟩

/-- The same, the result under a name. -/
theorem rgcd_g (a b : Int) (w : World) (ha : 0 ≤ a) (hb : 0 < b) (ha' : a ≤ 9223372036854775807) (hb' : b ≤ 9223372036854775807) :
    Calls Tryz.prog 119 #[.int .i64 a, .int .i64 b] w fun e w' => ∃ g : Int, e = .returned (.int .i64 g) ∧ 1 ≤ g ∧ g ≤ b ∧ Hid (g = (Int.gcd a b : Int)) ∧ ∃ n, w' = w.drewN n :=
  (rgcd_any a b w ha (Int.le_of_lt hb) ha' hb').mono fun _ _ ⟨he, hw⟩ => ⟨_, he, gcd_pos a b hb, Int.le_of_dvd hb (Int.gcd_dvd_right a b), rfl, hw⟩


set_option maxHeartbeats 400000 in
theorem rabs_any (x : Int) (w : World) (h1 : -9223372036854775807 ≤ x) (h2 : x ≤ 9223372036854775807) :
    Calls Tryz.prog 120 #[.int .i64 x] w fun e w' => e = .returned (.int .i64 (x.natAbs : Int)) ∧ w = w' := by
  go_enter Tryz.func120, Tryz.ntmps120
  go_wp2
  all_goals go_returns
  all_goals exact ⟨ret_int (by omega), rfl⟩

end Go.Proofs.YthkpggpnbdedjaaGreat
