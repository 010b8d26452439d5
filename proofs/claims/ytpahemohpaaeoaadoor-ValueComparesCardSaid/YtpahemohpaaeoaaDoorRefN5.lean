/- The reference's Base, Decimal and Text, joined. -/
import Derived.Test.YtpahemohpaaeoaaDoorRefN1
import Derived.Test.YtpahemohpaaeoaaDoorRatR2
import Derived.Test.YtpahemohpaaeoaaDoorNumW13
namespace Go.Proofs.YtpahemohpaaeoaaDoor
open Go.RowKit
set_option linter.unusedVariables false

theorem rbase_any (n b : Int) (hn : -9223372036854775808 ≤ n) (hn2 : n ≤ 9223372036854775807) (w : World) :
    Calls Tryd.prog 53 #[.int .i64 n, .int .i64 b] w fun e w' => e = .returned (strE (baseL n b)) ∧ Below w.heap.size w w' := by
  unfold baseL
  by_cases hb : b < 2 ∨ 36 < b
  · rw [if_pos hb]
    exact rbase_out n b w hb
  · rw [if_neg hb]
    obtain ⟨c, rfl⟩ : ∃ c : Nat, b = c := ⟨b.toNat, by omega⟩
    rw [Int.toNat_natCast]
    unfold bText
    by_cases h : n < 0
    · rw [if_pos h]
      obtain ⟨u, rfl⟩ : ∃ u : Nat, n = -(u : Int) := ⟨n.natAbs, by omega⟩
      have e : (-(u : Int)).natAbs = u := by omega
      rw [e]
      exact rbase_neg u c (by omega) (by omega) (by omega) (by omega) w
    · rw [if_neg h]
      obtain ⟨u, rfl⟩ : ∃ u : Nat, n = u := ⟨n.toNat, by omega⟩
      rw [Int.toNat_natCast]
      exact rbase_pos u c (by omega) (by omega) (by omega) w

set_option maxHeartbeats 1000000 in
theorem rdec_any (n : Int) (hn : -9223372036854775808 ≤ n) (hn2 : n ≤ 9223372036854775807) (w : World) :
    Calls Tryd.prog 41 #[.int .i64 n] w fun e w' => e = .returned (.string (mkS (Lib.itoa n))) ∧ Below w.heap.size w w' := by
  have e : baseL n 10 = (Lib.itoa n, 0) := by unfold baseL; rw [if_neg (by omega), itoa_bText]; rfl
  have HC : Hid (∀ w, Calls Tryd.prog 53 #[.int .i64 n, .int .i64 10] w fun e w' => e = .returned (.tuple #[.string (mkS (Lib.itoa n)), .int .i64 0]) ∧ Below w.heap.size w w') := fun w => by
    have := rbase_any n 10 hn hn2 w
    rw [e] at this
    exact this
  clear e
  go_enter Tryd.func41, Tryd.ntmps41
  go_wp2_with (first | (go_at_call 53; refine (HC.out _).mono ?_; rintro e w1 ⟨rfl, hb⟩))
  go_returns
  exact ⟨rfl, hb⟩

abbrev RDec (n : Int) (s : ByteArray) : Prop := ∀ w, Calls Tryd.prog 41 #[.int .i64 n] w fun e w' => e = .returned (.string s) ∧ Below w.heap.size w w'

set_option maxHeartbeats 1000000 in
theorem rtext_nan (p q : Int) (w : World) (hp : -9223372036854775808 ≤ p) (hp' : p ≤ 9223372036854775807) (hv : vldB p q = false) :
    Calls Tryd.prog 40 #[.agg #[.int .i64 p, .int .i64 q]] w fun e w' => e = .returned (.string ⟨#[110, 97, 110]⟩) ∧ Below w.heap.size w w' := by
  go_enter Tryd.func40, Tryd.ntmps40
  go_wp2_with (first | (go_at_call 25; refine (rvalid_any _ _ _ (by omega) (by omega)).mono ?_; rintro e w1 ⟨rfl, hb⟩; (refine mem hb ?_; intro N hN hz hc hf; (try simp at hN); subst hN)))
  go_returns
  refine ⟨rfl, ?_⟩
  (repeat' (first | (with_reducible exact Below.refl _ _) | (with_reducible assumption) | (with_reducible refine Below.alloc ?_ ?_ _) | (with_reducible refine below_drewN ?_ _) | (with_reducible refine Below.drew ?_) | (with_reducible refine Below.setCell ?_ ?_ _) | (with_reducible refine below_via (by assumption) ?_ ?_) | (with_reducible refine below_via (later_below _) ?_ ?_) | (with_reducible exact Nat.le_refl _) | omega | (simp; omega) | (simp; done)))

set_option maxHeartbeats 1000000 in
theorem rtext_int (p : Int) (s : ByteArray) (w : World) (hp : -9223372036854775808 ≤ p) (hp' : p ≤ 9223372036854775807) (hv : vldB p 1 = true) (hi : RDec p s) :
    Calls Tryd.prog 40 #[.agg #[.int .i64 p, .int .i64 1]] w fun e w' => e = .returned (.string s) ∧ Below w.heap.size w w' := by
  have HI := Lib.hid hi
  clear hi
  go_enter Tryd.func40, Tryd.ntmps40
  go_wp2_with (first | (go_at_call 25; refine (rvalid_any _ _ _ (by omega) (by omega)).mono ?_; rintro e w1 ⟨rfl, hb⟩; (refine mem hb ?_; intro N hN hz hc hf; (try simp at hN); subst hN)) | (go_at_call 41; refine (HI.out _).mono ?_; rintro e w2 ⟨rfl, hb⟩))
  go_returns
  refine ⟨rfl, ?_⟩
  (repeat' (first | (with_reducible exact Below.refl _ _) | (with_reducible assumption) | (with_reducible refine Below.alloc ?_ ?_ _) | (with_reducible refine below_drewN ?_ _) | (with_reducible refine Below.drew ?_) | (with_reducible refine Below.setCell ?_ ?_ _) | (with_reducible refine below_via (by assumption) ?_ ?_) | (with_reducible refine below_via (later_below _) ?_ ?_) | (with_reducible exact Nat.le_refl _) | omega | (simp; omega) | (simp; done)))

set_option maxHeartbeats 1000000 in
theorem rtext_frac (p q : Int) (s t : ByteArray) (w : World) (hp : -9223372036854775808 ≤ p) (hp' : p ≤ 9223372036854775807) (hv : vldB p q = true) (hq : (q == 1) = false) (hi : RDec p s) (hi2 : RDec q t) (hz1 : s.size ≤ 21) (hz2 : t.size ≤ 21) :
    Calls Tryd.prog 40 #[.agg #[.int .i64 p, .int .i64 q]] w fun e w' => e = .returned (.string (s ++ ⟨#[47]⟩ ++ t)) ∧ Below w.heap.size w w' := by
  have HI := Lib.hid hi
  have HI2 := Lib.hid hi2
  clear hi hi2
  go_enter Tryd.func40, Tryd.ntmps40
  go_wp2_with (first | (go_at_call 25; refine (rvalid_any _ _ _ (by omega) (by omega)).mono ?_; rintro e w1 ⟨rfl, hb⟩; (refine mem hb ?_; intro N hN hz hc hf; (try simp at hN); subst hN)))
  (refine wp_region_calm (by kernel_rfl) (by kernel_rfl) ?_; refine calm_mem ?_; intro N hN hne hcu; (try simp at hN); subst hN; (repeat ((refine wpQuiet_step (fun K hK => ?_)); go_simp; (repeat (simp only [↓IntWalk.iteOmega]; go_simp)); (first | (refine hK _ ?_; clear hK K) | (apply Exists.intro; refine ⟨fun _ => ?_, hK _ ?_⟩; ((go_at_call 41; first | (with_reducible refine calm_of (HI.out _)) | (with_reducible refine calm_of (HI2.out _)))); clear hK K)))); refine wpQuiet_nil ?_; intro _ hw'; obtain ⟨⟨w1, hb⟩, hw''⟩ := hw'; subst hw''; clear hcu hne; (try dsimp only); (refine mem hb ?_; intro N hN hz hc hf; (try simp at hN); subst hN))
  go_wp2_with fail
  go_returns
  refine ⟨rfl, ?_⟩
  (repeat' (first | (with_reducible exact Below.refl _ _) | (with_reducible assumption) | (with_reducible refine Below.alloc ?_ ?_ _) | (with_reducible refine below_drewN ?_ _) | (with_reducible refine Below.drew ?_) | (with_reducible refine Below.setCell ?_ ?_ _) | (with_reducible refine below_via (by assumption) ?_ ?_) | (with_reducible refine below_via (later_below _) ?_ ?_) | (with_reducible exact Nat.le_refl _) | omega | (simp; omega) | (simp; done)))

theorem rtext_any (p q : Int) (w : World) (hp : -9223372036854775808 ≤ p) (hp' : p ≤ 9223372036854775807) :
    Calls Tryd.prog 40 #[.agg #[.int .i64 p, .int .i64 q]] w fun e w' => e = .returned (.string (mkS (textL p q))) ∧ Below w.heap.size w w' := by
  unfold textL
  cases hv : vldB p q
  · exact rtext_nan p q w hp hp' hv
  · obtain ⟨b1, b2, b3, b4⟩ := vld_bd hv
    rw [if_pos rfl]
    by_cases hq : q = 1
    · subst hq
      rw [if_pos rfl]
      exact rtext_int p _ w hp hp' hv (fun w => rdec_any p hp hp' w)
    · rw [if_neg hq]
      have := rtext_frac p q _ _ w hp hp' hv (by simpa using hq) (fun w => rdec_any p hp hp' w) (fun w => rdec_any q (by omega) (by omega) w) (by rw [mkS_size]; exact Lib.itoa_length_le p hp hp') (by rw [mkS_size]; exact Lib.itoa_length_le q (by omega) (by omega))
      have e : mkS (Lib.itoa p) ++ ⟨#[47]⟩ ++ mkS (Lib.itoa q) = mkS (Lib.itoa p ++ 47 :: Lib.itoa q) := by
        rw [show (⟨#[47]⟩ : ByteArray) = mkS [47] from rfl, cat_mk, cat_mk]
        simp
      rw [← e]
      exact this
end Go.Proofs.YtpahemohpaaeoaaDoor
