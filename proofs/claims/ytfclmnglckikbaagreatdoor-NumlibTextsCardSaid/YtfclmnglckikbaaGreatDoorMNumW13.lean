/- The contract of numeral.Text. -/
import Derived.Test.YtfclmnglckikbaaGreatDoorMRat
import Derived.Test.YtfclmnglckikbaaGreatDoorMStr
import Derived.Test.YtfclmnglckikbaaGreatDoorMPlainA
import Derived.Lib.ItoaLen
namespace Go.Proofs.YtfclmnglckikbaaGreatDoor
open Go.RowKit
set_option linter.unusedVariables false

/-- The text of a number. -/
def textL (p q : Int) : List UInt8 := if vldB p q then (if q = 1 then Lib.itoa p else Lib.itoa p ++ 47 :: Lib.itoa q) else [110, 97, 110]

theorem cat_mk (a b : List UInt8) : mkS a ++ mkS b = mkS (a ++ b) := by
  apply mkS_ext
  simp [mkS]

abbrev ItoaSays (W : World) (n : Int) (s : ByteArray) : Prop := ∀ w, Below W.heap.size W w → Calls Tryz.prog 52 #[.int .i64 n] w fun e w' => e = .returned (.string s) ∧ Below w.heap.size w w'
theorem itoa_says {W : World} (hT : Tabs W) (n : Int) (h0 : -9223372036854775808 ≤ n) (h1 : n ≤ 9223372036854775807) : ItoaSays W n (mkS (Lib.itoa n)) := fun w hb => itoa_any n h0 h1 w (hT.later hb)

set_option maxHeartbeats 1000000 in
theorem text_nan (p q : Int) (w : World) (hp : -9223372036854775808 ≤ p) (hp' : p ≤ 9223372036854775807) (hv : vldB p q = false) :
    Calls Tryz.prog 25 #[.agg #[.int .i64 p, .int .i64 q]] w fun e w' => e = .returned (.string ⟨#[110, 97, 110]⟩) ∧ Below w.heap.size w w' := by
  go_enter Tryz.func25, Tryz.ntmps25
  go_wp2_with (first | (go_at_call 48; refine (valid_any _ _ _ (by omega) (by omega)).mono ?_; rintro e w1 ⟨rfl, hb⟩; (refine mem hb ?_; intro N hN hz hc hf; (try simp at hN); subst hN)))
  go_returns
  refine ⟨rfl, ?_⟩
  (repeat' (first | (with_reducible exact Below.refl _ _) | (with_reducible assumption) | (with_reducible refine Below.alloc ?_ ?_ _) | (with_reducible refine below_drewN ?_ _) | (with_reducible refine Below.drew ?_) | (with_reducible refine Below.setCell ?_ ?_ _) | (with_reducible refine below_via (by assumption) ?_ ?_) | (with_reducible refine below_via (later_below _) ?_ ?_) | (with_reducible exact Nat.le_refl _) | omega | (simp; omega) | (simp; done)))

set_option maxHeartbeats 1000000 in
theorem text_int (p : Int) (s : ByteArray) (w : World) (hp : -9223372036854775808 ≤ p) (hp' : p ≤ 9223372036854775807) (hv : vldB p 1 = true) (hi : ItoaSays w p s) :
    Calls Tryz.prog 25 #[.agg #[.int .i64 p, .int .i64 1]] w fun e w' => e = .returned (.string s) ∧ Below w.heap.size w w' := by
  have HI := Lib.hid hi
  clear hi
  go_enter Tryz.func25, Tryz.ntmps25
  go_wp2_with (first | (go_at_call 48; refine (valid_any _ _ _ (by omega) (by omega)).mono ?_; rintro e w1 ⟨rfl, hb⟩; (refine mem hb ?_; intro N hN hz hc hf; (try simp at hN); subst hN)) | (go_at_call 52; refine (HI.out _ ?_).mono ?_; (focus ((repeat' (first | (with_reducible exact Below.refl _ _) | (with_reducible assumption) | (with_reducible refine Below.alloc ?_ ?_ _) | (with_reducible refine below_drewN ?_ _) | (with_reducible refine Below.drew ?_) | (with_reducible refine Below.setCell ?_ ?_ _) | (with_reducible refine below_via (by assumption) ?_ ?_) | (with_reducible refine below_via (later_below _) ?_ ?_) | (with_reducible exact Nat.le_refl _) | omega | (simp; omega) | (simp; done))))); rintro e w2 ⟨rfl, hb⟩))
  go_returns
  refine ⟨rfl, ?_⟩
  (repeat' (first | (with_reducible exact Below.refl _ _) | (with_reducible assumption) | (with_reducible refine Below.alloc ?_ ?_ _) | (with_reducible refine below_drewN ?_ _) | (with_reducible refine Below.drew ?_) | (with_reducible refine Below.setCell ?_ ?_ _) | (with_reducible refine below_via (by assumption) ?_ ?_) | (with_reducible refine below_via (later_below _) ?_ ?_) | (with_reducible exact Nat.le_refl _) | omega | (simp; omega) | (simp; done)))

set_option maxHeartbeats 1000000 in
theorem text_frac (p q : Int) (s t : ByteArray) (w : World) (hp : -9223372036854775808 ≤ p) (hp' : p ≤ 9223372036854775807) (hv : vldB p q = true) (hq : (q == 1) = false) (hi : ItoaSays w p s) (hi2 : ItoaSays w q t) (hz1 : s.size ≤ 21) (hz2 : t.size ≤ 21) :
    Calls Tryz.prog 25 #[.agg #[.int .i64 p, .int .i64 q]] w fun e w' => e = .returned (.string (s ++ ⟨#[47]⟩ ++ t)) ∧ Below w.heap.size w w' := by
  have HI := Lib.hid hi
  have HI2 := Lib.hid hi2
  clear hi hi2
  go_enter Tryz.func25, Tryz.ntmps25
  go_wp2_with (first | (go_at_call 48; refine (valid_any _ _ _ (by omega) (by omega)).mono ?_; rintro e w1 ⟨rfl, hb⟩; (refine mem hb ?_; intro N hN hz hc hf; (try simp at hN); subst hN)))
  (refine wp_region_calm (by kernel_rfl) (by kernel_rfl) ?_; refine calm_mem ?_; intro N hN hne hcu; (try simp at hN); subst hN; (repeat ((refine wpQuiet_step (fun K hK => ?_)); go_simp; (repeat (simp only [↓IntWalk.iteOmega]; go_simp)); (first | (refine hK _ ?_; clear hK K) | (apply Exists.intro; refine ⟨fun _ => ?_, hK _ ?_⟩; ((go_at_call 52; first | (with_reducible refine calm_of (HI.out _ ?_)) | (with_reducible refine calm_of (HI2.out _ ?_))); (repeat' (first | (with_reducible exact Below.refl _ _) | (with_reducible assumption) | (with_reducible refine Below.alloc ?_ ?_ _) | (with_reducible refine below_drewN ?_ _) | (with_reducible refine Below.drew ?_) | (with_reducible refine Below.setCell ?_ ?_ _) | (with_reducible refine below_via (by assumption) ?_ ?_) | (with_reducible refine below_via (later_below _) ?_ ?_) | (with_reducible exact Nat.le_refl _) | omega | (simp; omega) | (simp; done)))); clear hK K)))); refine wpQuiet_nil ?_; intro _ hw'; obtain ⟨⟨w1, hb⟩, hw''⟩ := hw'; subst hw''; clear hcu hne; (try dsimp only); (refine mem hb ?_; intro N hN hz hc hf; (try simp at hN); subst hN))
  go_wp2_with fail
  go_returns
  refine ⟨rfl, ?_⟩
  (repeat' (first | (with_reducible exact Below.refl _ _) | (with_reducible assumption) | (with_reducible refine Below.alloc ?_ ?_ _) | (with_reducible refine below_drewN ?_ _) | (with_reducible refine Below.drew ?_) | (with_reducible refine Below.setCell ?_ ?_ _) | (with_reducible refine below_via (by assumption) ?_ ?_) | (with_reducible refine below_via (later_below _) ?_ ?_) | (with_reducible exact Nat.le_refl _) | omega | (simp; omega) | (simp; done)))

theorem text_any (p q : Int) (w : World) (hp : -9223372036854775808 ≤ p) (hp' : p ≤ 9223372036854775807) (hT : Tabs w) :
    Calls Tryz.prog 25 #[.agg #[.int .i64 p, .int .i64 q]] w fun e w' => e = .returned (.string (mkS (textL p q))) ∧ Below w.heap.size w w' := by
  unfold textL
  cases hv : vldB p q
  · exact text_nan p q w hp hp' hv
  · obtain ⟨b1, b2, b3, b4⟩ := vld_bd hv
    rw [if_pos rfl]
    by_cases hq : q = 1
    · subst hq
      rw [if_pos rfl]
      exact text_int p _ w hp hp' hv (itoa_says hT p hp hp')
    · rw [if_neg hq]
      have := text_frac p q _ _ w hp hp' hv (by simpa using hq) (itoa_says hT p hp hp') (itoa_says hT q (by omega) (by omega)) (by rw [mkS_size]; exact Lib.itoa_length_le p hp hp') (by rw [mkS_size]; exact Lib.itoa_length_le q (by omega) (by omega))
      have e : mkS (Lib.itoa p) ++ ⟨#[47]⟩ ++ mkS (Lib.itoa q) = mkS (Lib.itoa p ++ 47 :: Lib.itoa q) := by
        rw [show (⟨#[47]⟩ : ByteArray) = mkS [47] from rfl, cat_mk, cat_mk]
        simp
      rw [← e]
      exact this
end Go.Proofs.YtfclmnglckikbaaGreatDoor
