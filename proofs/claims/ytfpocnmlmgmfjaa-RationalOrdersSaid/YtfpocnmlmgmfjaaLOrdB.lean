/- The law on the order, where the first two numbers compare so. -/
import Derived.Test.YtfpocnmlmgmfjaaRatLaw2
namespace Go.Proofs.Ytfpocnmlmgmfjaa
open Go.RowKit
set_option linter.unusedVariables false

set_option maxHeartbeats 4000000 in
theorem zero_ (aP aQ cP cQ : Int) (w : World) (va : vldB aP aQ = true) (vb : vldB aP aQ = true) (vc : vldB cP cQ = true) (hk : cmpT aP aQ aP aQ = 0)  (m l : Int) (hm : cmpT aP aQ cP cQ = m) (hl : cmpT aP aQ cP cQ = l) (htr : m = 1 ∨ (m ≤ 0 ∧ l ≤ 0))
    (xP xQ xE yP yQ yE : Int) (hx : addT aP aQ cP cQ = (xP, xQ, xE)) (hxy : (xE = 0 ∧ cmpT xP xQ xP xQ = 0) ∨ xE = 6)
    (hx1 : -2147483647 ≤ xP) (hx2 : xP ≤ 2147483647)
    (zP tP : Int) (hz : floorT aP aQ = (zP, 1, 0)) (ht : ceilT aP aQ = (tP, 1, 0)) (hz1 : -2147483647 ≤ zP) (hz2 : zP ≤ 2147483647) (ht1 : -2147483647 ≤ tP) (ht2 : tP ≤ 2147483647)
    (u v : Int) (hu : cmpT zP 1 aP aQ = u) (hv : cmpT tP 1 aP aQ = v) (hu1 : u ≤ 0) (hv1 : 0 ≤ v) (hd : tP - zP ≤ 1) (he : (tP == zP) = (aQ == 1)) :
    Calls Try.prog 12 #[.agg #[.int .i64 aP, .int .i64 aQ], .agg #[.int .i64 aP, .int .i64 aQ], .agg #[.int .i64 cP, .int .i64 cQ]] w fun e w' => e = .returned (.bool true) ∧ Below w.heap.size w w' := by
  obtain ⟨a1, a2, a3, a4⟩ := vld_bd va
  obtain ⟨c1, c2, c3, c4⟩ := vld_bd vc
  rcases hxy with ⟨rfl, hxk⟩ | rfl
  all_goals rcases htr with rfl | ⟨hm1, hl1⟩
  all_goals cases hq : (aQ == 1)
  all_goals rw [hq] at he
  all_goals
    go_enter Try.func12, Try.ntmps12
    go_wp2_with (first | (go_at_call 25; refine (at_eq _ _ _ (by with_reducible assumption) (add_any _ _ _ _ _ (by omega) (by omega) (by omega) (by omega))).mono ?_; rintro e w1 ⟨rfl, hb⟩; (refine mem hb ?_; intro N hN hz hc hf; (try simp at hN); subst hN)) | (go_at_call 41; refine (at_eq _ _ _ (by with_reducible assumption) (flr_any _ _ _ (by omega) (by omega))).mono ?_; rintro e w1 ⟨rfl, hb⟩; (refine mem hb ?_; intro N hN hz hc hf; (try simp at hN); subst hN)) | (go_at_call 42; refine (at_eq _ _ _ (by with_reducible assumption) (ceil_any _ _ _ (by omega) (by omega))).mono ?_; rintro e w1 ⟨rfl, hb⟩; (refine mem hb ?_; intro N hN hz hc hf; (try simp at hN); subst hN)) | (go_at_call 37; refine (rvalid_any _ _ _ (by omega) (by omega)).mono ?_; rintro e w1 ⟨rfl, hb⟩; (refine mem hb ?_; intro N hN hz hc hf; (try simp at hN); subst hN)) | (go_at_call 21; refine (cmp_any _ _ _ _ _ (by omega) (by omega) (by omega) (by omega)).mono ?_; rintro e w1 ⟨rfl, hb⟩; (refine mem hb ?_; intro N hN hz hc hf; (try simp at hN); subst hN)) | (go_at_call 18; refine (awake_any _).mono ?_; rintro e w1 ⟨rfl, hb⟩; (refine mem hb ?_; intro N hN hz hc hf; (try simp at hN); subst hN)))
    go_returns
    refine ⟨rfl, ?_⟩
    (repeat' (first | (with_reducible exact Below.refl _ _) | (with_reducible assumption) | (with_reducible refine Below.alloc ?_ ?_ _) | (with_reducible refine below_drewN ?_ _) | (with_reducible refine Below.drew ?_) | (with_reducible refine Below.setCell ?_ ?_ _) | (with_reducible refine below_via (by assumption) ?_ ?_) | (with_reducible exact Nat.le_refl _) | omega | (simp; omega) | (simp; done)))

end Go.Proofs.Ytfpocnmlmgmfjaa
