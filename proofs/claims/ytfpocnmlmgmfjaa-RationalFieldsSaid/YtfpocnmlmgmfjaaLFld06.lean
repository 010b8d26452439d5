/- The law on sums and products, where the first two sums exist or not. -/
import Derived.Test.YtfpocnmlmgmfjaaRatDif
namespace Go.Proofs.Ytfpocnmlmgmfjaa
open Go.RowKit
set_option linter.unusedVariables false

set_option maxRecDepth 100000 in
set_option maxHeartbeats 4000000 in
theorem f06 (aP aQ bP bQ cP cQ : Int) (w : World) (va : vldB aP aQ = true) (vb : vldB bP bQ = true) (vc : vldB cP cQ = true) (sP sQ tP tQ mP mQ mE nP nQ nE : Int) (hab : addT aP aQ bP bQ = (sP, sQ, 0)) (hba : addT bP bQ aP aQ = (sP, sQ, 0)) (hbc : addT bP bQ cP cQ = (tP, tQ, 6)) (hmab : mulT aP aQ bP bQ = (mP, mQ, mE)) (hmba : mulT bP bQ aP aQ = (mP, mQ, mE)) (hmac : mulT aP aQ cP cQ = (nP, nQ, nE)) (xP xQ xE uP uQ uE : Int) (hx0 : xE = 0 ∨ xE = 6) (bs1 : -2147483647 ≤ sP) (bs2 : sP ≤ 2147483647) (bt1 : -2147483647 ≤ tP) (bt2 : tP ≤ 2147483647) (bm1 : -2147483647 ≤ mP) (bm2 : mP ≤ 2147483647) (bn1 : -2147483647 ≤ nP) (bn2 : nP ≤ 2147483647) (bx1 : -2147483647 ≤ xP) (bx2 : xP ≤ 2147483647) (bu1 : -2147483647 ≤ uP) (bu2 : uP ≤ 2147483647) (vs : vldB sP sQ = true) (hm : mE = 6 ∨ (mE = 0 ∧ vldB mP mQ = true ∧ (bP = 0 ∨ ((bP != 0) = true ∧ divT mP mQ bP bQ = (aP, aQ, 0))))) (yP yQ yE : Int) (hneg : negT bP bQ = (-bP, bQ, 0)) (hsub : subT aP aQ bP bQ = (yP, yQ, yE)) (hsub2 : addT aP aQ (-bP) bQ = (yP, yQ, yE)) (hmk : makeT aP aQ = (aP, aQ, 0)) :
    Calls Try.prog 11 #[.agg #[.int .i64 aP, .int .i64 aQ], .agg #[.int .i64 bP, .int .i64 bQ], .agg #[.int .i64 cP, .int .i64 cQ]] w fun e w' => e = .returned (.bool true) ∧ Below w.heap.size w w' := by
  obtain ⟨a1, a2, a3, a4⟩ := vld_bd va
  obtain ⟨b1, b2, b3, b4⟩ := vld_bd vb
  obtain ⟨c1, c2, c3, c4⟩ := vld_bd vc
  rcases hm with rfl | ⟨rfl, vm, rfl | ⟨hb0, hdiv⟩⟩
  all_goals first | (simp only [Int.neg_zero] at hsub2 hneg; rw [hab] at hsub2; obtain ⟨rfl, h5⟩ := Prod.mk.inj hsub2; obtain ⟨rfl, rfl⟩ := Prod.mk.inj h5) | skip
  all_goals
    go_enter Try.func11, Try.ntmps11
    go_wp2_with (first | (go_at_call 39; refine (differ_same _ _ _ _ (by with_reducible assumption)).mono ?_; rintro e w1 ⟨rfl, hb⟩; (refine mem hb ?_; intro N hN hz hc hf; (try simp at hN); subst hN)) | (go_at_call 25; refine (at_eq _ _ _ (by with_reducible assumption) (add_any _ _ _ _ _ (by omega) (by omega) (by omega) (by omega))).mono ?_; rintro e w1 ⟨rfl, hb⟩; (refine mem hb ?_; intro N hN hz hc hf; (try simp at hN); subst hN)) | (go_at_call 29; refine (at_eq _ _ _ (by with_reducible assumption) (mul_any _ _ _ _ _ (by omega) (by omega) (by omega) (by omega))).mono ?_; rintro e w1 ⟨rfl, hb⟩; (refine mem hb ?_; intro N hN hz hc hf; (try simp at hN); subst hN)) | (go_at_call 31; refine (at_eq _ _ _ (by with_reducible assumption) (div_any _ _ _ _ _ (by omega) (by omega) (by omega) (by omega))).mono ?_; rintro e w1 ⟨rfl, hb⟩; (refine mem hb ?_; intro N hN hz hc hf; (try simp at hN); subst hN)) | (go_at_call 27; refine (at_eq _ _ _ (by with_reducible assumption) (sub_any _ _ _ _ _ (by omega) (by omega) (by omega) (by omega))).mono ?_; rintro e w1 ⟨rfl, hb⟩; (refine mem hb ?_; intro N hN hz hc hf; (try simp at hN); subst hN)) | (go_at_call 40; refine (at_eq _ _ _ (by with_reducible assumption) (neg_any _ _ _ (by omega) (by omega))).mono ?_; rintro e w1 ⟨rfl, hb⟩; (refine mem hb ?_; intro N hN hz hc hf; (try simp at hN); subst hN)) | (go_at_call 14; refine (at_eq _ _ _ (by with_reducible assumption) (make_any _ _ _)).mono ?_; rintro e w1 ⟨rfl, hb⟩; (refine mem hb ?_; intro N hN hz hc hf; (try simp at hN); subst hN)) | (go_at_call 37; refine (rvalid_any _ _ _ (by omega) (by omega)).mono ?_; rintro e w1 ⟨rfl, hb⟩; (refine mem hb ?_; intro N hN hz hc hf; (try simp at hN); subst hN)) | (go_at_call 38; refine (valid_any _ _ _ (by omega) (by omega)).mono ?_; rintro e w1 ⟨rfl, hb⟩; (refine mem hb ?_; intro N hN hz hc hf; (try simp at hN); subst hN)) | (go_at_call 18; refine (awake_any _).mono ?_; rintro e w1 ⟨rfl, hb⟩; (refine mem hb ?_; intro N hN hz hc hf; (try simp at hN); subst hN)))
    go_returns
    refine ⟨rfl, ?_⟩
    (repeat' (first | (with_reducible exact Below.refl _ _) | (with_reducible assumption) | (with_reducible refine Below.alloc ?_ ?_ _) | (with_reducible refine below_drewN ?_ _) | (with_reducible refine Below.drew ?_) | (with_reducible refine Below.setCell ?_ ?_ _) | (with_reducible refine below_via (by assumption) ?_ ?_) | (with_reducible exact Nat.le_refl _) | omega | (simp; omega) | (simp; done)))

end Go.Proofs.Ytfpocnmlmgmfjaa
