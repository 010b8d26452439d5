/- The law RationalDivides holds: for every input it returns true, and each argument reads as it did. No conditions. -/
import Derived.Test.YtfpocnmlmgmfjaaRatLaw2
import Derived.ProofKit
import Derived.OpenShut
import Derived.Lib.SmallJoins
namespace Go.Proofs.Ytfpocnmlmgmfjaa.rationalDivides
open Go.ChangeShapes Go.WideShapes Go.ChangeAt Go.RowKit Go.Joins
set_option linter.unusedVariables false

theorem own : ownKnob Try.prog.godebug = none := by kernel_rfl
theorem laidOut : laidOutB Try.prog = true := by kernel_rfl

set_option maxHeartbeats 1000000 in
theorem zero (aP aQ bQ : Int) (w : World) (va : vldB aP aQ = true) (vb : vldB 0 bQ = true) :
    Calls Try.prog 10 #[.agg #[.int .i64 aP, .int .i64 aQ], .agg #[.int .i64 0, .int .i64 bQ]] w fun e w' => e = .returned (.bool true) ∧ Below w.heap.size w w' := by
  obtain ⟨h1, h2⟩ := mod_zero_T va vb
  obtain ⟨a1, a2, a3, a4⟩ := vld_bd va
  obtain ⟨b1, b2, b3, b4⟩ := vld_bd vb
  go_enter Try.func10, Try.ntmps10
  go_wp2_with (first | (go_at_call 33; refine (at_eq _ _ _ (by with_reducible assumption) (quot_any _ _ _ _ _ (by omega) (by omega) (by omega) (by omega))).mono ?_; rintro e w1 ⟨rfl, hb⟩; (refine mem hb ?_; intro N hN hz hc hf; (try simp at hN); subst hN)) | (go_at_call 35; refine (at_eq _ _ _ (by with_reducible assumption) (mod_any _ _ _ _ _ (by omega) (by omega) (by omega) (by omega))).mono ?_; rintro e w1 ⟨rfl, hb⟩; (refine mem hb ?_; intro N hN hz hc hf; (try simp at hN); subst hN)) | (go_at_call 29; refine (at_eq _ _ _ (by with_reducible assumption) (mul_any _ _ _ _ _ (by omega) (by omega) (by omega) (by omega))).mono ?_; rintro e w1 ⟨rfl, hb⟩; (refine mem hb ?_; intro N hN hz hc hf; (try simp at hN); subst hN)) | (go_at_call 25; refine (at_eq _ _ _ (by with_reducible assumption) (add_any _ _ _ _ _ (by omega) (by omega) (by omega) (by omega))).mono ?_; rintro e w1 ⟨rfl, hb⟩; (refine mem hb ?_; intro N hN hz hc hf; (try simp at hN); subst hN)) | (go_at_call 37; refine (rvalid_any _ _ _ (by omega) (by omega)).mono ?_; rintro e w1 ⟨rfl, hb⟩; (refine mem hb ?_; intro N hN hz hc hf; (try simp at hN); subst hN)) | (go_at_call 21; refine (cmp_any _ _ _ _ _ (by omega) (by omega) (by omega) (by omega)).mono ?_; rintro e w1 ⟨rfl, hb⟩; (refine mem hb ?_; intro N hN hz hc hf; (try simp at hN); subst hN)) | (go_at_call 18; refine (awake_any _).mono ?_; rintro e w1 ⟨rfl, hb⟩; (refine mem hb ?_; intro N hN hz hc hf; (try simp at hN); subst hN)))
  go_returns
  refine ⟨rfl, ?_⟩
  (repeat' (first | (with_reducible exact Below.refl _ _) | (with_reducible assumption) | (with_reducible refine Below.alloc ?_ ?_ _) | (with_reducible refine below_drewN ?_ _) | (with_reducible refine Below.drew ?_) | (with_reducible refine Below.setCell ?_ ?_ _) | (with_reducible refine below_via (by assumption) ?_ ?_) | (with_reducible exact Nat.le_refl _) | omega | (simp; omega) | (simp; done)))

set_option maxHeartbeats 1000000 in
theorem out1 (aP aQ bP bQ : Int) (w : World) (va : vldB aP aQ = true) (vb : vldB bP bQ = true) (hc : bP ≠ 0) (qP qQ qE mP mQ : Int) (h1 : quotT aP aQ bP bQ = (qP, qQ, qE)) (hE : qE = 0 ∨ qE = 6) (h2 : modT aP aQ bP bQ = (mP, mQ, 6)) :
    Calls Try.prog 10 #[.agg #[.int .i64 aP, .int .i64 aQ], .agg #[.int .i64 bP, .int .i64 bQ]] w fun e w' => e = .returned (.bool true) ∧ Below w.heap.size w w' := by
  have hc0 : (bP == 0) = false := by simpa using hc
  obtain ⟨a1, a2, a3, a4⟩ := vld_bd va
  obtain ⟨b1, b2, b3, b4⟩ := vld_bd vb
  rcases hE with rfl | rfl
  · go_enter Try.func10, Try.ntmps10
    go_wp2_with (first | (go_at_call 33; refine (at_eq _ _ _ (by with_reducible assumption) (quot_any _ _ _ _ _ (by omega) (by omega) (by omega) (by omega))).mono ?_; rintro e w1 ⟨rfl, hb⟩; (refine mem hb ?_; intro N hN hz hc hf; (try simp at hN); subst hN)) | (go_at_call 35; refine (at_eq _ _ _ (by with_reducible assumption) (mod_any _ _ _ _ _ (by omega) (by omega) (by omega) (by omega))).mono ?_; rintro e w1 ⟨rfl, hb⟩; (refine mem hb ?_; intro N hN hz hc hf; (try simp at hN); subst hN)) | (go_at_call 29; refine (at_eq _ _ _ (by with_reducible assumption) (mul_any _ _ _ _ _ (by omega) (by omega) (by omega) (by omega))).mono ?_; rintro e w1 ⟨rfl, hb⟩; (refine mem hb ?_; intro N hN hz hc hf; (try simp at hN); subst hN)) | (go_at_call 25; refine (at_eq _ _ _ (by with_reducible assumption) (add_any _ _ _ _ _ (by omega) (by omega) (by omega) (by omega))).mono ?_; rintro e w1 ⟨rfl, hb⟩; (refine mem hb ?_; intro N hN hz hc hf; (try simp at hN); subst hN)) | (go_at_call 37; refine (rvalid_any _ _ _ (by omega) (by omega)).mono ?_; rintro e w1 ⟨rfl, hb⟩; (refine mem hb ?_; intro N hN hz hc hf; (try simp at hN); subst hN)) | (go_at_call 21; refine (cmp_any _ _ _ _ _ (by omega) (by omega) (by omega) (by omega)).mono ?_; rintro e w1 ⟨rfl, hb⟩; (refine mem hb ?_; intro N hN hz hc hf; (try simp at hN); subst hN)) | (go_at_call 18; refine (awake_any _).mono ?_; rintro e w1 ⟨rfl, hb⟩; (refine mem hb ?_; intro N hN hz hc hf; (try simp at hN); subst hN)))
    go_returns
    refine ⟨rfl, ?_⟩
    (repeat' (first | (with_reducible exact Below.refl _ _) | (with_reducible assumption) | (with_reducible refine Below.alloc ?_ ?_ _) | (with_reducible refine below_drewN ?_ _) | (with_reducible refine Below.drew ?_) | (with_reducible refine Below.setCell ?_ ?_ _) | (with_reducible refine below_via (by assumption) ?_ ?_) | (with_reducible exact Nat.le_refl _) | omega | (simp; omega) | (simp; done)))
  · go_enter Try.func10, Try.ntmps10
    go_wp2_with (first | (go_at_call 33; refine (at_eq _ _ _ (by with_reducible assumption) (quot_any _ _ _ _ _ (by omega) (by omega) (by omega) (by omega))).mono ?_; rintro e w1 ⟨rfl, hb⟩; (refine mem hb ?_; intro N hN hz hc hf; (try simp at hN); subst hN)) | (go_at_call 35; refine (at_eq _ _ _ (by with_reducible assumption) (mod_any _ _ _ _ _ (by omega) (by omega) (by omega) (by omega))).mono ?_; rintro e w1 ⟨rfl, hb⟩; (refine mem hb ?_; intro N hN hz hc hf; (try simp at hN); subst hN)) | (go_at_call 29; refine (at_eq _ _ _ (by with_reducible assumption) (mul_any _ _ _ _ _ (by omega) (by omega) (by omega) (by omega))).mono ?_; rintro e w1 ⟨rfl, hb⟩; (refine mem hb ?_; intro N hN hz hc hf; (try simp at hN); subst hN)) | (go_at_call 25; refine (at_eq _ _ _ (by with_reducible assumption) (add_any _ _ _ _ _ (by omega) (by omega) (by omega) (by omega))).mono ?_; rintro e w1 ⟨rfl, hb⟩; (refine mem hb ?_; intro N hN hz hc hf; (try simp at hN); subst hN)) | (go_at_call 37; refine (rvalid_any _ _ _ (by omega) (by omega)).mono ?_; rintro e w1 ⟨rfl, hb⟩; (refine mem hb ?_; intro N hN hz hc hf; (try simp at hN); subst hN)) | (go_at_call 21; refine (cmp_any _ _ _ _ _ (by omega) (by omega) (by omega) (by omega)).mono ?_; rintro e w1 ⟨rfl, hb⟩; (refine mem hb ?_; intro N hN hz hc hf; (try simp at hN); subst hN)) | (go_at_call 18; refine (awake_any _).mono ?_; rintro e w1 ⟨rfl, hb⟩; (refine mem hb ?_; intro N hN hz hc hf; (try simp at hN); subst hN)))
    go_returns
    refine ⟨rfl, ?_⟩
    (repeat' (first | (with_reducible exact Below.refl _ _) | (with_reducible assumption) | (with_reducible refine Below.alloc ?_ ?_ _) | (with_reducible refine below_drewN ?_ _) | (with_reducible refine Below.drew ?_) | (with_reducible refine Below.setCell ?_ ?_ _) | (with_reducible refine below_via (by assumption) ?_ ?_) | (with_reducible exact Nat.le_refl _) | omega | (simp; omega) | (simp; done)))

/-- The remainder's sign, as the walk asks it. -/
def SignOk (mP bP : Int) : Prop := (mP = 0 ∧ (mP != 0) = false) ∨ ((mP != 0) = true ∧ ((decide (mP < 0) = true ∧ decide (bP < 0) = true) ∨ (decide (mP < 0) = false ∧ decide (bP < 0) = false)))
theorem sign_ok {mP bP : Int} (hb : bP ≠ 0) (h : mP ≠ 0 → (mP < 0 ↔ bP < 0)) : SignOk mP bP := by
  by_cases hm : mP = 0
  · exact .inl ⟨hm, by simp [hm]⟩
  · refine .inr ⟨by simpa using hm, ?_⟩
    have := h hm
    by_cases hn : mP < 0
    · exact .inl ⟨by simpa using hn, by simp; omega⟩
    · exact .inr ⟨by simpa using hn, by simp; omega⟩

set_option maxHeartbeats 2000000 in
theorem some6 (aP aQ bP bQ : Int) (w : World) (va : vldB aP aQ = true) (vb : vldB bP bQ = true) (hc : bP ≠ 0) (qP qQ mP mQ : Int) (h1 : quotT aP aQ bP bQ = (qP, qQ, 6)) (h2 : modT aP aQ bP bQ = (mP, mQ, 0)) (hm1 : -2147483647 ≤ mP) (hm2 : mP ≤ 2147483647)
    (hs : SignOk mP bP) (hcmp : (0 < bP ∧ cmpT mP mQ bP bQ = -1) ∨ (bP < 0 ∧ cmpT mP mQ bP bQ = 1)) :
    Calls Try.prog 10 #[.agg #[.int .i64 aP, .int .i64 aQ], .agg #[.int .i64 bP, .int .i64 bQ]] w fun e w' => e = .returned (.bool true) ∧ Below w.heap.size w w' := by
  have hc0 : (bP == 0) = false := by simpa using hc
  obtain ⟨a1, a2, a3, a4⟩ := vld_bd va
  obtain ⟨b1, b2, b3, b4⟩ := vld_bd vb
  rcases hcmp with ⟨g1, g2⟩ | ⟨g1, g2⟩
  all_goals rcases hs with ⟨rfl, s1⟩ | ⟨s1, ⟨s2, s3⟩ | ⟨s2, s3⟩⟩
  all_goals first | (exfalso; simp at s3; omega) | skip
  all_goals
    go_enter Try.func10, Try.ntmps10
    go_wp2_with (first | (go_at_call 33; refine (at_eq _ _ _ (by with_reducible assumption) (quot_any _ _ _ _ _ (by omega) (by omega) (by omega) (by omega))).mono ?_; rintro e w1 ⟨rfl, hb⟩; (refine mem hb ?_; intro N hN hz hc hf; (try simp at hN); subst hN)) | (go_at_call 35; refine (at_eq _ _ _ (by with_reducible assumption) (mod_any _ _ _ _ _ (by omega) (by omega) (by omega) (by omega))).mono ?_; rintro e w1 ⟨rfl, hb⟩; (refine mem hb ?_; intro N hN hz hc hf; (try simp at hN); subst hN)) | (go_at_call 29; refine (at_eq _ _ _ (by with_reducible assumption) (mul_any _ _ _ _ _ (by omega) (by omega) (by omega) (by omega))).mono ?_; rintro e w1 ⟨rfl, hb⟩; (refine mem hb ?_; intro N hN hz hc hf; (try simp at hN); subst hN)) | (go_at_call 25; refine (at_eq _ _ _ (by with_reducible assumption) (add_any _ _ _ _ _ (by omega) (by omega) (by omega) (by omega))).mono ?_; rintro e w1 ⟨rfl, hb⟩; (refine mem hb ?_; intro N hN hz hc hf; (try simp at hN); subst hN)) | (go_at_call 37; refine (rvalid_any _ _ _ (by omega) (by omega)).mono ?_; rintro e w1 ⟨rfl, hb⟩; (refine mem hb ?_; intro N hN hz hc hf; (try simp at hN); subst hN)) | (go_at_call 21; refine (cmp_any _ _ _ _ _ (by omega) (by omega) (by omega) (by omega)).mono ?_; rintro e w1 ⟨rfl, hb⟩; (refine mem hb ?_; intro N hN hz hc hf; (try simp at hN); subst hN)) | (go_at_call 18; refine (awake_any _).mono ?_; rintro e w1 ⟨rfl, hb⟩; (refine mem hb ?_; intro N hN hz hc hf; (try simp at hN); subst hN)))
    go_returns
    refine ⟨rfl, ?_⟩
    (repeat' (first | (with_reducible exact Below.refl _ _) | (with_reducible assumption) | (with_reducible refine Below.alloc ?_ ?_ _) | (with_reducible refine below_drewN ?_ _) | (with_reducible refine Below.drew ?_) | (with_reducible refine Below.setCell ?_ ?_ _) | (with_reducible refine below_via (by assumption) ?_ ?_) | (with_reducible exact Nat.le_refl _) | omega | (simp; omega) | (simp; done)))

set_option maxHeartbeats 2000000 in
theorem both0 (aP aQ bP bQ : Int) (w : World) (va : vldB aP aQ = true) (vb : vldB bP bQ = true) (hc : bP ≠ 0) (qP qQ mP mQ xP xQ xE : Int) (h1 : quotT aP aQ bP bQ = (qP, qQ, 0)) (h2 : modT aP aQ bP bQ = (mP, mQ, 0)) (hm1 : -2147483647 ≤ mP) (hm2 : mP ≤ 2147483647) (hq1 : -2147483647 ≤ qP) (hq2 : qP ≤ 2147483647)
    (hs : SignOk mP bP) (hcmp : (0 < bP ∧ cmpT mP mQ bP bQ = -1) ∨ (bP < 0 ∧ cmpT mP mQ bP bQ = 1)) (h3 : mulT bP bQ qP qQ = (xP, xQ, xE)) (hx1 : -2147483647 ≤ xP) (hx2 : xP ≤ 2147483647) (hx : xE = 6 ∨ (xE = 0 ∧ addT xP xQ mP mQ = (aP, aQ, 0))) :
    Calls Try.prog 10 #[.agg #[.int .i64 aP, .int .i64 aQ], .agg #[.int .i64 bP, .int .i64 bQ]] w fun e w' => e = .returned (.bool true) ∧ Below w.heap.size w w' := by
  have hc0 : (bP == 0) = false := by simpa using hc
  obtain ⟨a1, a2, a3, a4⟩ := vld_bd va
  obtain ⟨b1, b2, b3, b4⟩ := vld_bd vb
  rcases hx with rfl | ⟨rfl, h4⟩
  all_goals rcases hcmp with ⟨g1, g2⟩ | ⟨g1, g2⟩
  all_goals rcases hs with ⟨rfl, s1⟩ | ⟨s1, ⟨s2, s3⟩ | ⟨s2, s3⟩⟩
  all_goals first | (exfalso; simp at s3; omega) | skip
  all_goals
    go_enter Try.func10, Try.ntmps10
    go_wp2_with (first | (go_at_call 33; refine (at_eq _ _ _ (by with_reducible assumption) (quot_any _ _ _ _ _ (by omega) (by omega) (by omega) (by omega))).mono ?_; rintro e w1 ⟨rfl, hb⟩; (refine mem hb ?_; intro N hN hz hc hf; (try simp at hN); subst hN)) | (go_at_call 35; refine (at_eq _ _ _ (by with_reducible assumption) (mod_any _ _ _ _ _ (by omega) (by omega) (by omega) (by omega))).mono ?_; rintro e w1 ⟨rfl, hb⟩; (refine mem hb ?_; intro N hN hz hc hf; (try simp at hN); subst hN)) | (go_at_call 29; refine (at_eq _ _ _ (by with_reducible assumption) (mul_any _ _ _ _ _ (by omega) (by omega) (by omega) (by omega))).mono ?_; rintro e w1 ⟨rfl, hb⟩; (refine mem hb ?_; intro N hN hz hc hf; (try simp at hN); subst hN)) | (go_at_call 25; refine (at_eq _ _ _ (by with_reducible assumption) (add_any _ _ _ _ _ (by omega) (by omega) (by omega) (by omega))).mono ?_; rintro e w1 ⟨rfl, hb⟩; (refine mem hb ?_; intro N hN hz hc hf; (try simp at hN); subst hN)) | (go_at_call 37; refine (rvalid_any _ _ _ (by omega) (by omega)).mono ?_; rintro e w1 ⟨rfl, hb⟩; (refine mem hb ?_; intro N hN hz hc hf; (try simp at hN); subst hN)) | (go_at_call 21; refine (cmp_any _ _ _ _ _ (by omega) (by omega) (by omega) (by omega)).mono ?_; rintro e w1 ⟨rfl, hb⟩; (refine mem hb ?_; intro N hN hz hc hf; (try simp at hN); subst hN)) | (go_at_call 18; refine (awake_any _).mono ?_; rintro e w1 ⟨rfl, hb⟩; (refine mem hb ?_; intro N hN hz hc hf; (try simp at hN); subst hN)))
    go_returns
    refine ⟨rfl, ?_⟩
    (repeat' (first | (with_reducible exact Below.refl _ _) | (with_reducible assumption) | (with_reducible refine Below.alloc ?_ ?_ _) | (with_reducible refine below_drewN ?_ _) | (with_reducible refine Below.drew ?_) | (with_reducible refine Below.setCell ?_ ?_ _) | (with_reducible refine below_via (by assumption) ?_ ?_) | (with_reducible exact Nat.le_refl _) | omega | (simp; omega) | (simp; done)))

theorem good (aP aQ bP bQ : Int) (w : World) (va : vldB aP aQ = true) (vb : vldB bP bQ = true) :
    Calls Try.prog 10 #[.agg #[.int .i64 aP, .int .i64 aQ], .agg #[.int .i64 bP, .int .i64 bQ]] w fun e w' => e = .returned (.bool true) ∧ Below w.heap.size w w' := by
  by_cases hc : bP = 0
  · subst hc; exact zero aP aQ bQ w va vb
  · obtain ⟨e1, e2⟩ := div_E_T va vb hc
    have m1 := modT_bd aP aQ bP bQ
    have q1 := quotT_bd aP aQ bP bQ
    rcases e2 with e2 | e2
    · have k := mod_sign_T va vb hc e2
      have hcmp : (0 < bP ∧ cmpT (modT aP aQ bP bQ).1 (modT aP aQ bP bQ).2.1 bP bQ = -1) ∨ (bP < 0 ∧ cmpT (modT aP aQ bP bQ).1 (modT aP aQ bP bQ).2.1 bP bQ = 1) := by
        by_cases hp : 0 < bP
        · exact .inl ⟨hp, k.2.1 hp⟩
        · exact .inr ⟨by omega, k.2.2 (by omega)⟩
      rcases e1 with e1 | e1
      · have x1 := mulT_bd bP bQ (quotT aP aQ bP bQ).1 (quotT aP aQ bP bQ).2.1
        have vq : vldB (quotT aP aQ bP bQ).1 (quotT aP aQ bP bQ).2.1 = true := by
          rw [quotT_yes va vb hc] at e1 ⊢
          unfold intT at e1 ⊢
          split at e1
          · rename_i hh; rw [if_pos hh]; exact vld_int hh.1 hh.2
          · cases e1
        refine both0 aP aQ bP bQ w va vb hc _ _ _ _ _ _ _ (Prod.ext rfl (Prod.ext rfl e1)) (Prod.ext rfl (Prod.ext rfl e2)) m1.1 m1.2 q1.1 q1.2 (sign_ok hc k.1) hcmp rfl x1.1 x1.2 ?_
        rcases mulT_E vb vq with e3 | e3
        · exact .inr ⟨e3, mod_back_T va vb hc e1 e2 e3⟩
        · exact .inl e3
      · exact some6 aP aQ bP bQ w va vb hc _ _ _ _ (Prod.ext rfl (Prod.ext rfl e1)) (Prod.ext rfl (Prod.ext rfl e2)) m1.1 m1.2 (sign_ok hc k.1) hcmp
    · exact out1 aP aQ bP bQ w va vb hc _ _ _ _ _ rfl e1 (Prod.ext rfl (Prod.ext rfl e2))

set_option maxHeartbeats 1000000 in
theorem walk (aP aQ : Int) (waP : (Lit.int .i64 aP).wf = true) (waQ : (Lit.int .i64 aQ).wf = true) (bP bQ : Int) (wbP : (Lit.int .i64 bP).wf = true) (wbQ : (Lit.int .i64 bQ).wf = true) (w : World) :
    Calls Try.prog 10 #[.agg #[.int .i64 aP, .int .i64 aQ], .agg #[.int .i64 bP, .int .i64 bQ]] w fun e w' => e = .returned (.bool true) ∧ Below w.heap.size w w' := by
  obtain ⟨baP1, baP2⟩ := bounds_i64 waP
  obtain ⟨bbP1, bbP2⟩ := bounds_i64 wbP
  cases va : vldB aP aQ
  · go_enter Try.func10, Try.ntmps10
    go_wp2_with (first | (go_at_call 37; refine (rvalid_any _ _ _ (by omega) (by omega)).mono ?_; rintro e w1 ⟨rfl, hb⟩; (refine mem hb ?_; intro N hN hz hc hf; (try simp at hN); subst hN)) | (go_at_call 38; refine (valid_any _ _ _ (by omega) (by omega)).mono ?_; rintro e w1 ⟨rfl, hb⟩; (refine mem hb ?_; intro N hN hz hc hf; (try simp at hN); subst hN)) | (go_at_call 18; refine (awake_any _).mono ?_; rintro e w1 ⟨rfl, hb⟩; (refine mem hb ?_; intro N hN hz hc hf; (try simp at hN); subst hN)))
    go_returns
    refine ⟨rfl, ?_⟩
    (repeat' (first | (with_reducible exact Below.refl _ _) | (with_reducible assumption) | (with_reducible refine Below.alloc ?_ ?_ _) | (with_reducible refine below_drewN ?_ _) | (with_reducible refine Below.drew ?_) | (with_reducible refine Below.setCell ?_ ?_ _) | (with_reducible refine below_via (by assumption) ?_ ?_) | (with_reducible exact Nat.le_refl _) | omega | (simp; omega) | (simp; done)))
  · cases vb : vldB bP bQ
    · go_enter Try.func10, Try.ntmps10
      go_wp2_with (first | (go_at_call 37; refine (rvalid_any _ _ _ (by omega) (by omega)).mono ?_; rintro e w1 ⟨rfl, hb⟩; (refine mem hb ?_; intro N hN hz hc hf; (try simp at hN); subst hN)) | (go_at_call 38; refine (valid_any _ _ _ (by omega) (by omega)).mono ?_; rintro e w1 ⟨rfl, hb⟩; (refine mem hb ?_; intro N hN hz hc hf; (try simp at hN); subst hN)) | (go_at_call 18; refine (awake_any _).mono ?_; rintro e w1 ⟨rfl, hb⟩; (refine mem hb ?_; intro N hN hz hc hf; (try simp at hN); subst hN)))
      go_returns
      refine ⟨rfl, ?_⟩
      (repeat' (first | (with_reducible exact Below.refl _ _) | (with_reducible assumption) | (with_reducible refine Below.alloc ?_ ?_ _) | (with_reducible refine below_drewN ?_ _) | (with_reducible refine Below.drew ?_) | (with_reducible refine Below.setCell ?_ ?_ _) | (with_reducible refine below_via (by assumption) ?_ ?_) | (with_reducible exact Nat.le_refl _) | omega | (simp; omega) | (simp; done)))
    · exact good aP aQ bP bQ w va vb


set_option maxRecDepth 100000 in
theorem lifted (os : Os) (started : os.Started) (H : Type) (enc : TypeId × Value → H) :
    ReturnsInHanded {} Try.checked os 10 .any (Rows.rationalDividesSpec.pre6 enc Try.prog Try.f10 Rows.rationalDividesRow.domain false) (Rows.rationalDividesSpec.post enc Try.prog Try.f10 false true false false) := by
  refine returnsInHanded_of_change (C := Try.checked) own started (by kernel_rfl) Try.func10
    (ChangeSpec.witness6 (enc := enc) (C := Try.checked) false ⟨#[], #[.agg #[.int .i64 0, .int .i64 0], .agg #[.int .i64 0, .int .i64 0]], []⟩ 8 (by kernel_rfl) (by kernel_rfl) (by kernel_rfl) (by kernel_rfl)) ?_
  intro W base args ds gs before hval0 hW hcnd _
  have hval : ∀ (j : Nat) t v, Try.f10.params[j]? = some t → args[j]? = some v → Value.okWide Try.prog W .any base t v := hval0
  have hW' := hW
  obtain ⟨p, q, hA0, hV, rfl, hfz, hnd⟩ := hW
  have hA : DataW.TrodAll enc Try.prog W 0 (fun _ => true) true Try.f10.params.toList args.toList ds p := hA0
  rw [Try.params10] at hA hval
  obtain ⟨v0, vs0, d0, ds0, p0, q0, hargs, rfl, rfl, h0, r0⟩ := trodAll_cons hA
  obtain ⟨v1, vs1, d1, ds1, p1, q1, rfl, rfl, rfl, h1, r1⟩ := trodAll_cons r0
  obtain ⟨rfl, rfl, rfl⟩ := trodAll_nil r1
  obtain rfl : args = #[v0, v1] := by cases args; simp_all
  obtain ⟨rfl, rfl⟩ := trodVars_none hV
  have k0 := h0
  have lt0 : ∀ x ∈ p0, x.block < W.heap.size := by obtain ⟨m, hm⟩ := k0; exact DataW.trod_lt m _ _ _ hm
  obtain ⟨c0, e0, y0, z0, m0, rfl, -, -, hy0, hz0⟩ := open_agg2 Try.underlying23 (by kernel_rfl) (by kernel_rfl) (hval 0 23 v0 rfl rfl) h0
  obtain ⟨aP, f0, -, waP⟩ := DataW.trod_int Try.underlying3 hy0
  obtain ⟨aQ, g0, -, waQ⟩ := DataW.trod_int Try.underlying3 hz0
  simp only [List.cons.injEq, and_true] at f0 g0
  subst f0 g0
  have k1 := h1
  have lt1 : ∀ x ∈ p1, x.block < W.heap.size := by obtain ⟨m, hm⟩ := k1; exact DataW.trod_lt m _ _ _ hm
  obtain ⟨c1, e1, y1, z1, m1, rfl, -, -, hy1, hz1⟩ := open_agg2 Try.underlying23 (by kernel_rfl) (by kernel_rfl) (hval 1 23 v1 rfl rfl) h1
  obtain ⟨bP, f1, -, wbP⟩ := DataW.trod_int Try.underlying3 hy1
  obtain ⟨bQ, g1, -, wbQ⟩ := DataW.trod_int Try.underlying3 hz1
  simp only [List.cons.injEq, and_true] at f1 g1
  subst f1 g1
  clear hA0 hval0
  refine (walk aP aQ waP waQ bP bQ wbP wbQ W).mono fun e W' ⟨he, bel⟩ => ?_
  subst he
  exact ⟨_, rfl, _, _, _, [], _, [], hW', trodAll_mk1 (shut_bool Try.underlying4 _), (trodAll_cons_mk (Below.trod laidOut (by kernel_rfl) (of_decide_eq_true (by kernel_rfl)) k0 bel lt0) (trodAll_cons_mk (Below.trod laidOut (by kernel_rfl) (of_decide_eq_true (by kernel_rfl)) k1 bel lt1) trodAll_mk0)), rfl, bel.frame _, fun h => by cases h⟩

theorem over : Rows.rationalDividesRow.holds Try.pinned (OpenSpec.ofChange Rows.rationalDividesSpec) :=
  OpenClaim.holds_of_wide 10 Try.f10 rfl rfl rfl rfl rfl rfl rfl ⟨rfl, rfl, rfl, rfl, rfl⟩ rfl rfl rfl rfl rfl (by kernel_rfl) Try.func10 (by kernel_rfl)
    (of_decide_eq_true (by kernel_rfl)) (by unfold Func.isWrapper; first | (rw [if_pos (by decide +kernel)]; kernel_rfl) | (rw [if_neg (by decide +kernel)]; exact ⟨rfl, rfl⟩))
    (fun os started H enc _ => lifted os started H enc)

/-- The given statement. -/
theorem proved : Rows.RationalDividesSaid := over
#print axioms proved
end Go.Proofs.Ytfpocnmlmgmfjaa.rationalDivides
