/- The functions of the reference: what each call returns. -/
import Derived.Test.YtjpegcaooamhfaaDoorRatR1
import Derived.Test.YtjpegcaooamhfaaDoorRatPlain2
import Derived.Test.YtjpegcaooamhfaaDoorRatW4
namespace Go.Proofs.YtjpegcaooamhfaaDoor
open Go.RowKit
set_option linter.unusedVariables false

set_option maxHeartbeats 400000 in
theorem rvalid_any (p q : Int) (w : World) (hp : -9223372036854775808 ≤ p) (hp' : p ≤ 9223372036854775807) :
    Calls Tryd.prog 24 #[.agg #[.int .i64 p, .int .i64 q]] w fun e w' => e = .returned (.bool (vldB p q)) ∧ Below w.heap.size w w' := by
  cases g1 : decide (1 ≤ q)
  all_goals cases g2 : decide (q ≤ 2147483647)
  all_goals cases g3 : decide (p ≤ 2147483647)
  all_goals cases g4 : decide (-2147483647 ≤ p)
  all_goals
    go_enter Tryd.func24, Tryd.ntmps24
    go_wp2
    go_quiet ((first | (go_at_call 44; exact Calls.quiet_of_same ((rabs_any _ _ (by simp at g4; omega) (by simp at g3; omega)).mono (fun _ _ h => ⟨h.1, h.2.symm⟩))) | (go_at_call 43; exact Calls.quiet_of (rgcd_any _ _ _ (by omega) (by simp at g1; omega) (by simp at g4 g3; omega) (by simp at g2; omega)))))
    go_wp2
    go_returns
    refine ⟨ret_bool ?_, ?_⟩
    · unfold vldB; simp only [g1, g2, g3, g4]; simp [Int.gcd]
    · (repeat' (first | (with_reducible exact Below.refl _ _) | (with_reducible assumption) | (with_reducible refine Below.alloc ?_ ?_ _) | (with_reducible refine below_drewN ?_ _) | (with_reducible refine Below.drew ?_) | (with_reducible refine Below.setCell ?_ ?_ _) | (with_reducible refine below_via (by assumption) ?_ ?_) | (with_reducible refine below_via (later_below _) ?_ ?_) | (with_reducible exact Nat.le_refl _) | omega | (simp; omega) | (simp; done)))

set_option maxHeartbeats 400000 in
theorem rmake_any (p q : Int) (w : World) : Calls Tryd.prog 60 #[.int .i64 p, .int .i64 q] w fun e w' => e = .returned (.tuple #[.agg #[.int .i64 (makeT p q).1, .int .i64 (makeT p q).2.1], .int .i64 (makeT p q).2.2]) ∧ Below w.heap.size w w' := by
  have hZ := wzero w
  by_cases hq : q = 0
  · subst hq
    go_enter Tryd.func60, Tryd.ntmps60
    go_wp2_with fail
    ((try simp only [Exit.inBlock, Exit.then]); refine bodyPost_ret (by first | (simp [results, Tryd.results60, go_sem, *]; done) | (simp [results, Tryd.results60, go_sem, *]; rfl) | (simp [results, Tryd.results60, go_sem, ↓IntWalk.iteOmega, *]; try rfl)) rfl ?_)
    refine ⟨ret_num (mk_zero rfl), ?_⟩
    (repeat' (first | (with_reducible exact Below.refl _ _) | (with_reducible assumption) | (with_reducible refine Below.alloc ?_ ?_ _) | (with_reducible refine below_drewN ?_ _) | (with_reducible refine Below.drew ?_) | (with_reducible refine Below.setCell ?_ ?_ _) | (with_reducible refine below_via (by assumption) ?_ ?_) | (with_reducible refine below_via (later_below _) ?_ ?_) | (with_reducible exact Nat.le_refl _) | omega | (simp; omega) | (simp; done)))
  · have hq0 : (q == 0) = false := by simpa using hq
    go_enter Tryd.func60, Tryd.ntmps60
    go_wp2_with (first | (go_at_call 75; refine (frac_any _ _ _ (by omega) (by omega) hq (by omega) (by omega)).mono ?_; rintro e w1 ⟨rfl, hb⟩; (first | (refine wuse8 hZ hb ?_ ?_; (focus ((repeat (first | (with_reducible exact Nat.le_refl _) | (with_reducible refine wle_alloc1 ?_) | (with_reducible refine wle_set ?_) | (with_reducible refine wle_drewN ?_) | (with_reducible refine wle_drew ?_))); done)); intro hz hc hf z0 z1 z2 z3 z4 z5 z6 z7 z8 z9 z10 z11 z12 hZ) | (refine wuse7 hZ hb ?_ ?_; (focus ((repeat (first | (with_reducible exact Nat.le_refl _) | (with_reducible refine wle_alloc1 ?_) | (with_reducible refine wle_set ?_) | (with_reducible refine wle_drewN ?_) | (with_reducible refine wle_drew ?_))); done)); intro hz hc hf z0 z1 z2 z3 z4 z5 z6 z7 z8 z9 z10 z11 z12 hZ) | (refine wuse6 hZ hb ?_ ?_; (focus ((repeat (first | (with_reducible exact Nat.le_refl _) | (with_reducible refine wle_alloc1 ?_) | (with_reducible refine wle_set ?_) | (with_reducible refine wle_drewN ?_) | (with_reducible refine wle_drew ?_))); done)); intro hz hc hf z0 z1 z2 z3 z4 z5 z6 z7 z8 z9 z10 z11 z12 hZ) | (refine wuse5 hZ hb ?_ ?_; (focus ((repeat (first | (with_reducible exact Nat.le_refl _) | (with_reducible refine wle_alloc1 ?_) | (with_reducible refine wle_set ?_) | (with_reducible refine wle_drewN ?_) | (with_reducible refine wle_drew ?_))); done)); intro hz hc hf z0 z1 z2 z3 z4 z5 z6 z7 z8 z9 z10 z11 z12 hZ) | (refine wuse4 hZ hb ?_ ?_; (focus ((repeat (first | (with_reducible exact Nat.le_refl _) | (with_reducible refine wle_alloc1 ?_) | (with_reducible refine wle_set ?_) | (with_reducible refine wle_drewN ?_) | (with_reducible refine wle_drew ?_))); done)); intro hz hc hf z0 z1 z2 z3 z4 z5 z6 z7 z8 z9 z10 z11 z12 hZ) | (refine wuse3 hZ hb ?_ ?_; (focus ((repeat (first | (with_reducible exact Nat.le_refl _) | (with_reducible refine wle_alloc1 ?_) | (with_reducible refine wle_set ?_) | (with_reducible refine wle_drewN ?_) | (with_reducible refine wle_drew ?_))); done)); intro hz hc hf z0 z1 z2 z3 z4 z5 z6 z7 z8 z9 z10 z11 z12 hZ) | (refine wuse2 hZ hb ?_ ?_; (focus ((repeat (first | (with_reducible exact Nat.le_refl _) | (with_reducible refine wle_alloc1 ?_) | (with_reducible refine wle_set ?_) | (with_reducible refine wle_drewN ?_) | (with_reducible refine wle_drew ?_))); done)); intro hz hc hf z0 z1 z2 z3 z4 z5 z6 z7 z8 z9 z10 z11 z12 hZ) | (refine wuse1 hZ hb ?_ ?_; (focus ((repeat (first | (with_reducible exact Nat.le_refl _) | (with_reducible refine wle_alloc1 ?_) | (with_reducible refine wle_set ?_) | (with_reducible refine wle_drewN ?_) | (with_reducible refine wle_drew ?_))); done)); intro hz hc hf z0 z1 z2 z3 z4 z5 z6 z7 z8 z9 z10 z11 z12 hZ) | (refine wuse0 hZ hb ?_ ?_; (focus ((repeat (first | (with_reducible exact Nat.le_refl _) | (with_reducible refine wle_alloc1 ?_) | (with_reducible refine wle_set ?_) | (with_reducible refine wle_drewN ?_) | (with_reducible refine wle_drew ?_))); done)); intro hz hc hf z0 z1 z2 z3 z4 z5 z6 z7 z8 z9 z10 z11 z12 hZ))))
    all_goals ((try simp only [Exit.inBlock, Exit.then]); refine bodyPost_ret (by first | (simp [results, Tryd.results60, go_sem, *]; done) | (simp [results, Tryd.results60, go_sem, *]; rfl) | (simp [results, Tryd.results60, go_sem, ↓IntWalk.iteOmega, *]; try rfl)) rfl ?_)
    all_goals first | (refine ⟨ret_num (mk_out hq ?_), ?_⟩; omega) | (refine ⟨ret_num (mk_in hq ?_), ?_⟩; omega)
    all_goals (repeat' (first | (with_reducible exact Below.refl _ _) | (with_reducible assumption) | (with_reducible refine Below.alloc ?_ ?_ _) | (with_reducible refine below_drewN ?_ _) | (with_reducible refine Below.drew ?_) | (with_reducible refine Below.setCell ?_ ?_ _) | (with_reducible refine below_via (by assumption) ?_ ?_) | (with_reducible refine below_via (later_below _) ?_ ?_) | (with_reducible exact Nat.le_refl _) | omega | (simp; omega) | (simp; done)))

end Go.Proofs.YtjpegcaooamhfaaDoor
