/- The reference's Fixed, joined. -/
import Derived.Test.YtjpegcaooamhfaaDoorRefN11
import Derived.Test.YtjpegcaooamhfaaDoorNumW16
namespace Go.Proofs.YtjpegcaooamhfaaDoor
open Go.RowKit
set_option linter.unusedVariables false

set_option maxHeartbeats 1000000 in
set_option maxRecDepth 100000 in
theorem rfixed_out (p q n : Int) (w : World) (hp : -9223372036854775808 ≤ p) (hp' : p ≤ 9223372036854775807) (h : vldB p q = false ∨ (vldB p q = true ∧ n < 0) ∨ (vldB p q = true ∧ 0 ≤ n ∧ 12 < n)) :
    Calls Tryd.prog 21 #[.agg #[.int .i64 p, .int .i64 q], .int .i64 n] w fun e w' => e = .returned (.tuple #[.string (mkS []), .int .i64 2]) ∧ Below w.heap.size w w' := by
  rcases h with hv | ⟨hv, h1⟩ | ⟨hv, h0, h1⟩
  all_goals
    go_enter Tryd.func21, Tryd.ntmps21
    go_wp2_with (first | (go_at_call 24; refine (rvalid_any _ _ _ (by omega) (by omega)).mono ?_; rintro e w1 ⟨rfl, hb⟩; (refine mem hb ?_; intro N hN hz hc hf; (try simp at hN); subst hN)))
    ((try simp only [Exit.inBlock, Exit.then]); refine bodyPost_ret (by first | (simp [results, Tryd.results21, go_sem, *]; done) | (simp [results, Tryd.results21, go_sem, *]; rfl) | (simp [results, Tryd.results21, go_sem, ↓IntWalk.iteOmega, *]; try rfl)) rfl ?_)
    refine ⟨rfl, ?_⟩
    (repeat' (first | (with_reducible exact Below.refl _ _) | (with_reducible assumption) | (with_reducible refine Below.alloc ?_ ?_ _) | (with_reducible refine below_drewN ?_ _) | (with_reducible refine Below.drew ?_) | (with_reducible refine Below.setCell ?_ ?_ _) | (with_reducible refine below_via (by assumption) ?_ ?_) | (with_reducible refine below_via (later_below _) ?_ ?_) | (with_reducible exact Nat.le_refl _) | omega | (simp; omega) | (simp; done)))

theorem rfixed_any (p q n : Int) (w : World) (hp : -9223372036854775808 ≤ p) (hp' : p ≤ 9223372036854775807) :
    Calls Tryd.prog 21 #[.agg #[.int .i64 p, .int .i64 q], .int .i64 n] w fun e w' => e = .returned (strE (fixL p q n)) ∧ Below w.heap.size w w' := by
  unfold fixL
  cases hv : vldB p q
  · exact rfixed_out p q n w hp hp' (.inl hv)
  · by_cases h0 : 0 ≤ n
    · by_cases h1 : n ≤ 12
      · rw [if_pos (by simp [h0, h1])]
        obtain ⟨m, rfl⟩ : ∃ m : Nat, n = m := ⟨n.toNat, by omega⟩
        obtain ⟨Q, rfl⟩ : ∃ Q : Nat, q = Q := ⟨q.toNat, by have := vld_bd hv; omega⟩
        by_cases hn : p < 0
        · obtain ⟨P, rfl⟩ : ∃ P : Nat, p = -(P : Int) := ⟨p.natAbs, by omega⟩
          have e1 : (-(P : Int)).natAbs = P := by omega
          rw [decide_eq_true hn, e1, Int.toNat_natCast, Int.toNat_natCast]
          exact rfixed_neg P Q m w (by omega) hv (by omega)
        · obtain ⟨P, rfl⟩ : ∃ P : Nat, p = P := ⟨p.toNat, by omega⟩
          rw [decide_eq_false hn, Int.natAbs_natCast, Int.toNat_natCast, Int.toNat_natCast]
          exact rfixed_pos P Q m w (by omega) hv
      · rw [if_neg (by simp [h1])]
        exact rfixed_out p q n w hp hp' (.inr (.inr ⟨hv, h0, by omega⟩))
    · rw [if_neg (by simp [h0])]
      exact rfixed_out p q n w hp hp' (.inr (.inl ⟨hv, by omega⟩))
end Go.Proofs.YtjpegcaooamhfaaDoor
