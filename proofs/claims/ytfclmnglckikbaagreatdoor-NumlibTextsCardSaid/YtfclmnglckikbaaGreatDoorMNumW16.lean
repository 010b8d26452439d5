/- The contract of numeral.Fixed, joined. -/
import Derived.Test.YtfclmnglckikbaaGreatDoorMNumW15
import Derived.Test.YtfclmnglckikbaaGreatDoorMFb
namespace Go.Proofs.YtfclmnglckikbaaGreatDoor
open Go.RowKit
set_option linter.unusedVariables false

set_option maxHeartbeats 1000000 in
theorem fixed_out (p q n : Int) (w : World) (hp : -9223372036854775808 ≤ p) (hp' : p ≤ 9223372036854775807) (h : vldB p q = false ∨ vldB p q = true ∧ (n < 0 ∨ 12 < n)) :
    Calls Tryz.prog 22 #[.agg #[.int .i64 p, .int .i64 q], .int .i64 n] w fun e w' => e = .returned (.tuple #[.string (mkS []), .int .i64 2]) ∧ Below w.heap.size w w' := by
  rcases h with hv | ⟨hv, h | h⟩
  all_goals
    go_enter Tryz.func22, Tryz.ntmps22
    go_wp2_with (first | (go_at_call 48; refine (valid_any _ _ _ (by omega) (by omega)).mono ?_; rintro e w1 ⟨rfl, hb⟩; (refine mem hb ?_; intro N hN hz hc hf; (try simp at hN); subst hN)))
    all_goals ((try simp only [Exit.inBlock, Exit.then]); refine bodyPost_ret (by first | (simp [results, Tryz.results22, go_sem, *]; done) | (simp [results, Tryz.results22, go_sem, *]; rfl) | (simp [results, Tryz.results22, go_sem, ↓IntWalk.iteOmega, *]; try rfl)) rfl ?_)
    all_goals refine ⟨rfl, ?_⟩
    all_goals (repeat' (first | (with_reducible exact Below.refl _ _) | (with_reducible assumption) | (with_reducible refine Below.alloc ?_ ?_ _) | (with_reducible refine below_drewN ?_ _) | (with_reducible refine Below.drew ?_) | (with_reducible refine Below.setCell ?_ ?_ _) | (with_reducible refine below_via (by assumption) ?_ ?_) | (with_reducible refine below_via (later_below _) ?_ ?_) | (with_reducible exact Nat.le_refl _) | omega | (simp; omega) | (simp; done)))

theorem fixed_any (p q n : Int) (w : World) (hp : -9223372036854775808 ≤ p) (hp' : p ≤ 9223372036854775807) (hT : Tabs w) :
    Calls Tryz.prog 22 #[.agg #[.int .i64 p, .int .i64 q], .int .i64 n] w fun e w' => e = .returned (strE (fixL p q n)) ∧ Below w.heap.size w w' := by
  unfold fixL
  cases hv : vldB p q
  · exact fixed_out p q n w hp hp' (.inl hv)
  · by_cases hn : 0 ≤ n ∧ n ≤ 12
    · rw [if_pos (by simpa using hn)]
      obtain ⟨b1, b2, b3, b4⟩ := vld_bd hv
      obtain ⟨k, rfl⟩ : ∃ k : Nat, n = k := ⟨n.toNat, by omega⟩
      obtain ⟨Q, rfl⟩ : ∃ Q : Nat, q = Q := ⟨q.toNat, by omega⟩
      rw [Int.toNat_natCast, Int.toNat_natCast]
      by_cases h : p < 0
      · obtain ⟨P, rfl⟩ : ∃ P : Nat, p = -(P : Int) := ⟨p.natAbs, by omega⟩
        have e : (-(P : Int)).natAbs = P := by omega
        rw [e, decide_eq_true h]
        exact fixed_neg P Q k w (by omega) (by omega) hv hT
      · obtain ⟨P, rfl⟩ : ∃ P : Nat, p = P := ⟨p.toNat, by omega⟩
        rw [Int.natAbs_natCast, decide_eq_false h]
        exact fixed_pos P Q k w (by omega) hv hT
    · rw [if_neg (by simpa using hn)]
      exact fixed_out p q n w hp hp' (.inr ⟨hv, by omega⟩)
end Go.Proofs.YtfclmnglckikbaaGreatDoor
