/- The contract of numeral.Fixed. -/
import Derived.Test.YtpahemohpaaeoaaDoorNumW14
import Derived.Test.YtpahemohpaaeoaaDoorFixPlain
import Derived.Test.YtpahemohpaaeoaaDoorFb1
namespace Go.Proofs.YtpahemohpaaeoaaDoor
open Go.RowKit
set_option linter.unusedVariables false

theorem tie_nil (W : Nat) : tieN W [] = W % 2 := rfl
theorem tie_snoc (W : Nat) (D : List Nat) (x : Nat) : tieN W (D ++ [x]) = x % 2 := by unfold tieN; simp
theorem round_no {q W l : Nat} {ds : List Nat} (h : 2 * l < q ∨ 2 * l = q ∧ tieN W ds ≠ 1) : roundT q W l ds = (W, ds) := by
  unfold roundT
  rw [if_neg]
  unfold upB
  simp only [Bool.or_eq_true, decide_eq_true_eq, Bool.and_eq_true, beq_iff_eq]
  omega
theorem round_up {q W l : Nat} {ds : List Nat} (h : q < 2 * l ∨ 2 * l = q ∧ tieN W ds = 1) : roundT q W l ds = (if (incL ds).2 then W + 1 else W, (incL ds).1) := by
  unfold roundT
  rw [if_pos]
  unfold upB
  simp only [Bool.or_eq_true, decide_eq_true_eq, Bool.and_eq_true, beq_iff_eq]
  omega
/-- The last place, if there is one; the number whose oddness decides a tie. -/
theorem tie_of (D : List Nat) (W : Nat) : (D = [] ∧ tieN W D = W % 2) ∨ ∃ D' x, D = D' ++ [x] ∧ tieN W D = x % 2 := by
  rcases List.eq_nil_or_concat D with h | ⟨D', x, h⟩
  · left; rw [h]; exact ⟨rfl, rfl⟩
  · right; refine ⟨D', x, by simpa using h, ?_⟩; rw [h]; simpa using tie_snoc W D' x

theorem quo_rem (a q : Nat) (hq : 0 < q) : ∃ d r : Nat, (a : Int) / (q : Int) = d ∧ (a : Int) % (q : Int) = r ∧ d = a / q ∧ r = a % q ∧ r < q ∧ d ≤ a := 
  ⟨a / q, a % q, (Int.natCast_ediv a q).symm, (Int.natCast_emod a q).symm, rfl, rfl, Nat.mod_lt _ hq, Nat.div_le_self _ _⟩

end Go.Proofs.YtpahemohpaaeoaaDoor
