/- More plain facts on exact fractions. -/
import Derived.Test.YtpahemohpaaeoaaDoorRatPlain
namespace Go.Proofs.YtpahemohpaaeoaaDoor
set_option linter.unusedVariables false

/-- The remainder has the sign of the dividend. -/
theorem tmod_sign (x y : Int) (h : ¬ x.tmod y = 0) : (x.tmod y < 0) ↔ x < 0 := by
  constructor
  · intro h1
    by_cases h2 : x < 0
    · exact h2
    · have := Int.tmod_nonneg (a := x) y (by omega); omega
  · intro h1
    have h2 := Int.tmod_nonneg (a := -x) y (by omega)
    rw [Int.neg_tmod] at h2
    omega
/-- 'Pow': numerator, denominator, error. -/
def powRng (a b n m : Int) : Bool := vldB a b && (wholeB n m && (decide (-64 ≤ n) && decide (n ≤ 64)))
def powT (a b n m : Int) : Int × Int × Int :=
  if powRng a b n m then
    (if a = 0 ∧ n < 0 then (0, 0, 7)
     else if (powOk a n.natAbs && powOk b n.natAbs) = false then (0, 0, 6)
     else if n < 0 then redT (b ^ n.natAbs) (a ^ n.natAbs) else redT (a ^ n.natAbs) (b ^ n.natAbs))
  else (0, 0, 2)

theorem powRng_yes {a b n m : Int} (h : powRng a b n m = true) : vldB a b = true ∧ vldB n m = true ∧ wholeB n m = true ∧ m = 1 ∧ -64 ≤ n ∧ n ≤ 64 := by
  unfold powRng wholeB at h
  simp only [Bool.and_eq_true, decide_eq_true_eq, beq_iff_eq] at h
  exact ⟨h.1, h.2.1.1, by unfold wholeB; simp only [h.2.1.1, Bool.true_and, beq_iff_eq]; exact h.2.1.2, h.2.1.2, h.2.2.1, h.2.2.2⟩
theorem powT_two {a b n m : Int} (h : powRng a b n m = false) : powT a b n m = (0, 0, 2) := by simp [powT, h]
theorem powT_zero {a b n m : Int} (h : powRng a b n m = true) (h1 : a = 0) (h2 : n < 0) : powT a b n m = (0, 0, 7) := by unfold powT; rw [if_pos h, if_pos ⟨h1, h2⟩]
theorem powT_out {a b n m : Int} (h : powRng a b n m = true) (h1 : ¬ (a = 0 ∧ n < 0)) (h2 : (powOk a n.natAbs && powOk b n.natAbs) = false) : powT a b n m = (0, 0, 6) := by
  unfold powT; rw [if_pos h, if_neg h1, if_pos h2]
theorem powT_up {a b n m : Int} (h : powRng a b n m = true) (h1 : ¬ (a = 0 ∧ n < 0)) (h2 : powOk a n.natAbs = true) (h3 : powOk b n.natAbs = true) (h4 : 0 ≤ n) :
    powT a b n m = (rP (a ^ n.natAbs) (b ^ n.natAbs), rQ (a ^ n.natAbs) (b ^ n.natAbs), rE (a ^ n.natAbs) (b ^ n.natAbs)) := by
  unfold powT; rw [if_pos h, if_neg h1, if_neg (by simp [h2, h3]), if_neg (by omega)]; rfl
theorem powT_down {a b n m : Int} (h : powRng a b n m = true) (h1 : ¬ (a = 0 ∧ n < 0)) (h2 : powOk a n.natAbs = true) (h3 : powOk b n.natAbs = true) (h4 : n < 0) :
    powT a b n m = (rP (b ^ n.natAbs) (a ^ n.natAbs), rQ (b ^ n.natAbs) (a ^ n.natAbs), rE (b ^ n.natAbs) (a ^ n.natAbs)) := by
  unfold powT; rw [if_pos h, if_neg h1, if_neg (by simp [h2, h3]), if_pos h4]; rfl
theorem powV_yes {x : Int} {k : Nat} (h : powOk x k = true) : powV x k = x ^ k ∧ -2147483647 ≤ x ^ k ∧ x ^ k ≤ 2147483647 := by
  have h1 := powOk_iff.1 h
  exact ⟨by simp [powV, h], h1.1, h1.2⟩
theorem pow_ne {x : Int} {k : Nat} (h : x ≠ 0) : x ^ k ≠ 0 := Int.pow_ne_zero h
#print axioms tmod_sign
end Go.Proofs.YtpahemohpaaeoaaDoor
