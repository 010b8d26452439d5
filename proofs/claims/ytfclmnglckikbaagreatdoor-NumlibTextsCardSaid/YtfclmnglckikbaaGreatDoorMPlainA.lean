/- Plain facts on exact fractions: no program in sight. -/

namespace Go.Proofs.YtfclmnglckikbaaGreatDoor
set_option linter.unusedVariables false

/-- A number in lowest terms and in range. -/
def vldB (p q : Int) : Bool := decide (1 ≤ q) && (decide (q ≤ 2147483647) && (decide (-2147483647 ≤ p) && (decide (p ≤ 2147483647) && ((Int.gcd p q : Int) == 1))))

/-- What 'reduce' gives for p/q, q not 0. -/
def redP (p q : Int) : Int := (Rat.divInt p q).num
def redQ (p q : Int) : Int := ((Rat.divInt p q).den : Int)
def redOk (p q : Int) : Bool := decide (-2147483647 ≤ redP p q) && (decide (redP p q ≤ 2147483647) && decide (redQ p q ≤ 2147483647))

theorem redP_eq (p q : Int) (hq : 0 < q) : redP p q = p / (Int.gcd p q : Int) := by
  unfold redP
  rw [Rat.num_divInt, Int.sign_eq_one_of_pos hq, Int.one_mul, Int.gcd_comm]

theorem redQ_eq (p q : Int) (hq : 0 < q) : redQ p q = q / (Int.gcd p q : Int) := by
  unfold redQ
  rw [Rat.den_divInt, if_neg (by omega), Int.natCast_ediv, Int.gcd_comm]
  congr 1; omega

theorem red_neg (p q : Int) : redP (-p) (-q) = redP p q ∧ redQ (-p) (-q) = redQ p q := by
  unfold redP redQ; rw [Rat.neg_divInt_neg]; exact ⟨rfl, rfl⟩

theorem redQ_pos (p q : Int) : 0 < redQ p q := by unfold redQ; have := (Rat.divInt p q).den_pos; omega

theorem gcd_pos (p q : Int) (hq : 0 < q) : 0 < (Int.gcd p q : Int) := by
  have : 0 < Int.gcd p q := Int.gcd_pos_of_ne_zero_right p (by omega)
  omega

theorem max_gcd (p q g : Int) (h : g = (Int.gcd (if p < -p then -p else p) q : Int)) : g = (Int.gcd p q : Int) := by
  rw [h]; split
  · rw [Int.neg_gcd]
  · rfl

theorem max_gcd' (p q g : Int) (h : g = (Int.gcd (if -p < p then p else -p) q : Int)) : g = (Int.gcd (-p) q : Int) := by
  rw [h]; split
  · rw [Int.neg_gcd]
  · rfl

theorem tdiv_red (p q g : Int) (hq : 0 < q) (h : g = (Int.gcd p q : Int)) : p.tdiv g = redP p q := by
  rw [redP_eq p q hq, h, Int.tdiv_eq_ediv_of_dvd (Int.gcd_dvd_left p q)]

theorem pdiv_red (p q g : Int) (hq : 0 < q) (h : g = (Int.gcd p q : Int)) : p / g = redP p q := by
  rw [redP_eq p q hq, h]

theorem div_red (p q g : Int) (hq : 0 < q) (h : g = (Int.gcd p q : Int)) : q / g = redQ p q := by
  rw [redQ_eq p q hq, h]

theorem redOk_true {p q : Int} (h : redOk p q = true) : -2147483647 ≤ redP p q ∧ redP p q ≤ 2147483647 ∧ redQ p q ≤ 2147483647 := by
  unfold redOk at h; simpa using h

theorem redOk_false {p q : Int} (h : redOk p q = false) : ¬ (-2147483647 ≤ redP p q ∧ redP p q ≤ 2147483647 ∧ redQ p q ≤ 2147483647) := by
  intro h2; rw [show redOk p q = true by unfold redOk; simpa using h2] at h; cases h

theorem redOk_neg (p q : Int) : redOk (-p) (-q) = redOk p q := by
  unfold redOk; rw [(red_neg p q).1, (red_neg p q).2]

theorem redOk_of {p q : Int} (h1 : -2147483647 ≤ redP p q) (h2 : redP p q ≤ 2147483647) (h3 : redQ p q ≤ 2147483647) : redOk p q = true := by
  unfold redOk; simp [h1, h2, h3]

/-- The three results of 'reduce': numerator, denominator, error. -/
def rP (p q : Int) : Int := if redOk p q then redP p q else 0
def rQ (p q : Int) : Int := if redOk p q then redQ p q else 0
def rE (p q : Int) : Int := if redOk p q then 0 else 6

theorem r_ok {p q : Int} (h : redOk p q = true) : rP p q = redP p q ∧ rQ p q = redQ p q ∧ rE p q = 0 := by simp [rP, rQ, rE, h]
theorem r_no {p q : Int} (h : ¬ (-2147483647 ≤ redP p q ∧ redP p q ≤ 2147483647 ∧ redQ p q ≤ 2147483647)) : rP p q = 0 ∧ rQ p q = 0 ∧ rE p q = 6 := by
  have : redOk p q = false := by
    cases hk : redOk p q
    · rfl
    · exact absurd (redOk_true hk) h
  simp [rP, rQ, rE, this]
theorem r_no' {p q : Int} (h : ¬ (-2147483647 ≤ redP p q ∧ redP p q ≤ 2147483647 ∧ redQ p q ≤ 2147483647)) : 0 = rP p q ∧ 0 = rQ p q ∧ 6 = rE p q := by
  obtain ⟨a, b, c⟩ := r_no h; exact ⟨a.symm, b.symm, c.symm⟩
theorem r_ok' {p q : Int} (h : -2147483647 ≤ redP p q ∧ redP p q ≤ 2147483647 ∧ redQ p q ≤ 2147483647) : redP p q = rP p q ∧ redQ p q = rQ p q ∧ 0 = rE p q := by
  obtain ⟨a, b, c⟩ := r_ok (redOk_of h.1 h.2.1 h.2.2); exact ⟨a.symm, b.symm, c.symm⟩
theorem r_neg (p q : Int) : rP (-p) (-q) = rP p q ∧ rQ (-p) (-q) = rQ p q ∧ rE (-p) (-q) = rE p q := by
  unfold rP rQ rE; rw [redOk_neg, (red_neg p q).1, (red_neg p q).2]; exact ⟨rfl, rfl, rfl⟩

theorem gcd_max (p q : Int) : Int.gcd (if p < -p then -p else p) q = Int.gcd p q := by
  split
  · rw [Int.neg_gcd]
  · rfl

/-- The order of two integers: -1, 0 or 1. -/
def cmpI (x y : Int) : Int := if x < y then -1 else if y < x then 1 else 0

/-- Whether x to the power of n is in range. -/
def powOk (x : Int) (n : Nat) : Bool := decide (-2147483647 ≤ x ^ n) && decide (x ^ n ≤ 2147483647)

theorem powOk_iff {x : Int} {n : Nat} : powOk x n = true ↔ -2147483647 ≤ x ^ n ∧ x ^ n ≤ 2147483647 := by
  unfold powOk; simp

/-- What is out of range stays out of range. -/
theorem pow_out (x : Int) (k : Nat) (h : ¬ (-2147483647 ≤ x ^ k ∧ x ^ k ≤ 2147483647)) (n : Nat) (hn : k ≤ n) : ¬ (-2147483647 ≤ x ^ n ∧ x ^ n ≤ 2147483647) := by
  induction n with
  | zero => obtain rfl : k = 0 := by omega
            exact h
  | succ n ih =>
    by_cases e : k = n + 1
    · subst e; exact h
    · have hi := ih (by omega)
      rw [Int.pow_succ]
      generalize x ^ n = y at *
      by_cases hx : x = 0
      · exfalso
        subst hx
        cases k with
        | zero => simp at h
        | succ k => rw [Int.zero_pow (by omega)] at h; omega
      · intro hh
        apply hi
        have h1 : y.natAbs ≤ (y * x).natAbs := by
          rw [Int.natAbs_mul]; exact Nat.le_mul_of_pos_right _ (by omega)
        omega

theorem tmod_abs (x y : Int) (hy : y ≠ 0) : (x.tmod y).natAbs < y.natAbs := by
  rw [Int.natAbs_tmod]; exact Nat.mod_lt _ (by omega)

theorem tdiv_bd (x y : Int) : -(x.natAbs : Int) ≤ x.tdiv y ∧ x.tdiv y ≤ x.natAbs := by
  have := Int.natAbs_tdiv_le_natAbs x y; omega

theorem floor_same (x y : Int) (hy : y ≠ 0) (h : x.tmod y = 0 ∨ (x.tmod y < 0 ↔ y < 0)) : x.tdiv y = x.fdiv y ∧ x.tmod y = x.fmod y := by
  have h1 := tmod_abs x y hy
  have h2 : x.tmod y + y * x.tdiv y = x := Int.tmod_add_mul_tdiv x y
  rcases Int.lt_or_gt_of_ne hy with hn | hn
  · have := (Int.fdiv_fmod_unique' (a := x) (q := x.tdiv y) (r := x.tmod y) hn).2 ⟨h2, by omega, by omega⟩
    exact ⟨this.1.symm, this.2.symm⟩
  · have := (Int.fdiv_fmod_unique (a := x) (q := x.tdiv y) (r := x.tmod y) hn).2 ⟨h2, by omega, by omega⟩
    exact ⟨this.1.symm, this.2.symm⟩

theorem floor_less (x y : Int) (hy : y ≠ 0) (h0 : x.tmod y ≠ 0) (h : ¬ (x.tmod y < 0 ↔ y < 0)) : x.tdiv y - 1 = x.fdiv y ∧ x.tmod y + y = x.fmod y := by
  have h1 := tmod_abs x y hy
  have h2 : x.tmod y + y * x.tdiv y = x := Int.tmod_add_mul_tdiv x y
  have h3 : x.tmod y + y + y * (x.tdiv y - 1) = x := by rw [Int.mul_sub]; omega
  rcases Int.lt_or_gt_of_ne hy with hn | hn
  · have := (Int.fdiv_fmod_unique' (a := x) (q := x.tdiv y - 1) (r := x.tmod y + y) hn).2 ⟨h3, by omega, by omega⟩
    exact ⟨this.1.symm, this.2.symm⟩
  · have := (Int.fdiv_fmod_unique (a := x) (q := x.tdiv y - 1) (r := x.tmod y + y) hn).2 ⟨h3, by omega, by omega⟩
    exact ⟨this.1.symm, this.2.symm⟩
theorem fl0 (x y : Int) (hy : y ≠ 0) (h : x.tmod y = 0) : x.tdiv y = x.fdiv y ∧ 0 = x.fmod y := by
  have := floor_same x y hy (.inl h); exact ⟨this.1, by rw [← this.2, h]⟩
theorem fl1 (x y : Int) (hy : y ≠ 0) (h : ¬ x.tmod y = 0) (h2 : (x.tmod y != 0) = true ∧ (!decide (x.tmod y < 0) == decide (y < 0)) = true) : x.tdiv y - 1 = x.fdiv y ∧ x.tmod y + y = x.fmod y :=
  floor_less x y hy h (by have := h2.2; by_cases a : x.tmod y < 0 <;> by_cases b : y < 0 <;> simp [a, b] at this ⊢)
theorem fl2 (x y : Int) (hy : y ≠ 0) (h : ¬ x.tmod y = 0) (h2 : (x.tmod y != 0) = false ∨ (!decide (x.tmod y < 0) == decide (y < 0)) = false) : x.tdiv y = x.fdiv y ∧ x.tmod y = x.fmod y :=
  floor_same x y hy (.inr (by
    rcases h2 with h2 | h2
    · simp [h] at h2
    · by_cases a : x.tmod y < 0 <;> by_cases b : y < 0 <;> simp [a, b] at h2 ⊢))
/-- The power, or 0 out of range. -/
def powV (x : Int) (n : Nat) : Int := if powOk x n then x ^ n else 0
theorem powV_ok {x : Int} {n : Nat} (h : -2147483647 ≤ x ^ n) (h2 : x ^ n ≤ 2147483647) : x ^ n = powV x n ∧ true = powOk x n := by
  have := powOk_iff.2 ⟨h, h2⟩; simp [powV, this]
theorem powV_no {x : Int} {k n : Nat} (h : ¬ (-2147483647 ≤ x ^ k ∧ x ^ k ≤ 2147483647)) (hn : k ≤ n) : 0 = powV x n ∧ false = powOk x n := by
  have h1 := pow_out x k h n hn
  have : powOk x n = false := by
    cases hk : powOk x n
    · rfl
    · exact absurd (powOk_iff.1 hk) h1
  simp [powV, this]

theorem abs_gcd (p q g : Int) (h : g = (Int.gcd (p.natAbs : Int) (q.natAbs : Int) : Int)) : g = (Int.gcd p q : Int) := by
  rw [h]; simp [Int.gcd]
theorem abs_gcdn (p q g : Int) (h : g = (Int.gcd (p.natAbs : Int) ((-q).natAbs : Int) : Int)) : g = (Int.gcd p q : Int) := by
  rw [h]; simp [Int.gcd]
theorem tdivq_red (p q g : Int) (hq : 0 < q) (h : g = (Int.gcd p q : Int)) : q.tdiv g = redQ p q := by
  rw [redQ_eq p q hq, h, Int.tdiv_eq_ediv_of_nonneg (by omega)]
theorem redP_bd (p q : Int) (hq : 0 < q) : -(p.natAbs : Int) ≤ redP p q ∧ redP p q ≤ p.natAbs := by
  rw [← tdiv_red p q _ hq rfl]; exact tdiv_bd p _
theorem redQ_bd (p q : Int) (hq : 0 < q) : 0 < redQ p q ∧ redQ p q ≤ q := by
  refine ⟨redQ_pos p q, ?_⟩
  rw [redQ_eq p q hq]; exact Int.ediv_le_self _ (by omega)

/-! The functions of the layer: numerator, denominator, error. -/
def redT (p q : Int) : Int × Int × Int := (rP p q, rQ p q, rE p q)
def intT (n : Int) : Int × Int × Int := if -2147483647 ≤ n ∧ n ≤ 2147483647 then (n, 1, 0) else (0, 0, 6)
def makeT (p q : Int) : Int × Int × Int := if q = 0 then (0, 0, 7) else if -4611686018427387904 ≤ p ∧ p ≤ 4611686018427387904 ∧ -4611686018427387904 ≤ q ∧ q ≤ 4611686018427387904 then redT p q else (0, 0, 6)
def negT (p q : Int) : Int × Int × Int := if vldB p q then (-p, q, 0) else (0, 0, 2)
def bothB (a b c d : Int) : Bool := vldB a b && vldB c d
def addT (a b c d : Int) : Int × Int × Int := if bothB a b c d then redT (a * d + c * b) (b * d) else (0, 0, 2)
def subT (a b c d : Int) : Int × Int × Int := if bothB a b c d then redT (a * d - c * b) (b * d) else (0, 0, 2)
def mulT (a b c d : Int) : Int × Int × Int := if bothB a b c d then redT (a * c) (b * d) else (0, 0, 2)
def divT (a b c d : Int) : Int × Int × Int := if bothB a b c d then (if c = 0 then (0, 0, 7) else redT (a * d) (c * b)) else (0, 0, 2)
def quotT (a b c d : Int) : Int × Int × Int := if bothB a b c d then (if c = 0 then (0, 0, 7) else intT ((a * d).fdiv (c * b))) else (0, 0, 2)
def modT (a b c d : Int) : Int × Int × Int := if bothB a b c d then (if c = 0 then (0, 0, 7) else redT ((a * d).fmod (c * b)) (b * d)) else (0, 0, 2)
def floorT (a b : Int) : Int × Int × Int := if vldB a b then intT (a.fdiv b) else (0, 0, 2)
def ceilT (a b : Int) : Int × Int × Int := if vldB a b then intT (-((-a).fdiv b)) else (0, 0, 2)
def wholeB (a b : Int) : Bool := vldB a b && (b == 1)
def wholeV (a b : Int) : Int := if wholeB a b then a else 0
def cmpT (a b c d : Int) : Int := if bothB a b c d then cmpI (a * d) (c * b) else if a = c then cmpI b d else cmpI a c

theorem vld_bd {p q : Int} (h : vldB p q = true) : 1 ≤ q ∧ q ≤ 2147483647 ∧ -2147483647 ≤ p ∧ p ≤ 2147483647 := by
  unfold vldB at h; simp at h; omega
theorem vld_gcd {p q : Int} (h : vldB p q = true) : Int.gcd p q = 1 := by
  unfold vldB at h; simp at h; have := h.2.2.2.2; omega

theorem mul_bd {x y : Int} (h1 : -2147483647 ≤ x) (h2 : x ≤ 2147483647) (h3 : -2147483647 ≤ y) (h4 : y ≤ 2147483647) : -4611686014132420609 ≤ x * y ∧ x * y ≤ 4611686014132420609 := by
  have h : (x * y).natAbs ≤ 2147483647 * 2147483647 := by rw [Int.natAbs_mul]; exact Nat.mul_le_mul (by omega) (by omega)
  omega
theorem mul_pos1 {x y : Int} (h1 : 1 ≤ x) (h2 : 1 ≤ y) : 1 ≤ x * y := by
  have := Int.mul_le_mul h1 h2 (by omega) (by omega); omega
theorem fmod_bd (x y : Int) (hy : y ≠ 0) : -(y.natAbs : Int) ≤ x.fmod y ∧ x.fmod y ≤ y.natAbs := by
  rcases Int.lt_or_gt_of_ne hy with hn | hn
  · have := ((Int.fdiv_fmod_unique' (a := x) (q := x.fdiv y) (r := x.fmod y) hn).1 ⟨rfl, rfl⟩).2; omega
  · have := ((Int.fdiv_fmod_unique (a := x) (q := x.fdiv y) (r := x.fmod y) hn).1 ⟨rfl, rfl⟩).2; omega

/-! How each function's ways end. -/
theorem mk_zero {p q : Int} (h : q = 0) : 0 = (makeT p q).1 ∧ 0 = (makeT p q).2.1 ∧ 7 = (makeT p q).2.2 := by simp [makeT, h]
theorem mk_out {p q : Int} (h : ¬ q = 0) (h2 : ¬ (-4611686018427387904 ≤ p ∧ p ≤ 4611686018427387904 ∧ -4611686018427387904 ≤ q ∧ q ≤ 4611686018427387904)) : 0 = (makeT p q).1 ∧ 0 = (makeT p q).2.1 ∧ 6 = (makeT p q).2.2 := by
  unfold makeT; rw [if_neg h, if_neg h2]; exact ⟨rfl, rfl, rfl⟩
theorem mk_in {p q : Int} (h : ¬ q = 0) (h2 : -4611686018427387904 ≤ p ∧ p ≤ 4611686018427387904 ∧ -4611686018427387904 ≤ q ∧ q ≤ 4611686018427387904) : rP p q = (makeT p q).1 ∧ rQ p q = (makeT p q).2.1 ∧ rE p q = (makeT p q).2.2 := by
  unfold makeT; rw [if_neg h, if_pos h2]; exact ⟨rfl, rfl, rfl⟩
theorem fdiv_bd {p q : Int} (h : 1 ≤ q) (h1 : -2147483647 ≤ p) (h2 : p ≤ 2147483647) : -2147483647 ≤ p.fdiv q ∧ p.fdiv q ≤ 2147483647 := by
  rw [Int.fdiv_eq_ediv_of_nonneg p (by omega)]
  constructor
  · exact Int.le_ediv_of_mul_le (by omega) (by omega)
  · have : p / q < 2147483648 := Int.ediv_lt_of_lt_mul (by omega) (by omega)
    omega
theorem ceil_eq (a b : Int) (h : 1 ≤ b) : (if 0 < a.fmod b then a.fdiv b + 1 else a.fdiv b) = -((-a).fdiv b) := by
  rw [Int.fdiv_eq_ediv_of_nonneg a (by omega), Int.fmod_eq_emod_of_nonneg a (by omega), Int.fdiv_eq_ediv_of_nonneg (-a) (by omega)]
  have h1 := Int.emod_add_mul_ediv a b
  have h2 := Int.emod_nonneg a (show b ≠ 0 by omega)
  have h3 := Int.emod_lt_of_pos a (show 0 < b by omega)
  split
  · rw [Int.neg_ediv]
    have : ¬ b ∣ a := by rw [Int.dvd_iff_emod_eq_zero]; omega
    rw [if_neg this, Int.sign_eq_one_of_pos (by omega)]; omega
  · have : b ∣ a := by rw [Int.dvd_iff_emod_eq_zero]; omega
    rw [Int.neg_ediv_of_dvd this]; omega
theorem cmp_yes {a b c d : Int} (h : vldB a b = true) (h2 : vldB c d = true) : cmpI (a * d) (c * b) = cmpT a b c d := by simp [cmpT, bothB, h, h2]
theorem cmpI_zero {x y : Int} : cmpI x y = 0 ↔ x = y := by unfold cmpI; split <;> (try split) <;> constructor <;> intro h <;> omega
theorem cmp_no {a b c d : Int} (h : bothB a b c d = false) : (if cmpI a c != 0 then cmpI a c else cmpI b d) = cmpT a b c d := by
  unfold cmpT; rw [h]
  by_cases e : a = c
  · subst e
    have : cmpI a a = 0 := cmpI_zero.2 rfl
    simp [this]
  · have : cmpI a c ≠ 0 := fun h => e (cmpI_zero.1 h)
    simp [this, e]
end Go.Proofs.YtfclmnglckikbaaGreatDoor

/- More plain facts on exact fractions. -/
namespace Go.Proofs.YtfclmnglckikbaaGreatDoor
set_option linter.unusedVariables false

/-- The remainder has the sign of the dividend. -/
theorem tmod_sign (x y : Int) (h : ¬ x.tmod y = 0) : (x.tmod y < 0) ↔ x < 0 := by
  constructor
  · intro h1
    by_cases h2 : x < 0
    · exact h2
    · have := Int.tmod_nonneg (a := x) y (by omega); omega
  · intro h1
    have h2 := Int.tmod_nonneg (a := -x) y (by omega)
    rw [Int.neg_tmod] at h2
    omega
/-- 'Pow': numerator, denominator, error. -/
def powRng (a b n m : Int) : Bool := vldB a b && (wholeB n m && (decide (-64 ≤ n) && decide (n ≤ 64)))
def powT (a b n m : Int) : Int × Int × Int :=
  if powRng a b n m then
    (if a = 0 ∧ n < 0 then (0, 0, 7)
     else if (powOk a n.natAbs && powOk b n.natAbs) = false then (0, 0, 6)
     else if n < 0 then redT (b ^ n.natAbs) (a ^ n.natAbs) else redT (a ^ n.natAbs) (b ^ n.natAbs))
  else (0, 0, 2)

theorem powRng_yes {a b n m : Int} (h : powRng a b n m = true) : vldB a b = true ∧ vldB n m = true ∧ wholeB n m = true ∧ m = 1 ∧ -64 ≤ n ∧ n ≤ 64 := by
  unfold powRng wholeB at h
  simp only [Bool.and_eq_true, decide_eq_true_eq, beq_iff_eq] at h
  exact ⟨h.1, h.2.1.1, by unfold wholeB; simp only [h.2.1.1, Bool.true_and, beq_iff_eq]; exact h.2.1.2, h.2.1.2, h.2.2.1, h.2.2.2⟩
theorem powT_two {a b n m : Int} (h : powRng a b n m = false) : powT a b n m = (0, 0, 2) := by simp [powT, h]
theorem powT_zero {a b n m : Int} (h : powRng a b n m = true) (h1 : a = 0) (h2 : n < 0) : powT a b n m = (0, 0, 7) := by unfold powT; rw [if_pos h, if_pos ⟨h1, h2⟩]
theorem powT_out {a b n m : Int} (h : powRng a b n m = true) (h1 : ¬ (a = 0 ∧ n < 0)) (h2 : (powOk a n.natAbs && powOk b n.natAbs) = false) : powT a b n m = (0, 0, 6) := by
  unfold powT; rw [if_pos h, if_neg h1, if_pos h2]
theorem powT_up {a b n m : Int} (h : powRng a b n m = true) (h1 : ¬ (a = 0 ∧ n < 0)) (h2 : powOk a n.natAbs = true) (h3 : powOk b n.natAbs = true) (h4 : 0 ≤ n) :
    powT a b n m = (rP (a ^ n.natAbs) (b ^ n.natAbs), rQ (a ^ n.natAbs) (b ^ n.natAbs), rE (a ^ n.natAbs) (b ^ n.natAbs)) := by
  unfold powT; rw [if_pos h, if_neg h1, if_neg (by simp [h2, h3]), if_neg (by omega)]; rfl
theorem powT_down {a b n m : Int} (h : powRng a b n m = true) (h1 : ¬ (a = 0 ∧ n < 0)) (h2 : powOk a n.natAbs = true) (h3 : powOk b n.natAbs = true) (h4 : n < 0) :
    powT a b n m = (rP (b ^ n.natAbs) (a ^ n.natAbs), rQ (b ^ n.natAbs) (a ^ n.natAbs), rE (b ^ n.natAbs) (a ^ n.natAbs)) := by
  unfold powT; rw [if_pos h, if_neg h1, if_neg (by simp [h2, h3]), if_pos h4]; rfl
theorem powV_yes {x : Int} {k : Nat} (h : powOk x k = true) : powV x k = x ^ k ∧ -2147483647 ≤ x ^ k ∧ x ^ k ≤ 2147483647 := by
  have h1 := powOk_iff.1 h
  exact ⟨by simp [powV, h], h1.1, h1.2⟩
theorem pow_ne {x : Int} {k : Nat} (h : x ≠ 0) : x ^ k ≠ 0 := Int.pow_ne_zero h
end Go.Proofs.YtfclmnglckikbaaGreatDoor

/- The plain laws of exact fractions, over Lean's own rationals: no program in sight. -/
namespace Go.Proofs.YtfclmnglckikbaaGreatDoor
set_option linter.unusedVariables false

/-- The result for a rational number: itself in range, or the error. -/
def outR (r : Rat) : Int × Int × Int := if -2147483647 ≤ r.num ∧ r.num ≤ 2147483647 ∧ (r.den : Int) ≤ 2147483647 then (r.num, (r.den : Int), 0) else (0, 0, 6)

theorem redT_out (p q : Int) : redT p q = outR (Rat.divInt p q) := by
  unfold redT outR rP rQ rE
  by_cases h : -2147483647 ≤ redP p q ∧ redP p q ≤ 2147483647 ∧ redQ p q ≤ 2147483647
  · have h2 := redOk_of h.1 h.2.1 h.2.2
    rw [if_pos h2, if_pos h2, if_pos h2]
    unfold redP redQ at h ⊢
    rw [if_pos h]
  · have h2 : ¬ redOk p q = true := fun h3 => h (redOk_true h3)
    rw [if_neg h2, if_neg h2, if_neg h2]
    unfold redP redQ at h
    rw [if_neg h]

theorem val_num {p q : Int} (h : vldB p q = true) : (Rat.divInt p q).num = p ∧ ((Rat.divInt p q).den : Int) = q := by
  have hb := vld_bd h
  have hg := vld_gcd h
  have e1 := redP_eq p q (by omega)
  have e2 := redQ_eq p q (by omega)
  unfold redP at e1
  unfold redQ at e2
  rw [e1, e2, hg]
  simp

theorem out_val {p q : Int} (h : vldB p q = true) : outR (Rat.divInt p q) = (p, q, 0) := by
  have hb := vld_bd h
  obtain ⟨e1, e2⟩ := val_num h
  unfold outR
  rw [e1, e2, if_pos ⟨hb.2.2.1, hb.2.2.2, hb.2.1⟩]

theorem out_ok {r : Rat} (h : (outR r).2.2 = 0) : vldB (outR r).1 (outR r).2.1 = true ∧ Rat.divInt (outR r).1 (outR r).2.1 = r := by
  unfold outR at *
  by_cases hc : -2147483647 ≤ r.num ∧ r.num ≤ 2147483647 ∧ (r.den : Int) ≤ 2147483647
  · rw [if_pos hc]
    refine ⟨?_, Rat.num_divInt_den r⟩
    have hd := r.den_pos
    have hr : Int.gcd r.num (r.den : Int) = 1 := by
      have := r.reduced
      unfold Int.gcd
      simpa using this
    unfold vldB
    simp only [hr]
    simp
    omega
  · rw [if_neg hc] at h
    cases h

theorem out_E (r : Rat) : (outR r).2.2 = 0 ∨ (outR r).2.2 = 6 := by
  unfold outR; split
  · left; rfl
  · right; rfl

theorem divInt_add' {a b c d : Int} (hb : 1 ≤ b) (hd : 1 ≤ d) : Rat.divInt (a * d + c * b) (b * d) = Rat.divInt a b + Rat.divInt c d := by
  rw [Rat.divInt_add_divInt _ _ (by omega) (by omega)]
theorem divInt_sub' {a b c d : Int} (hb : 1 ≤ b) (hd : 1 ≤ d) : Rat.divInt (a * d - c * b) (b * d) = Rat.divInt a b - Rat.divInt c d := by
  rw [Rat.divInt_sub_divInt _ _ (by omega) (by omega)]

theorem addT_out {a b c d : Int} (h : vldB a b = true) (h2 : vldB c d = true) : addT a b c d = outR (Rat.divInt a b + Rat.divInt c d) := by
  unfold addT bothB
  rw [h, h2, Bool.true_and, if_pos rfl, redT_out, divInt_add' (vld_bd h).1 (vld_bd h2).1]
theorem subT_out {a b c d : Int} (h : vldB a b = true) (h2 : vldB c d = true) : subT a b c d = outR (Rat.divInt a b - Rat.divInt c d) := by
  unfold subT bothB
  rw [h, h2, Bool.true_and, if_pos rfl, redT_out, divInt_sub' (vld_bd h).1 (vld_bd h2).1]
theorem mulT_out {a b c d : Int} (h : vldB a b = true) (h2 : vldB c d = true) : mulT a b c d = outR (Rat.divInt a b * Rat.divInt c d) := by
  unfold mulT bothB
  rw [h, h2, Bool.true_and, if_pos rfl, redT_out, Rat.divInt_mul_divInt]
theorem val_zero {c d : Int} (hd : 1 ≤ d) : Rat.divInt c d = 0 ↔ c = 0 := by
  constructor
  · intro h
    have := (Rat.divInt_eq_divInt_iff (n₁ := c) (d₁ := d) (n₂ := 0) (d₂ := 1) (by omega) (by omega)).1 (by rw [h]; rfl)
    omega
  · rintro rfl
    rw [Rat.zero_divInt]
theorem divT_out {a b c d : Int} (h : vldB a b = true) (h2 : vldB c d = true) (hc : c ≠ 0) : divT a b c d = outR (Rat.divInt a b / Rat.divInt c d) := by
  have hb := (vld_bd h).1
  have hd := (vld_bd h2).1
  unfold divT bothB
  rw [h, h2, Bool.true_and, if_pos rfl, if_neg hc, redT_out]
  congr 1
  have hy : Rat.divInt c d ≠ 0 := fun e => hc ((val_zero hd).1 e)
  have key : Rat.divInt (a * d) (c * b) * Rat.divInt c d = Rat.divInt a b := by
    rw [Rat.divInt_mul_divInt, Rat.divInt_eq_divInt_iff (Int.mul_ne_zero (Int.mul_ne_zero hc (by omega)) (by omega)) (by omega)]
    rw [Int.mul_assoc, Int.mul_assoc, Int.mul_comm (c * b) d]
  rw [← key, Rat.mul_div_cancel hy]

/-! ### RationalFields -/
theorem add_comm_T {a b c d : Int} (h : vldB a b = true) (h2 : vldB c d = true) : addT a b c d = addT c d a b := by
  rw [addT_out h h2, addT_out h2 h, Rat.add_comm]
theorem mul_comm_T {a b c d : Int} (h : vldB a b = true) (h2 : vldB c d = true) : mulT a b c d = mulT c d a b := by
  rw [mulT_out h h2, mulT_out h2 h, Rat.mul_comm]
theorem add_vld {a b c d : Int} (h : vldB a b = true) (h2 : vldB c d = true) (he : (addT a b c d).2.2 = 0) : vldB (addT a b c d).1 (addT a b c d).2.1 = true ∧ Rat.divInt (addT a b c d).1 (addT a b c d).2.1 = Rat.divInt a b + Rat.divInt c d := by
  rw [addT_out h h2] at *; exact out_ok he
theorem mul_vld {a b c d : Int} (h : vldB a b = true) (h2 : vldB c d = true) (he : (mulT a b c d).2.2 = 0) : vldB (mulT a b c d).1 (mulT a b c d).2.1 = true ∧ Rat.divInt (mulT a b c d).1 (mulT a b c d).2.1 = Rat.divInt a b * Rat.divInt c d := by
  rw [mulT_out h h2] at *; exact out_ok he
theorem add_assoc_T {a b c d e f : Int} (h1 : vldB a b = true) (h2 : vldB c d = true) (h3 : vldB e f = true) (k1 : (addT a b c d).2.2 = 0) (k2 : (addT c d e f).2.2 = 0) :
    addT (addT a b c d).1 (addT a b c d).2.1 e f = addT a b (addT c d e f).1 (addT c d e f).2.1 := by
  obtain ⟨v1, w1⟩ := add_vld h1 h2 k1
  obtain ⟨v2, w2⟩ := add_vld h2 h3 k2
  rw [addT_out v1 h3, addT_out h1 v2, w1, w2, Rat.add_assoc]
theorem distrib_T {a b c d e f : Int} (h1 : vldB a b = true) (h2 : vldB c d = true) (h3 : vldB e f = true) (k1 : (addT c d e f).2.2 = 0) (k2 : (mulT a b c d).2.2 = 0) (k3 : (mulT a b e f).2.2 = 0) :
    mulT a b (addT c d e f).1 (addT c d e f).2.1 = addT (mulT a b c d).1 (mulT a b c d).2.1 (mulT a b e f).1 (mulT a b e f).2.1 := by
  obtain ⟨v1, w1⟩ := add_vld h2 h3 k1
  obtain ⟨v2, w2⟩ := mul_vld h1 h2 k2
  obtain ⟨v3, w3⟩ := mul_vld h1 h3 k3
  rw [mulT_out h1 v1, addT_out v2 v3, w1, w2, w3, Rat.mul_add]
theorem div_back_T {a b c d : Int} (h1 : vldB a b = true) (h2 : vldB c d = true) (k : (mulT a b c d).2.2 = 0) (hc : c ≠ 0) : divT (mulT a b c d).1 (mulT a b c d).2.1 c d = (a, b, 0) := by
  obtain ⟨v2, w2⟩ := mul_vld h1 h2 k
  have hy : Rat.divInt c d ≠ 0 := fun e => hc ((val_zero (vld_bd h2).1).1 e)
  rw [divT_out v2 h2 hc, w2, Rat.mul_div_cancel hy, out_val h1]
theorem neg_vld {c d : Int} (h : vldB c d = true) : vldB (-c) d = true := by
  have hb := vld_bd h
  have hg := vld_gcd h
  unfold vldB
  rw [Int.neg_gcd, hg]
  simp; omega
theorem negT_yes {c d : Int} (h : vldB c d = true) : negT c d = (-c, d, 0) := by unfold negT; rw [if_pos h]
theorem sub_neg_T {a b c d : Int} (h1 : vldB a b = true) (h2 : vldB c d = true) : subT a b c d = addT a b (-c) d := by
  rw [subT_out h1 h2, addT_out h1 (neg_vld h2), Rat.sub_eq_add_neg, Rat.neg_divInt]
theorem make_back_T {a b : Int} (h : vldB a b = true) : makeT a b = (a, b, 0) := by
  have hb := vld_bd h
  unfold makeT
  rw [if_neg (by omega), if_pos (by omega), redT_out, out_val h]

/-! ### RationalDivides, RationalOrders -/
def cmpR (x y : Rat) : Int := if x < y then -1 else if y < x then 1 else 0
theorem lt_val {a b c d : Int} (h : vldB a b = true) (h2 : vldB c d = true) : Rat.divInt a b < Rat.divInt c d ↔ a * d < c * b := by
  obtain ⟨e1, e2⟩ := val_num h
  obtain ⟨e3, e4⟩ := val_num h2
  rw [Rat.lt_iff, e1, e2, e3, e4]
theorem cmpT_R {a b c d : Int} (h : vldB a b = true) (h2 : vldB c d = true) : cmpT a b c d = cmpR (Rat.divInt a b) (Rat.divInt c d) := by
  rw [← cmp_yes h h2]
  unfold cmpI cmpR
  simp only [lt_val h h2, lt_val h2 h]
theorem eq_val {a b c d : Int} (h : vldB a b = true) (h2 : vldB c d = true) : Rat.divInt a b = Rat.divInt c d ↔ a = c ∧ b = d := by
  obtain ⟨e1, e2⟩ := val_num h
  obtain ⟨e3, e4⟩ := val_num h2
  constructor
  · intro e
    rw [e] at e1 e2
    exact ⟨e1.symm.trans e3, e2.symm.trans e4⟩
  · rintro ⟨rfl, rfl⟩; rfl
theorem cmpR_cases (x y : Rat) : (cmpR x y = -1 ∧ x < y) ∨ (cmpR x y = 0 ∧ x = y) ∨ (cmpR x y = 1 ∧ y < x) := by
  unfold cmpR
  by_cases h : x < y
  · exact .inl ⟨if_pos h, h⟩
  · rw [if_neg h]
    by_cases h2 : y < x
    · exact .inr (.inr ⟨if_pos h2, h2⟩)
    · exact .inr (.inl ⟨if_neg h2, Rat.le_antisymm (Rat.not_lt.1 h2) (Rat.not_lt.1 h)⟩)
theorem cmpR_of_lt {x y : Rat} (h : x < y) : cmpR x y = -1 := if_pos h
theorem cmpR_of_gt {x y : Rat} (h : y < x) : cmpR x y = 1 := by
  rcases cmpR_cases x y with ⟨_, h2⟩ | ⟨_, h2⟩ | ⟨h1, _⟩
  · exact absurd (Rat.le_trans (Rat.le_of_lt h) (Rat.le_of_lt h2)) (by intro _; exact Rat.not_le.2 h2 (Rat.le_of_lt h))
  · subst h2; exact absurd h Rat.lt_irrefl
  · exact h1
theorem cmpR_le {x y : Rat} : cmpR x y ≤ 0 ↔ x ≤ y := by
  rcases cmpR_cases x y with ⟨h1, h2⟩ | ⟨h1, h2⟩ | ⟨h1, h2⟩
  · exact ⟨fun _ => Rat.le_of_lt h2, fun _ => by omega⟩
  · exact ⟨fun _ => by rw [h2]; exact Rat.le_refl, fun _ => by omega⟩
  · exact ⟨fun _ => by omega, fun h => absurd h (Rat.not_le.2 h2)⟩
theorem cmpR_add (x y z : Rat) : cmpR (x + z) (y + z) = cmpR x y := by
  unfold cmpR
  simp only [Rat.add_lt_add_right]

theorem ord_eq_T {a b c d : Int} (h : vldB a b = true) (h2 : vldB c d = true) : (cmpT a b c d = 0 ↔ a = c ∧ b = d) ∧ -1 ≤ cmpT a b c d ∧ cmpT a b c d ≤ 1 := by
  rw [cmpT_R h h2, ← eq_val h h2]
  rcases cmpR_cases (Rat.divInt a b) (Rat.divInt c d) with ⟨h1, h2⟩ | ⟨h1, h2⟩ | ⟨h1, h2⟩
  · refine ⟨⟨fun e => by omega, fun e => absurd h2 (by rw [e]; exact Rat.lt_irrefl)⟩, by omega, by omega⟩
  · exact ⟨⟨fun _ => h2, fun _ => h1⟩, by omega, by omega⟩
  · refine ⟨⟨fun e => by omega, fun e => absurd h2 (by rw [e]; exact Rat.lt_irrefl)⟩, by omega, by omega⟩
theorem ord_trans_T {a b c d e f : Int} (h1 : vldB a b = true) (h2 : vldB c d = true) (h3 : vldB e f = true) (k1 : cmpT a b c d ≤ 0) (k2 : cmpT c d e f ≤ 0) : cmpT a b e f ≤ 0 := by
  rw [cmpT_R h1 h2, cmpR_le] at k1
  rw [cmpT_R h2 h3, cmpR_le] at k2
  rw [cmpT_R h1 h3, cmpR_le]
  exact Rat.le_trans k1 k2
theorem ord_add_T {a b c d e f : Int} (h1 : vldB a b = true) (h2 : vldB c d = true) (h3 : vldB e f = true) (k1 : (addT a b e f).2.2 = 0) (k2 : (addT c d e f).2.2 = 0) :
    cmpT (addT a b e f).1 (addT a b e f).2.1 (addT c d e f).1 (addT c d e f).2.1 = cmpT a b c d := by
  obtain ⟨v1, w1⟩ := add_vld h1 h3 k1
  obtain ⟨v2, w2⟩ := add_vld h2 h3 k2
  rw [cmpT_R v1 v2, w1, w2, cmpR_add, cmpT_R h1 h2]

theorem vld_one {n : Int} (h : -2147483647 ≤ n) (h2 : n ≤ 2147483647) : vldB n 1 = true := by
  unfold vldB; simp; omega
theorem intT_in {n : Int} (h : -2147483647 ≤ n) (h2 : n ≤ 2147483647) : intT n = (n, 1, 0) := by unfold intT; rw [if_pos ⟨h, h2⟩]
theorem floor_T {a b : Int} (h : vldB a b = true) : floorT a b = (a.fdiv b, 1, 0) ∧ vldB (a.fdiv b) 1 = true ∧ cmpT (a.fdiv b) 1 a b ≤ 0 := by
  have hb := vld_bd h
  obtain ⟨f1, f2⟩ := fdiv_bd (p := a) hb.1 hb.2.2.1 hb.2.2.2
  have hv := vld_one f1 f2
  refine ⟨by unfold floorT; rw [if_pos h, intT_in f1 f2], hv, ?_⟩
  rw [cmpT_R hv h, cmpR_le, Rat.le_iff, (val_num hv).1, (val_num hv).2, (val_num h).1, (val_num h).2]
  have h1 := ((Int.fdiv_fmod_unique (a := a) (q := a.fdiv b) (r := a.fmod b) (by omega)).1 ⟨rfl, rfl⟩)
  have : a.fdiv b * b = b * a.fdiv b := Int.mul_comm _ _
  omega
theorem ceil_T {a b : Int} (h : vldB a b = true) : ceilT a b = (-((-a).fdiv b), 1, 0) ∧ vldB (-((-a).fdiv b)) 1 = true ∧ 0 ≤ cmpT (-((-a).fdiv b)) 1 a b ∧ -((-a).fdiv b) - a.fdiv b ≤ 1 ∧ (-((-a).fdiv b) = a.fdiv b ↔ b = 1) := by
  have hb := vld_bd h
  obtain ⟨f1, f2⟩ := fdiv_bd (p := -a) hb.1 (by omega) (by omega)
  have hv := vld_one (n := -((-a).fdiv b)) (by omega) (by omega)
  have h1 := ((Int.fdiv_fmod_unique (a := -a) (q := (-a).fdiv b) (r := (-a).fmod b) (by omega)).1 ⟨rfl, rfl⟩)
  have h2 := ((Int.fdiv_fmod_unique (a := a) (q := a.fdiv b) (r := a.fmod b) (by omega)).1 ⟨rfl, rfl⟩)
  refine ⟨by unfold ceilT; rw [if_pos h, intT_in (by omega) (by omega)], hv, ?_, ?_, ?_⟩
  · have hle : Rat.divInt a b ≤ Rat.divInt (-((-a).fdiv b)) 1 := by
      rw [Rat.le_iff, (val_num hv).1, (val_num hv).2, (val_num h).1, (val_num h).2]
      have : -((-a).fdiv b) * b = -(b * (-a).fdiv b) := by rw [Int.neg_mul, Int.mul_comm]
      omega
    rw [cmpT_R hv h]
    rcases cmpR_cases (Rat.divInt (-((-a).fdiv b)) 1) (Rat.divInt a b) with ⟨_, k2⟩ | ⟨k1, _⟩ | ⟨k1, _⟩
    · exact absurd hle (Rat.not_le.2 k2)
    · omega
    · omega
  · -- the two are at most 1 apart
    rw [← ceil_eq a b hb.1]; split <;> omega
  · rw [← ceil_eq a b hb.1]
    constructor
    · intro e
      have hz : a.fmod b = 0 := by
        by_cases h3 : 0 < a.fmod b
        · rw [if_pos h3] at e; omega
        · omega
      have hd : b ∣ a := ⟨a.fdiv b, by omega⟩
      have hg := vld_gcd h
      have : Int.gcd a b = b.natAbs := Int.gcd_eq_natAbs_right_iff_dvd.2 hd
      omega
    · rintro rfl
      rw [if_neg (by have := h2.2; omega)]

theorem lt_divInt {a b c d : Int} (hb : 0 < b) (hd : 0 < d) : Rat.divInt a b < Rat.divInt c d ↔ a * d < c * b := by
  rw [Rat.lt_iff_sub_pos, Rat.divInt_sub_divInt _ _ (by omega) (by omega), Rat.lt_iff]
  have e : redP (c * b - a * d) (d * b) * 1 = redP (c * b - a * d) (d * b) := Int.mul_one _
  have hdb : 0 < d * b := Int.mul_pos hd hb
  have hp := redP_eq (c * b - a * d) (d * b) hdb
  have hg := gcd_pos (c * b - a * d) (d * b) hdb
  have hm : (c * b - a * d) / (Int.gcd (c * b - a * d) (d * b) : Int) * (Int.gcd (c * b - a * d) (d * b) : Int) = c * b - a * d := Int.ediv_mul_cancel (Int.gcd_dvd_left _ _)
  unfold redP at hp e
  simp only [Rat.num_ofNat, Rat.den_ofNat, Int.zero_mul]
  rw [hp]
  generalize (Int.gcd (c * b - a * d) (d * b) : Int) = g at *
  generalize (c * b - a * d) / g = k at *
  constructor
  · intro h
    have h1 : 0 < k := by simpa using h
    have := Int.mul_pos h1 hg
    omega
  · intro h
    have h1 : 0 < k := by
      by_cases h2 : 0 < k
      · exact h2
      · have := Int.mul_nonpos_of_nonpos_of_nonneg (a := k) (b := g) (by omega) (by omega)
        omega
    simpa using h1

theorem modT_yes {a b c d : Int} (h : vldB a b = true) (h2 : vldB c d = true) (hc : c ≠ 0) : modT a b c d = outR (Rat.divInt ((a * d).fmod (c * b)) (b * d)) := by
  unfold modT bothB
  rw [h, h2, Bool.true_and, if_pos rfl, if_neg hc, redT_out]
theorem quotT_yes {a b c d : Int} (h : vldB a b = true) (h2 : vldB c d = true) (hc : c ≠ 0) : quotT a b c d = intT ((a * d).fdiv (c * b)) := by
  unfold quotT bothB
  rw [h, h2, Bool.true_and, if_pos rfl, if_neg hc]
theorem mod_zero_T {a b d : Int} (h : vldB a b = true) (h2 : vldB 0 d = true) : quotT a b 0 d = (0, 0, 7) ∧ modT a b 0 d = (0, 0, 7) := by
  unfold quotT modT bothB
  rw [h, h2]; exact ⟨rfl, rfl⟩
theorem intT_E (n : Int) : (intT n).2.2 = 0 ∨ (intT n).2.2 = 6 := by unfold intT; split <;> simp
theorem div_E_T {a b c d : Int} (h : vldB a b = true) (h2 : vldB c d = true) (hc : c ≠ 0) : ((quotT a b c d).2.2 = 0 ∨ (quotT a b c d).2.2 = 6) ∧ ((modT a b c d).2.2 = 0 ∨ (modT a b c d).2.2 = 6) := by
  rw [quotT_yes h h2 hc, modT_yes h h2 hc]; exact ⟨intT_E _, out_E _⟩

theorem mod_ok_T {a b c d : Int} (h : vldB a b = true) (h2 : vldB c d = true) (hc : c ≠ 0) (k : (modT a b c d).2.2 = 0) :
    vldB (modT a b c d).1 (modT a b c d).2.1 = true ∧ Rat.divInt (modT a b c d).1 (modT a b c d).2.1 = Rat.divInt ((a * d).fmod (c * b)) (b * d) := by
  rw [modT_yes h h2 hc] at *; exact out_ok k
/-- The remainder is 0 or has the divisor's sign, and is closer to 0. -/
theorem mod_sign_T {a b c d : Int} (h : vldB a b = true) (h2 : vldB c d = true) (hc : c ≠ 0) (k : (modT a b c d).2.2 = 0) :
    ((modT a b c d).1 ≠ 0 → ((modT a b c d).1 < 0 ↔ c < 0)) ∧ (0 < c → cmpT (modT a b c d).1 (modT a b c d).2.1 c d = -1) ∧ (c < 0 → cmpT (modT a b c d).1 (modT a b c d).2.1 c d = 1) := by
  obtain ⟨v, w⟩ := mod_ok_T h h2 hc k
  have hb := (vld_bd h).1
  have hd := (vld_bd h2).1
  have hq := (vld_bd v).1
  generalize (modT a b c d).1 = mp at *
  generalize (modT a b c d).2.1 = mq at *
  have hbd := mul_pos1 hb hd
  have hcb : c * b ≠ 0 := Int.mul_ne_zero hc (by omega)
  -- the remainder of the integers
  have hz : Rat.divInt 0 1 = 0 := by rfl
  have s1 : mp < 0 ↔ (a * d).fmod (c * b) < 0 := by
    have e1 := lt_divInt (a := mp) (b := mq) (c := 0) (d := 1) (by omega) (by omega)
    have e2 := lt_divInt (a := (a * d).fmod (c * b)) (b := b * d) (c := 0) (d := 1) (by omega) (by omega)
    rw [w] at e1
    rw [e1] at e2
    simpa using e2
  have s2 : 0 < mp ↔ 0 < (a * d).fmod (c * b) := by
    have e1 := lt_divInt (c := mp) (d := mq) (a := 0) (b := 1) (by omega) (by omega)
    have e2 := lt_divInt (c := (a * d).fmod (c * b)) (d := b * d) (a := 0) (b := 1) (by omega) (by omega)
    rw [w] at e1
    rw [e1] at e2
    simpa using e2
  have hcd1 : c * (b * d) = c * b * d := by rw [Int.mul_assoc]
  rw [cmpT_R v h2, w]
  generalize hr : (a * d).fmod (c * b) = r at *
  by_cases hp : 0 < c
  · have hcp : 0 < c * b := Int.mul_pos hp (by omega)
    have h1 := ((Int.fdiv_fmod_unique (a := a * d) (q := (a * d).fdiv (c * b)) (r := r) hcp).1 ⟨rfl, hr⟩).2
    refine ⟨fun hn => by omega, fun _ => cmpR_of_lt ((lt_divInt (by omega) (by omega)).2 ?_), fun hn => by omega⟩
    rw [hcd1]
    exact Int.mul_lt_mul_of_pos_right h1.2 (by omega)
  · have hcn : c * b < 0 := Int.mul_neg_of_neg_of_pos (by omega) (by omega)
    have h1 := ((Int.fdiv_fmod_unique' (a := a * d) (q := (a * d).fdiv (c * b)) (r := r) hcn).1 ⟨rfl, hr⟩).2
    refine ⟨fun hn => by omega, fun hn => by omega, fun _ => cmpR_of_gt ((lt_divInt (by omega) (by omega)).2 ?_)⟩
    rw [hcd1]
    exact Int.mul_lt_mul_of_pos_right h1.1 (by omega)
/-- The divisor times the quotient plus the remainder is the dividend. -/
theorem mod_back_T {a b c d : Int} (h : vldB a b = true) (h2 : vldB c d = true) (hc : c ≠ 0) (k1 : (quotT a b c d).2.2 = 0) (k2 : (modT a b c d).2.2 = 0) (k3 : (mulT c d (quotT a b c d).1 (quotT a b c d).2.1).2.2 = 0) :
    addT (mulT c d (quotT a b c d).1 (quotT a b c d).2.1).1 (mulT c d (quotT a b c d).1 (quotT a b c d).2.1).2.1 (modT a b c d).1 (modT a b c d).2.1 = (a, b, 0) := by
  obtain ⟨v, w⟩ := mod_ok_T h h2 hc k2
  have hb := (vld_bd h).1
  have hd := (vld_bd h2).1
  rw [quotT_yes h h2 hc] at *
  have hin : -2147483647 ≤ (a * d).fdiv (c * b) ∧ (a * d).fdiv (c * b) ≤ 2147483647 := by
    unfold intT at k1
    by_cases hh : -2147483647 ≤ (a * d).fdiv (c * b) ∧ (a * d).fdiv (c * b) ≤ 2147483647
    · exact hh
    · rw [if_neg hh] at k1; cases k1
  rw [intT_in hin.1 hin.2] at *
  dsimp only at *
  have vq := vld_one hin.1 hin.2
  obtain ⟨v3, w3⟩ := mul_vld h2 vq k3
  rw [addT_out v3 v, w3, w, ← out_val h]
  congr 1
  have hcb : c * b ≠ 0 := Int.mul_ne_zero hc (by omega)
  have hbd := mul_pos1 hb hd
  rw [Rat.divInt_mul_divInt, Rat.divInt_add_divInt _ _ (by omega) (by omega), Rat.divInt_eq_divInt_iff (Int.mul_ne_zero (by omega) (by omega)) (by omega)]
  have e := Int.fmod_add_mul_fdiv (a * d) (c * b)
  generalize (a * d).fmod (c * b) = r at *
  generalize (a * d).fdiv (c * b) = q at *
  have e2 : r = a * d - c * b * q := by omega
  subst e2
  grind
/-! ### RationalCompares -/
theorem cmpI_anti (x y : Int) : cmpI y x = -cmpI x y := by unfold cmpI; split <;> (try split) <;> (try split) <;> omega
theorem cmpI_range (x y : Int) : -1 ≤ cmpI x y ∧ cmpI x y ≤ 1 := by unfold cmpI; split <;> (try split) <;> omega
theorem both_comm (a b c d : Int) : bothB c d a b = bothB a b c d := by unfold bothB; exact Bool.and_comm _ _
theorem cmp_self_T (a b : Int) : cmpT a b a b = 0 := by
  unfold cmpT; split
  · exact cmpI_zero.2 rfl
  · rw [if_pos rfl]; exact cmpI_zero.2 rfl
theorem cmp_anti_T (a b c d : Int) : cmpT c d a b = -cmpT a b c d := by
  unfold cmpT
  rw [both_comm]
  split
  · exact cmpI_anti _ _
  · by_cases e : a = c
    · subst e; rw [if_pos rfl, if_pos rfl]; exact cmpI_anti _ _
    · rw [if_neg e, if_neg (fun h => e h.symm)]; exact cmpI_anti _ _
theorem cmp_range_T (a b c d : Int) : -1 ≤ cmpT a b c d ∧ cmpT a b c d ≤ 1 := by
  unfold cmpT
  repeat' split
  all_goals exact cmpI_range _ _
end Go.Proofs.YtfclmnglckikbaaGreatDoor

/- Plain facts on numerals: no program in sight. -/
namespace Go.Proofs.YtfclmnglckikbaaGreatDoor
set_option linter.unusedVariables false

/-- The reference's value of a digit (up to base 16); 99 if there is none. -/
def dvN (c : Nat) : Nat :=
  if 48 ≤ c ∧ c ≤ 57 then c - 48 else if 97 ≤ c ∧ c ≤ 102 then c - 97 + 10 else if 65 ≤ c ∧ c ≤ 70 then c - 65 + 10 else 99

/-- The program's value of a digit (up to base 36); -1 if there is none. -/
def pdN (c : Nat) : Int :=
  if 48 ≤ c ∧ c ≤ 57 then (c : Int) - 48 else if 97 ≤ c ∧ c ≤ 122 then (c : Int) - 97 + 10 else if 65 ≤ c ∧ c ≤ 90 then (c : Int) - 65 + 10 else -1

theorem pd_dv (c b : Nat) (hb : b ≤ 16) : (0 ≤ pdN c ∧ pdN c < (b : Int)) ↔ dvN c < b := by
  unfold pdN dvN
  split <;> (try split) <;> (try split) <;> (try split) <;> (try split) <;> omega

theorem pd_eq (c b : Nat) (hb : b ≤ 16) (h : dvN c < b) : pdN c = dvN c := by
  revert h
  unfold pdN dvN
  split <;> (try split) <;> (try split) <;> (try split) <;> (try split) <;> omega

/-- The byte at an index of a list; 0 behind its end. -/
def bat (l : List UInt8) (i : Nat) : Nat := (l.getD i 0).toNat

/-- The index behind the digits of a base from an index on. -/
def runL (l : List UInt8) (b i : Nat) : Nat := i + ((l.drop i).takeWhile fun c => decide (dvN c.toNat < b)).length

theorem runL_step (l : List UInt8) (b i : Nat) (h : i < l.length) (hd : dvN (bat l i) < b) : runL l b i = runL l b (i + 1) := by
  unfold runL bat at *
  rw [List.drop_eq_getElem_cons h]
  have : l.getD i 0 = l[i] := by simp [List.getD, h]
  rw [this] at hd
  rw [List.takeWhile_cons_of_pos (by simpa using hd)]
  simp; omega

theorem runL_stop (l : List UInt8) (b i : Nat) (h : i < l.length) (hd : ¬ dvN (bat l i) < b) : runL l b i = i := by
  unfold runL bat at *
  rw [List.drop_eq_getElem_cons h]
  have : l.getD i 0 = l[i] := by simp [List.getD, h]
  rw [this] at hd
  rw [List.takeWhile_cons_of_neg (by simpa using hd)]
  simp

theorem runL_end (l : List UInt8) (b i : Nat) (h : l.length ≤ i) : runL l b i = i := by
  unfold runL
  rw [List.drop_eq_nil_of_le h]
  simp

theorem runL_le (l : List UInt8) (b i : Nat) (h : i ≤ l.length) : runL l b i ≤ l.length := by
  unfold runL
  have := (List.takeWhile_sublist (fun c : UInt8 => decide (dvN c.toNat < b)) (l := l.drop i)).length_le
  simp at this
  omega

theorem runL_ge (l : List UInt8) (b i : Nat) : i ≤ runL l b i := by unfold runL; omega

/-- The number that digits are, from an accumulator on; none if it passes 2^62. -/
def numL (b : Nat) : List UInt8 → Nat → Option Nat
  | [], n => some n
  | c :: l, n => if n > (4611686018427387904 - dvN c.toNat) / b then none else numL b l (n * b + dvN c.toNat)

/-- The name of a digit. -/
def nameN (d : Nat) : UInt8 := UInt8.ofNat (if d < 10 then 48 + d else 87 + d)

/-- The digits of a number in a base, the first ahead. -/
def bDigits (b u : Nat) : List UInt8 :=
  if h : u < b ∨ b < 2 then [nameN u] else bDigits b (u / b) ++ [nameN (u % b)]
termination_by u
decreasing_by
  have : 2 ≤ b := by omega
  exact Nat.div_lt_self (by omega) (by omega)

/-- The text of an integer in a base. -/
def bText (b : Nat) (n : Int) : List UInt8 := if n < 0 then 45 :: bDigits b n.natAbs else bDigits b n.toNat


theorem bDigits_small {b u : Nat} (h : u < b) : bDigits b u = [nameN u] := by rw [bDigits, dif_pos (Or.inl h)]
theorem bDigits_big {b u : Nat} (h2 : 2 ≤ b) (h : ¬ u < b) : bDigits b u = bDigits b (u / b) ++ [nameN (u % b)] := by
  rw [bDigits, dif_neg (by omega)]

theorem name_dv_fin : ∀ d : Fin 16, dvN (nameN d.val).toNat = d.val := by decide +kernel
theorem name_dv (d : Nat) (h : d < 16) : dvN (nameN d).toNat = d := name_dv_fin ⟨d, h⟩

/-- The digits read back: within the bound the number itself. -/
theorem numL_append (b : Nat) : ∀ (l m : List UInt8) (n : Nat), numL b (l ++ m) n = (numL b l n).bind (numL b m)
  | [], m, n => rfl
  | c :: l, m, n => by
    simp only [List.cons_append, numL]
    split
    · rfl
    · exact numL_append b l m _

theorem numL_bDigits (b : Nat) (h2 : 2 ≤ b) (hb : b ≤ 16) : ∀ u : Nat, u ≤ 4611686018427387904 → numL b (bDigits b u) 0 = some u := by
  intro u
  induction u using Nat.strongRecOn with
  | ind u ih =>
    intro hu
    by_cases h : u < b
    · rw [bDigits_small h]
      simp only [numL]
      rw [name_dv u (by omega)]
      simp
    · rw [bDigits_big h2 h, numL_append, ih (u / b) (Nat.div_lt_self (by omega) (by omega)) (Nat.le_trans (Nat.div_le_self _ _) hu)]
      simp only [numL, Option.bind_some]
      have hm : u % b < b := Nat.mod_lt _ (by omega)
      rw [name_dv (u % b) (by omega)]
      have hle : u / b ≤ (4611686018427387904 - u % b) / b := by
        rw [Nat.le_div_iff_mul_le (by omega)]
        have := Nat.div_add_mod u b
        rw [Nat.mul_comm] at this
        omega
      rw [if_neg (by omega)]
      congr 1
      have := Nat.div_add_mod u b
      rw [Nat.mul_comm] at this
      exact this

theorem bDigits_digits (b : Nat) (h2 : 2 ≤ b) (hb : b ≤ 16) : ∀ u : Nat, ∀ c ∈ bDigits b u, dvN c.toNat < b := by
  intro u
  induction u using Nat.strongRecOn with
  | ind u ih =>
    intro c hc
    by_cases h : u < b
    · rw [bDigits_small h] at hc
      obtain rfl := List.mem_singleton.1 hc
      rw [name_dv u (by omega)]; exact h
    · rw [bDigits_big h2 h] at hc
      have hm : u % b < b := Nat.mod_lt _ (by omega)
      rcases List.mem_append.1 hc with hc | hc
      · exact ih (u / b) (Nat.div_lt_self (by omega) (by omega)) c hc
      · obtain rfl := List.mem_singleton.1 hc
        rw [name_dv _ (by omega)]; exact hm

theorem bDigits_ne (b u : Nat) : bDigits b u ≠ [] := by
  rw [bDigits]
  split
  · simp
  · simp


/-- The reference's loop: the digits, the last ahead. -/
def revDigits (b u : Nat) : List UInt8 := (bDigits b u).reverse

theorem revDigits_small {b u : Nat} (h : u < b) : revDigits b u = [nameN u] := by simp [revDigits, bDigits_small h]
theorem revDigits_big {b u : Nat} (h2 : 2 ≤ b) (h : ¬ u < b) : revDigits b u = nameN (u % b) :: revDigits b (u / b) := by
  simp [revDigits, bDigits_big h2 h]

/-- The bytes that are cut off at both ends. -/
def blankB (c : UInt8) : Bool := c == 32 || (c == 9 || (c == 10 || c == 13))
def trimFront (l : List UInt8) : List UInt8 := l.dropWhile blankB
def trimL (l : List UInt8) : List UInt8 := (trimFront (trimFront l).reverse).reverse

/-- A numeral behind an index: its kind, the index of its point, where its digits begin, the index behind it. -/
structure Find where
  hex : Bool
  point : Int
  from_ : Nat
  end_ : Nat

/-- The longest numeral at an index. -/
def findL (l : List UInt8) (i : Nat) : Option Find :=
  let e := runL l 10 i
  if e = i then none
  else if e = i + 1 ∧ bat l i = 48 ∧ e < l.length ∧ (bat l e = 120 ∨ bat l e = 88) ∧ e + 1 < runL l 16 (e + 1) then some ⟨true, -1, e + 1, runL l 16 (e + 1)⟩
  else if e < l.length ∧ bat l e = 46 ∧ e + 1 < runL l 10 (e + 1) then some ⟨false, e, i, runL l 10 (e + 1)⟩
  else some ⟨false, -1, i, e⟩

end Go.Proofs.YtfclmnglckikbaaGreatDoor

/- Plain facts on the numeral that 'find' finds: its parts are digits. No program in sight. -/
namespace Go.Proofs.YtfclmnglckikbaaGreatDoor
set_option linter.unusedVariables false

/-- The bytes from an index to another. -/
def sliceL (l : List UInt8) (a b : Nat) : List UInt8 := (l.drop a).take (b - a)

/-- The number with digits over a power of ten: numerator, denominator, error. -/
def ofNum (o : Option Nat) (u : Nat) : Int × Int × Int := match o with | none => (0, 0, 6) | some n => makeT n u

/-- The number of a numeral. -/
def numT (l : List UInt8) (f : Find) : Int × Int × Int :=
  if f.hex then ofNum (numL 16 (sliceL l f.from_ f.end_) 0) 1
  else if f.point < 0 then ofNum (numL 10 (sliceL l f.from_ f.end_) 0) 1
  else if 9 < f.end_ - (f.point.toNat + 1) then (0, 0, 6)
  else ofNum (numL 10 (sliceL l f.from_ f.point.toNat ++ sliceL l (f.point.toNat + 1) f.end_) 0) (10 ^ (f.end_ - (f.point.toNat + 1)))

theorem slice_run (l : List UInt8) (b i : Nat) : sliceL l i (runL l b i) = (l.drop i).takeWhile fun c => decide (dvN c.toNat < b) := by
  unfold sliceL runL
  rw [Nat.add_sub_cancel_left]
  exact ((List.prefix_iff_eq_take).1 (List.takeWhile_prefix _)).symm

theorem mem_takeWhile {α : Type} {p : α → Bool} : ∀ {l : List α} {x : α}, x ∈ l.takeWhile p → p x = true
  | [], _, h => by simp at h
  | a :: l, x, h => by
    by_cases ha : p a = true
    · rw [List.takeWhile_cons_of_pos ha] at h
      rcases List.mem_cons.1 h with rfl | h
      · exact ha
      · exact mem_takeWhile h
    · rw [List.takeWhile_cons_of_neg ha] at h; cases h

theorem slice_run_digits (l : List UInt8) (b i : Nat) : ∀ c ∈ sliceL l i (runL l b i), dvN c.toNat < b := by
  intro c hc
  rw [slice_run] at hc
  simpa using mem_takeWhile hc

/-- The three kinds of a numeral. -/
inductive Kind (l : List UInt8) (i : Nat) : Find → Prop
  | hex (q : Nat) : i + 2 < q → q ≤ l.length → bat l i = 48 → (bat l (i + 1) = 120 ∨ bat l (i + 1) = 88) → (∀ c ∈ sliceL l (i + 2) q, dvN c.toNat < 16) → Kind l i ⟨true, -1, i + 2, q⟩
  | point (d q : Nat) : i < d → d + 1 < q → q ≤ l.length → bat l d = 46 → (∀ c ∈ sliceL l i d, dvN c.toNat < 10) → (∀ c ∈ sliceL l (d + 1) q, dvN c.toNat < 10) → Kind l i ⟨false, d, i, q⟩
  | whole (q : Nat) : i < q → q ≤ l.length → (∀ c ∈ sliceL l i q, dvN c.toNat < 10) → Kind l i ⟨false, -1, i, q⟩

theorem find_kind {l : List UInt8} {i : Nat} {f : Find} (hi : i ≤ l.length) (h : findL l i = some f) : Kind l i f := by
  have g1 := runL_le l 10 i hi
  have g2 := runL_ge l 10 i
  have d1 := slice_run_digits l 10 i
  unfold findL at h
  simp only [] at h
  split at h
  · cases h
  · rename_i hne
    split at h
    · rename_i hx
      obtain ⟨h1, h2, h3, h4, h5⟩ := hx
      cases h
      rw [h1] at h3 h4 h5 ⊢
      exact Kind.hex _ (by omega) (runL_le l 16 _ (by omega)) h2 h4 (slice_run_digits l 16 _)
    · split at h
      · rename_i hp
        obtain ⟨h1, h2, h3⟩ := hp
        cases h
        exact Kind.point _ _ (by omega) h3 (runL_le l 10 _ (by omega)) h2 d1 (slice_run_digits l 10 _)
      · cases h
        exact Kind.whole _ (by omega) g1 d1
end Go.Proofs.YtfclmnglckikbaaGreatDoor
