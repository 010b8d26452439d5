/- Plain facts on exact fractions: no program in sight. -/
namespace Go.Proofs.YtpahemohpaaeoaaDoor
set_option linter.unusedVariables false

/-- A number in lowest terms and in range. -/
def vldB (p q : Int) : Bool := decide (1 ≤ q) && (decide (q ≤ 2147483647) && (decide (-2147483647 ≤ p) && (decide (p ≤ 2147483647) && ((Int.gcd p q : Int) == 1))))

/-- What 'reduce' gives for p/q, q not 0. -/
def redP (p q : Int) : Int := (Rat.divInt p q).num
def redQ (p q : Int) : Int := ((Rat.divInt p q).den : Int)
def redOk (p q : Int) : Bool := decide (-2147483647 ≤ redP p q) && (decide (redP p q ≤ 2147483647) && decide (redQ p q ≤ 2147483647))

theorem redP_eq (p q : Int) (hq : 0 < q) : redP p q = p / (Int.gcd p q : Int) := by
  unfold redP
  rw [Rat.num_divInt, Int.sign_eq_one_of_pos hq, Int.one_mul, Int.gcd_comm]

theorem redQ_eq (p q : Int) (hq : 0 < q) : redQ p q = q / (Int.gcd p q : Int) := by
  unfold redQ
  rw [Rat.den_divInt, if_neg (by omega), Int.natCast_ediv, Int.gcd_comm]
  congr 1; omega

theorem red_neg (p q : Int) : redP (-p) (-q) = redP p q ∧ redQ (-p) (-q) = redQ p q := by
  unfold redP redQ; rw [Rat.neg_divInt_neg]; exact ⟨rfl, rfl⟩

theorem redQ_pos (p q : Int) : 0 < redQ p q := by unfold redQ; have := (Rat.divInt p q).den_pos; omega

theorem gcd_pos (p q : Int) (hq : 0 < q) : 0 < (Int.gcd p q : Int) := by
  have : 0 < Int.gcd p q := Int.gcd_pos_of_ne_zero_right p (by omega)
  omega

theorem max_gcd (p q g : Int) (h : g = (Int.gcd (if p < -p then -p else p) q : Int)) : g = (Int.gcd p q : Int) := by
  rw [h]; split
  · rw [Int.neg_gcd]
  · rfl

theorem max_gcd' (p q g : Int) (h : g = (Int.gcd (if -p < p then p else -p) q : Int)) : g = (Int.gcd (-p) q : Int) := by
  rw [h]; split
  · rw [Int.neg_gcd]
  · rfl

theorem tdiv_red (p q g : Int) (hq : 0 < q) (h : g = (Int.gcd p q : Int)) : p.tdiv g = redP p q := by
  rw [redP_eq p q hq, h, Int.tdiv_eq_ediv_of_dvd (Int.gcd_dvd_left p q)]

theorem pdiv_red (p q g : Int) (hq : 0 < q) (h : g = (Int.gcd p q : Int)) : p / g = redP p q := by
  rw [redP_eq p q hq, h]

theorem div_red (p q g : Int) (hq : 0 < q) (h : g = (Int.gcd p q : Int)) : q / g = redQ p q := by
  rw [redQ_eq p q hq, h]

theorem redOk_true {p q : Int} (h : redOk p q = true) : -2147483647 ≤ redP p q ∧ redP p q ≤ 2147483647 ∧ redQ p q ≤ 2147483647 := by
  unfold redOk at h; simpa using h

theorem redOk_false {p q : Int} (h : redOk p q = false) : ¬ (-2147483647 ≤ redP p q ∧ redP p q ≤ 2147483647 ∧ redQ p q ≤ 2147483647) := by
  intro h2; rw [show redOk p q = true by unfold redOk; simpa using h2] at h; cases h

theorem redOk_neg (p q : Int) : redOk (-p) (-q) = redOk p q := by
  unfold redOk; rw [(red_neg p q).1, (red_neg p q).2]

theorem redOk_of {p q : Int} (h1 : -2147483647 ≤ redP p q) (h2 : redP p q ≤ 2147483647) (h3 : redQ p q ≤ 2147483647) : redOk p q = true := by
  unfold redOk; simp [h1, h2, h3]

/-- The three results of 'reduce': numerator, denominator, error. -/
def rP (p q : Int) : Int := if redOk p q then redP p q else 0
def rQ (p q : Int) : Int := if redOk p q then redQ p q else 0
def rE (p q : Int) : Int := if redOk p q then 0 else 6

theorem r_ok {p q : Int} (h : redOk p q = true) : rP p q = redP p q ∧ rQ p q = redQ p q ∧ rE p q = 0 := by simp [rP, rQ, rE, h]
theorem r_no {p q : Int} (h : ¬ (-2147483647 ≤ redP p q ∧ redP p q ≤ 2147483647 ∧ redQ p q ≤ 2147483647)) : rP p q = 0 ∧ rQ p q = 0 ∧ rE p q = 6 := by
  have : redOk p q = false := by
    cases hk : redOk p q
    · rfl
    · exact absurd (redOk_true hk) h
  simp [rP, rQ, rE, this]
theorem r_no' {p q : Int} (h : ¬ (-2147483647 ≤ redP p q ∧ redP p q ≤ 2147483647 ∧ redQ p q ≤ 2147483647)) : 0 = rP p q ∧ 0 = rQ p q ∧ 6 = rE p q := by
  obtain ⟨a, b, c⟩ := r_no h; exact ⟨a.symm, b.symm, c.symm⟩
theorem r_ok' {p q : Int} (h : -2147483647 ≤ redP p q ∧ redP p q ≤ 2147483647 ∧ redQ p q ≤ 2147483647) : redP p q = rP p q ∧ redQ p q = rQ p q ∧ 0 = rE p q := by
  obtain ⟨a, b, c⟩ := r_ok (redOk_of h.1 h.2.1 h.2.2); exact ⟨a.symm, b.symm, c.symm⟩
theorem r_neg (p q : Int) : rP (-p) (-q) = rP p q ∧ rQ (-p) (-q) = rQ p q ∧ rE (-p) (-q) = rE p q := by
  unfold rP rQ rE; rw [redOk_neg, (red_neg p q).1, (red_neg p q).2]; exact ⟨rfl, rfl, rfl⟩

theorem gcd_max (p q : Int) : Int.gcd (if p < -p then -p else p) q = Int.gcd p q := by
  split
  · rw [Int.neg_gcd]
  · rfl

/-- The order of two integers: -1, 0 or 1. -/
def cmpI (x y : Int) : Int := if x < y then -1 else if y < x then 1 else 0

/-- Whether x to the power of n is in range. -/
def powOk (x : Int) (n : Nat) : Bool := decide (-2147483647 ≤ x ^ n) && decide (x ^ n ≤ 2147483647)

theorem powOk_iff {x : Int} {n : Nat} : powOk x n = true ↔ -2147483647 ≤ x ^ n ∧ x ^ n ≤ 2147483647 := by
  unfold powOk; simp

/-- What is out of range stays out of range. -/
theorem pow_out (x : Int) (k : Nat) (h : ¬ (-2147483647 ≤ x ^ k ∧ x ^ k ≤ 2147483647)) (n : Nat) (hn : k ≤ n) : ¬ (-2147483647 ≤ x ^ n ∧ x ^ n ≤ 2147483647) := by
  induction n with
  | zero => obtain rfl : k = 0 := by omega
            exact h
  | succ n ih =>
    by_cases e : k = n + 1
    · subst e; exact h
    · have hi := ih (by omega)
      rw [Int.pow_succ]
      generalize x ^ n = y at *
      by_cases hx : x = 0
      · exfalso
        subst hx
        cases k with
        | zero => simp at h
        | succ k => rw [Int.zero_pow (by omega)] at h; omega
      · intro hh
        apply hi
        have h1 : y.natAbs ≤ (y * x).natAbs := by
          rw [Int.natAbs_mul]; exact Nat.le_mul_of_pos_right _ (by omega)
        omega

theorem tmod_abs (x y : Int) (hy : y ≠ 0) : (x.tmod y).natAbs < y.natAbs := by
  rw [Int.natAbs_tmod]; exact Nat.mod_lt _ (by omega)

theorem tdiv_bd (x y : Int) : -(x.natAbs : Int) ≤ x.tdiv y ∧ x.tdiv y ≤ x.natAbs := by
  have := Int.natAbs_tdiv_le_natAbs x y; omega

theorem floor_same (x y : Int) (hy : y ≠ 0) (h : x.tmod y = 0 ∨ (x.tmod y < 0 ↔ y < 0)) : x.tdiv y = x.fdiv y ∧ x.tmod y = x.fmod y := by
  have h1 := tmod_abs x y hy
  have h2 : x.tmod y + y * x.tdiv y = x := Int.tmod_add_mul_tdiv x y
  rcases Int.lt_or_gt_of_ne hy with hn | hn
  · have := (Int.fdiv_fmod_unique' (a := x) (q := x.tdiv y) (r := x.tmod y) hn).2 ⟨h2, by omega, by omega⟩
    exact ⟨this.1.symm, this.2.symm⟩
  · have := (Int.fdiv_fmod_unique (a := x) (q := x.tdiv y) (r := x.tmod y) hn).2 ⟨h2, by omega, by omega⟩
    exact ⟨this.1.symm, this.2.symm⟩

theorem floor_less (x y : Int) (hy : y ≠ 0) (h0 : x.tmod y ≠ 0) (h : ¬ (x.tmod y < 0 ↔ y < 0)) : x.tdiv y - 1 = x.fdiv y ∧ x.tmod y + y = x.fmod y := by
  have h1 := tmod_abs x y hy
  have h2 : x.tmod y + y * x.tdiv y = x := Int.tmod_add_mul_tdiv x y
  have h3 : x.tmod y + y + y * (x.tdiv y - 1) = x := by rw [Int.mul_sub]; omega
  rcases Int.lt_or_gt_of_ne hy with hn | hn
  · have := (Int.fdiv_fmod_unique' (a := x) (q := x.tdiv y - 1) (r := x.tmod y + y) hn).2 ⟨h3, by omega, by omega⟩
    exact ⟨this.1.symm, this.2.symm⟩
  · have := (Int.fdiv_fmod_unique (a := x) (q := x.tdiv y - 1) (r := x.tmod y + y) hn).2 ⟨h3, by omega, by omega⟩
    exact ⟨this.1.symm, this.2.symm⟩
theorem fl0 (x y : Int) (hy : y ≠ 0) (h : x.tmod y = 0) : x.tdiv y = x.fdiv y ∧ 0 = x.fmod y := by
  have := floor_same x y hy (.inl h); exact ⟨this.1, by rw [← this.2, h]⟩
theorem fl1 (x y : Int) (hy : y ≠ 0) (h : ¬ x.tmod y = 0) (h2 : (x.tmod y != 0) = true ∧ (!decide (x.tmod y < 0) == decide (y < 0)) = true) : x.tdiv y - 1 = x.fdiv y ∧ x.tmod y + y = x.fmod y :=
  floor_less x y hy h (by have := h2.2; by_cases a : x.tmod y < 0 <;> by_cases b : y < 0 <;> simp [a, b] at this ⊢)
theorem fl2 (x y : Int) (hy : y ≠ 0) (h : ¬ x.tmod y = 0) (h2 : (x.tmod y != 0) = false ∨ (!decide (x.tmod y < 0) == decide (y < 0)) = false) : x.tdiv y = x.fdiv y ∧ x.tmod y = x.fmod y :=
  floor_same x y hy (.inr (by
    rcases h2 with h2 | h2
    · simp [h] at h2
    · by_cases a : x.tmod y < 0 <;> by_cases b : y < 0 <;> simp [a, b] at h2 ⊢))
/-- The power, or 0 out of range. -/
def powV (x : Int) (n : Nat) : Int := if powOk x n then x ^ n else 0
theorem powV_ok {x : Int} {n : Nat} (h : -2147483647 ≤ x ^ n) (h2 : x ^ n ≤ 2147483647) : x ^ n = powV x n ∧ true = powOk x n := by
  have := powOk_iff.2 ⟨h, h2⟩; simp [powV, this]
theorem powV_no {x : Int} {k n : Nat} (h : ¬ (-2147483647 ≤ x ^ k ∧ x ^ k ≤ 2147483647)) (hn : k ≤ n) : 0 = powV x n ∧ false = powOk x n := by
  have h1 := pow_out x k h n hn
  have : powOk x n = false := by
    cases hk : powOk x n
    · rfl
    · exact absurd (powOk_iff.1 hk) h1
  simp [powV, this]

theorem abs_gcd (p q g : Int) (h : g = (Int.gcd (p.natAbs : Int) (q.natAbs : Int) : Int)) : g = (Int.gcd p q : Int) := by
  rw [h]; simp [Int.gcd]
theorem abs_gcdn (p q g : Int) (h : g = (Int.gcd (p.natAbs : Int) ((-q).natAbs : Int) : Int)) : g = (Int.gcd p q : Int) := by
  rw [h]; simp [Int.gcd]
theorem tdivq_red (p q g : Int) (hq : 0 < q) (h : g = (Int.gcd p q : Int)) : q.tdiv g = redQ p q := by
  rw [redQ_eq p q hq, h, Int.tdiv_eq_ediv_of_nonneg (by omega)]
theorem redP_bd (p q : Int) (hq : 0 < q) : -(p.natAbs : Int) ≤ redP p q ∧ redP p q ≤ p.natAbs := by
  rw [← tdiv_red p q _ hq rfl]; exact tdiv_bd p _
theorem redQ_bd (p q : Int) (hq : 0 < q) : 0 < redQ p q ∧ redQ p q ≤ q := by
  refine ⟨redQ_pos p q, ?_⟩
  rw [redQ_eq p q hq]; exact Int.ediv_le_self _ (by omega)

/-! The functions of the layer: numerator, denominator, error. -/
def redT (p q : Int) : Int × Int × Int := (rP p q, rQ p q, rE p q)
def intT (n : Int) : Int × Int × Int := if -2147483647 ≤ n ∧ n ≤ 2147483647 then (n, 1, 0) else (0, 0, 6)
def makeT (p q : Int) : Int × Int × Int := if q = 0 then (0, 0, 7) else if -4611686018427387904 ≤ p ∧ p ≤ 4611686018427387904 ∧ -4611686018427387904 ≤ q ∧ q ≤ 4611686018427387904 then redT p q else (0, 0, 6)
def negT (p q : Int) : Int × Int × Int := if vldB p q then (-p, q, 0) else (0, 0, 2)
def bothB (a b c d : Int) : Bool := vldB a b && vldB c d
def addT (a b c d : Int) : Int × Int × Int := if bothB a b c d then redT (a * d + c * b) (b * d) else (0, 0, 2)
def subT (a b c d : Int) : Int × Int × Int := if bothB a b c d then redT (a * d - c * b) (b * d) else (0, 0, 2)
def mulT (a b c d : Int) : Int × Int × Int := if bothB a b c d then redT (a * c) (b * d) else (0, 0, 2)
def divT (a b c d : Int) : Int × Int × Int := if bothB a b c d then (if c = 0 then (0, 0, 7) else redT (a * d) (c * b)) else (0, 0, 2)
def quotT (a b c d : Int) : Int × Int × Int := if bothB a b c d then (if c = 0 then (0, 0, 7) else intT ((a * d).fdiv (c * b))) else (0, 0, 2)
def modT (a b c d : Int) : Int × Int × Int := if bothB a b c d then (if c = 0 then (0, 0, 7) else redT ((a * d).fmod (c * b)) (b * d)) else (0, 0, 2)
def floorT (a b : Int) : Int × Int × Int := if vldB a b then intT (a.fdiv b) else (0, 0, 2)
def ceilT (a b : Int) : Int × Int × Int := if vldB a b then intT (-((-a).fdiv b)) else (0, 0, 2)
def wholeB (a b : Int) : Bool := vldB a b && (b == 1)
def wholeV (a b : Int) : Int := if wholeB a b then a else 0
def cmpT (a b c d : Int) : Int := if bothB a b c d then cmpI (a * d) (c * b) else if a = c then cmpI b d else cmpI a c

theorem vld_bd {p q : Int} (h : vldB p q = true) : 1 ≤ q ∧ q ≤ 2147483647 ∧ -2147483647 ≤ p ∧ p ≤ 2147483647 := by
  unfold vldB at h; simp at h; omega
theorem vld_gcd {p q : Int} (h : vldB p q = true) : Int.gcd p q = 1 := by
  unfold vldB at h; simp at h; have := h.2.2.2.2; omega

theorem mul_bd {x y : Int} (h1 : -2147483647 ≤ x) (h2 : x ≤ 2147483647) (h3 : -2147483647 ≤ y) (h4 : y ≤ 2147483647) : -4611686014132420609 ≤ x * y ∧ x * y ≤ 4611686014132420609 := by
  have h : (x * y).natAbs ≤ 2147483647 * 2147483647 := by rw [Int.natAbs_mul]; exact Nat.mul_le_mul (by omega) (by omega)
  omega
theorem mul_pos1 {x y : Int} (h1 : 1 ≤ x) (h2 : 1 ≤ y) : 1 ≤ x * y := by
  have := Int.mul_le_mul h1 h2 (by omega) (by omega); omega
theorem fmod_bd (x y : Int) (hy : y ≠ 0) : -(y.natAbs : Int) ≤ x.fmod y ∧ x.fmod y ≤ y.natAbs := by
  rcases Int.lt_or_gt_of_ne hy with hn | hn
  · have := ((Int.fdiv_fmod_unique' (a := x) (q := x.fdiv y) (r := x.fmod y) hn).1 ⟨rfl, rfl⟩).2; omega
  · have := ((Int.fdiv_fmod_unique (a := x) (q := x.fdiv y) (r := x.fmod y) hn).1 ⟨rfl, rfl⟩).2; omega

/-! How each function's ways end. -/
theorem mk_zero {p q : Int} (h : q = 0) : 0 = (makeT p q).1 ∧ 0 = (makeT p q).2.1 ∧ 7 = (makeT p q).2.2 := by simp [makeT, h]
theorem mk_out {p q : Int} (h : ¬ q = 0) (h2 : ¬ (-4611686018427387904 ≤ p ∧ p ≤ 4611686018427387904 ∧ -4611686018427387904 ≤ q ∧ q ≤ 4611686018427387904)) : 0 = (makeT p q).1 ∧ 0 = (makeT p q).2.1 ∧ 6 = (makeT p q).2.2 := by
  unfold makeT; rw [if_neg h, if_neg h2]; exact ⟨rfl, rfl, rfl⟩
theorem mk_in {p q : Int} (h : ¬ q = 0) (h2 : -4611686018427387904 ≤ p ∧ p ≤ 4611686018427387904 ∧ -4611686018427387904 ≤ q ∧ q ≤ 4611686018427387904) : rP p q = (makeT p q).1 ∧ rQ p q = (makeT p q).2.1 ∧ rE p q = (makeT p q).2.2 := by
  unfold makeT; rw [if_neg h, if_pos h2]; exact ⟨rfl, rfl, rfl⟩
theorem fdiv_bd {p q : Int} (h : 1 ≤ q) (h1 : -2147483647 ≤ p) (h2 : p ≤ 2147483647) : -2147483647 ≤ p.fdiv q ∧ p.fdiv q ≤ 2147483647 := by
  rw [Int.fdiv_eq_ediv_of_nonneg p (by omega)]
  constructor
  · exact Int.le_ediv_of_mul_le (by omega) (by omega)
  · have : p / q < 2147483648 := Int.ediv_lt_of_lt_mul (by omega) (by omega)
    omega
theorem ceil_eq (a b : Int) (h : 1 ≤ b) : (if 0 < a.fmod b then a.fdiv b + 1 else a.fdiv b) = -((-a).fdiv b) := by
  rw [Int.fdiv_eq_ediv_of_nonneg a (by omega), Int.fmod_eq_emod_of_nonneg a (by omega), Int.fdiv_eq_ediv_of_nonneg (-a) (by omega)]
  have h1 := Int.emod_add_mul_ediv a b
  have h2 := Int.emod_nonneg a (show b ≠ 0 by omega)
  have h3 := Int.emod_lt_of_pos a (show 0 < b by omega)
  split
  · rw [Int.neg_ediv]
    have : ¬ b ∣ a := by rw [Int.dvd_iff_emod_eq_zero]; omega
    rw [if_neg this, Int.sign_eq_one_of_pos (by omega)]; omega
  · have : b ∣ a := by rw [Int.dvd_iff_emod_eq_zero]; omega
    rw [Int.neg_ediv_of_dvd this]; omega
theorem cmp_yes {a b c d : Int} (h : vldB a b = true) (h2 : vldB c d = true) : cmpI (a * d) (c * b) = cmpT a b c d := by simp [cmpT, bothB, h, h2]
theorem cmpI_zero {x y : Int} : cmpI x y = 0 ↔ x = y := by unfold cmpI; split <;> (try split) <;> constructor <;> intro h <;> omega
theorem cmp_no {a b c d : Int} (h : bothB a b c d = false) : (if cmpI a c != 0 then cmpI a c else cmpI b d) = cmpT a b c d := by
  unfold cmpT; rw [h]
  by_cases e : a = c
  · subst e
    have : cmpI a a = 0 := cmpI_zero.2 rfl
    simp [this]
  · have : cmpI a c ≠ 0 := fun h => e (cmpI_zero.1 h)
    simp [this, e]
#print axioms cmp_no
end Go.Proofs.YtpahemohpaaeoaaDoor
