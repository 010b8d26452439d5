/- The plain laws of exact fractions, over Lean's own rationals: no program in sight. -/
import Derived.Test.YtpahemohpaaeoaaDoorRatPlain2
namespace Go.Proofs.YtpahemohpaaeoaaDoor
set_option linter.unusedVariables false

/-- The result for a rational number: itself in range, or the error. -/
def outR (r : Rat) : Int × Int × Int := if -2147483647 ≤ r.num ∧ r.num ≤ 2147483647 ∧ (r.den : Int) ≤ 2147483647 then (r.num, (r.den : Int), 0) else (0, 0, 6)

theorem redT_out (p q : Int) : redT p q = outR (Rat.divInt p q) := by
  unfold redT outR rP rQ rE
  by_cases h : -2147483647 ≤ redP p q ∧ redP p q ≤ 2147483647 ∧ redQ p q ≤ 2147483647
  · have h2 := redOk_of h.1 h.2.1 h.2.2
    rw [if_pos h2, if_pos h2, if_pos h2]
    unfold redP redQ at h ⊢
    rw [if_pos h]
  · have h2 : ¬ redOk p q = true := fun h3 => h (redOk_true h3)
    rw [if_neg h2, if_neg h2, if_neg h2]
    unfold redP redQ at h
    rw [if_neg h]

theorem val_num {p q : Int} (h : vldB p q = true) : (Rat.divInt p q).num = p ∧ ((Rat.divInt p q).den : Int) = q := by
  have hb := vld_bd h
  have hg := vld_gcd h
  have e1 := redP_eq p q (by omega)
  have e2 := redQ_eq p q (by omega)
  unfold redP at e1
  unfold redQ at e2
  rw [e1, e2, hg]
  simp

theorem out_val {p q : Int} (h : vldB p q = true) : outR (Rat.divInt p q) = (p, q, 0) := by
  have hb := vld_bd h
  obtain ⟨e1, e2⟩ := val_num h
  unfold outR
  rw [e1, e2, if_pos ⟨hb.2.2.1, hb.2.2.2, hb.2.1⟩]

theorem out_ok {r : Rat} (h : (outR r).2.2 = 0) : vldB (outR r).1 (outR r).2.1 = true ∧ Rat.divInt (outR r).1 (outR r).2.1 = r := by
  unfold outR at *
  by_cases hc : -2147483647 ≤ r.num ∧ r.num ≤ 2147483647 ∧ (r.den : Int) ≤ 2147483647
  · rw [if_pos hc]
    refine ⟨?_, Rat.num_divInt_den r⟩
    have hd := r.den_pos
    have hr : Int.gcd r.num (r.den : Int) = 1 := by
      have := r.reduced
      unfold Int.gcd
      simpa using this
    unfold vldB
    simp only [hr]
    simp
    omega
  · rw [if_neg hc] at h
    cases h

theorem out_E (r : Rat) : (outR r).2.2 = 0 ∨ (outR r).2.2 = 6 := by
  unfold outR; split
  · left; rfl
  · right; rfl

theorem divInt_add' {a b c d : Int} (hb : 1 ≤ b) (hd : 1 ≤ d) : Rat.divInt (a * d + c * b) (b * d) = Rat.divInt a b + Rat.divInt c d := by
  rw [Rat.divInt_add_divInt _ _ (by omega) (by omega)]
theorem divInt_sub' {a b c d : Int} (hb : 1 ≤ b) (hd : 1 ≤ d) : Rat.divInt (a * d - c * b) (b * d) = Rat.divInt a b - Rat.divInt c d := by
  rw [Rat.divInt_sub_divInt _ _ (by omega) (by omega)]

theorem addT_out {a b c d : Int} (h : vldB a b = true) (h2 : vldB c d = true) : addT a b c d = outR (Rat.divInt a b + Rat.divInt c d) := by
  unfold addT bothB
  rw [h, h2, Bool.true_and, if_pos rfl, redT_out, divInt_add' (vld_bd h).1 (vld_bd h2).1]
theorem subT_out {a b c d : Int} (h : vldB a b = true) (h2 : vldB c d = true) : subT a b c d = outR (Rat.divInt a b - Rat.divInt c d) := by
  unfold subT bothB
  rw [h, h2, Bool.true_and, if_pos rfl, redT_out, divInt_sub' (vld_bd h).1 (vld_bd h2).1]
theorem mulT_out {a b c d : Int} (h : vldB a b = true) (h2 : vldB c d = true) : mulT a b c d = outR (Rat.divInt a b * Rat.divInt c d) := by
  unfold mulT bothB
  rw [h, h2, Bool.true_and, if_pos rfl, redT_out, Rat.divInt_mul_divInt]
theorem val_zero {c d : Int} (hd : 1 ≤ d) : Rat.divInt c d = 0 ↔ c = 0 := by
  constructor
  · intro h
    have := (Rat.divInt_eq_divInt_iff (n₁ := c) (d₁ := d) (n₂ := 0) (d₂ := 1) (by omega) (by omega)).1 (by rw [h]; rfl)
    omega
  · rintro rfl
    rw [Rat.zero_divInt]
theorem divT_out {a b c d : Int} (h : vldB a b = true) (h2 : vldB c d = true) (hc : c ≠ 0) : divT a b c d = outR (Rat.divInt a b / Rat.divInt c d) := by
  have hb := (vld_bd h).1
  have hd := (vld_bd h2).1
  unfold divT bothB
  rw [h, h2, Bool.true_and, if_pos rfl, if_neg hc, redT_out]
  congr 1
  have hy : Rat.divInt c d ≠ 0 := fun e => hc ((val_zero hd).1 e)
  have key : Rat.divInt (a * d) (c * b) * Rat.divInt c d = Rat.divInt a b := by
    rw [Rat.divInt_mul_divInt, Rat.divInt_eq_divInt_iff (Int.mul_ne_zero (Int.mul_ne_zero hc (by omega)) (by omega)) (by omega)]
    rw [Int.mul_assoc, Int.mul_assoc, Int.mul_comm (c * b) d]
  rw [← key, Rat.mul_div_cancel hy]

/-! ### RationalFields -/
theorem add_comm_T {a b c d : Int} (h : vldB a b = true) (h2 : vldB c d = true) : addT a b c d = addT c d a b := by
  rw [addT_out h h2, addT_out h2 h, Rat.add_comm]
theorem mul_comm_T {a b c d : Int} (h : vldB a b = true) (h2 : vldB c d = true) : mulT a b c d = mulT c d a b := by
  rw [mulT_out h h2, mulT_out h2 h, Rat.mul_comm]
theorem add_vld {a b c d : Int} (h : vldB a b = true) (h2 : vldB c d = true) (he : (addT a b c d).2.2 = 0) : vldB (addT a b c d).1 (addT a b c d).2.1 = true ∧ Rat.divInt (addT a b c d).1 (addT a b c d).2.1 = Rat.divInt a b + Rat.divInt c d := by
  rw [addT_out h h2] at *; exact out_ok he
theorem mul_vld {a b c d : Int} (h : vldB a b = true) (h2 : vldB c d = true) (he : (mulT a b c d).2.2 = 0) : vldB (mulT a b c d).1 (mulT a b c d).2.1 = true ∧ Rat.divInt (mulT a b c d).1 (mulT a b c d).2.1 = Rat.divInt a b * Rat.divInt c d := by
  rw [mulT_out h h2] at *; exact out_ok he
theorem add_assoc_T {a b c d e f : Int} (h1 : vldB a b = true) (h2 : vldB c d = true) (h3 : vldB e f = true) (k1 : (addT a b c d).2.2 = 0) (k2 : (addT c d e f).2.2 = 0) :
    addT (addT a b c d).1 (addT a b c d).2.1 e f = addT a b (addT c d e f).1 (addT c d e f).2.1 := by
  obtain ⟨v1, w1⟩ := add_vld h1 h2 k1
  obtain ⟨v2, w2⟩ := add_vld h2 h3 k2
  rw [addT_out v1 h3, addT_out h1 v2, w1, w2, Rat.add_assoc]
theorem distrib_T {a b c d e f : Int} (h1 : vldB a b = true) (h2 : vldB c d = true) (h3 : vldB e f = true) (k1 : (addT c d e f).2.2 = 0) (k2 : (mulT a b c d).2.2 = 0) (k3 : (mulT a b e f).2.2 = 0) :
    mulT a b (addT c d e f).1 (addT c d e f).2.1 = addT (mulT a b c d).1 (mulT a b c d).2.1 (mulT a b e f).1 (mulT a b e f).2.1 := by
  obtain ⟨v1, w1⟩ := add_vld h2 h3 k1
  obtain ⟨v2, w2⟩ := mul_vld h1 h2 k2
  obtain ⟨v3, w3⟩ := mul_vld h1 h3 k3
  rw [mulT_out h1 v1, addT_out v2 v3, w1, w2, w3, Rat.mul_add]
theorem div_back_T {a b c d : Int} (h1 : vldB a b = true) (h2 : vldB c d = true) (k : (mulT a b c d).2.2 = 0) (hc : c ≠ 0) : divT (mulT a b c d).1 (mulT a b c d).2.1 c d = (a, b, 0) := by
  obtain ⟨v2, w2⟩ := mul_vld h1 h2 k
  have hy : Rat.divInt c d ≠ 0 := fun e => hc ((val_zero (vld_bd h2).1).1 e)
  rw [divT_out v2 h2 hc, w2, Rat.mul_div_cancel hy, out_val h1]
theorem neg_vld {c d : Int} (h : vldB c d = true) : vldB (-c) d = true := by
  have hb := vld_bd h
  have hg := vld_gcd h
  unfold vldB
  rw [Int.neg_gcd, hg]
  simp; omega
theorem negT_yes {c d : Int} (h : vldB c d = true) : negT c d = (-c, d, 0) := by unfold negT; rw [if_pos h]
theorem sub_neg_T {a b c d : Int} (h1 : vldB a b = true) (h2 : vldB c d = true) : subT a b c d = addT a b (-c) d := by
  rw [subT_out h1 h2, addT_out h1 (neg_vld h2), Rat.sub_eq_add_neg, Rat.neg_divInt]
theorem make_back_T {a b : Int} (h : vldB a b = true) : makeT a b = (a, b, 0) := by
  have hb := vld_bd h
  unfold makeT
  rw [if_neg (by omega), if_pos (by omega), redT_out, out_val h]

/-! ### RationalDivides, RationalOrders -/
def cmpR (x y : Rat) : Int := if x < y then -1 else if y < x then 1 else 0
theorem lt_val {a b c d : Int} (h : vldB a b = true) (h2 : vldB c d = true) : Rat.divInt a b < Rat.divInt c d ↔ a * d < c * b := by
  obtain ⟨e1, e2⟩ := val_num h
  obtain ⟨e3, e4⟩ := val_num h2
  rw [Rat.lt_iff, e1, e2, e3, e4]
theorem cmpT_R {a b c d : Int} (h : vldB a b = true) (h2 : vldB c d = true) : cmpT a b c d = cmpR (Rat.divInt a b) (Rat.divInt c d) := by
  rw [← cmp_yes h h2]
  unfold cmpI cmpR
  simp only [lt_val h h2, lt_val h2 h]
theorem eq_val {a b c d : Int} (h : vldB a b = true) (h2 : vldB c d = true) : Rat.divInt a b = Rat.divInt c d ↔ a = c ∧ b = d := by
  obtain ⟨e1, e2⟩ := val_num h
  obtain ⟨e3, e4⟩ := val_num h2
  constructor
  · intro e
    rw [e] at e1 e2
    exact ⟨e1.symm.trans e3, e2.symm.trans e4⟩
  · rintro ⟨rfl, rfl⟩; rfl
theorem cmpR_cases (x y : Rat) : (cmpR x y = -1 ∧ x < y) ∨ (cmpR x y = 0 ∧ x = y) ∨ (cmpR x y = 1 ∧ y < x) := by
  unfold cmpR
  by_cases h : x < y
  · exact .inl ⟨if_pos h, h⟩
  · rw [if_neg h]
    by_cases h2 : y < x
    · exact .inr (.inr ⟨if_pos h2, h2⟩)
    · exact .inr (.inl ⟨if_neg h2, Rat.le_antisymm (Rat.not_lt.1 h2) (Rat.not_lt.1 h)⟩)
theorem cmpR_of_lt {x y : Rat} (h : x < y) : cmpR x y = -1 := if_pos h
theorem cmpR_of_gt {x y : Rat} (h : y < x) : cmpR x y = 1 := by
  rcases cmpR_cases x y with ⟨_, h2⟩ | ⟨_, h2⟩ | ⟨h1, _⟩
  · exact absurd (Rat.le_trans (Rat.le_of_lt h) (Rat.le_of_lt h2)) (by intro _; exact Rat.not_le.2 h2 (Rat.le_of_lt h))
  · subst h2; exact absurd h Rat.lt_irrefl
  · exact h1
theorem cmpR_le {x y : Rat} : cmpR x y ≤ 0 ↔ x ≤ y := by
  rcases cmpR_cases x y with ⟨h1, h2⟩ | ⟨h1, h2⟩ | ⟨h1, h2⟩
  · exact ⟨fun _ => Rat.le_of_lt h2, fun _ => by omega⟩
  · exact ⟨fun _ => by rw [h2]; exact Rat.le_refl, fun _ => by omega⟩
  · exact ⟨fun _ => by omega, fun h => absurd h (Rat.not_le.2 h2)⟩
theorem cmpR_add (x y z : Rat) : cmpR (x + z) (y + z) = cmpR x y := by
  unfold cmpR
  simp only [Rat.add_lt_add_right]

theorem ord_eq_T {a b c d : Int} (h : vldB a b = true) (h2 : vldB c d = true) : (cmpT a b c d = 0 ↔ a = c ∧ b = d) ∧ -1 ≤ cmpT a b c d ∧ cmpT a b c d ≤ 1 := by
  rw [cmpT_R h h2, ← eq_val h h2]
  rcases cmpR_cases (Rat.divInt a b) (Rat.divInt c d) with ⟨h1, h2⟩ | ⟨h1, h2⟩ | ⟨h1, h2⟩
  · refine ⟨⟨fun e => by omega, fun e => absurd h2 (by rw [e]; exact Rat.lt_irrefl)⟩, by omega, by omega⟩
  · exact ⟨⟨fun _ => h2, fun _ => h1⟩, by omega, by omega⟩
  · refine ⟨⟨fun e => by omega, fun e => absurd h2 (by rw [e]; exact Rat.lt_irrefl)⟩, by omega, by omega⟩
theorem ord_trans_T {a b c d e f : Int} (h1 : vldB a b = true) (h2 : vldB c d = true) (h3 : vldB e f = true) (k1 : cmpT a b c d ≤ 0) (k2 : cmpT c d e f ≤ 0) : cmpT a b e f ≤ 0 := by
  rw [cmpT_R h1 h2, cmpR_le] at k1
  rw [cmpT_R h2 h3, cmpR_le] at k2
  rw [cmpT_R h1 h3, cmpR_le]
  exact Rat.le_trans k1 k2
theorem ord_add_T {a b c d e f : Int} (h1 : vldB a b = true) (h2 : vldB c d = true) (h3 : vldB e f = true) (k1 : (addT a b e f).2.2 = 0) (k2 : (addT c d e f).2.2 = 0) :
    cmpT (addT a b e f).1 (addT a b e f).2.1 (addT c d e f).1 (addT c d e f).2.1 = cmpT a b c d := by
  obtain ⟨v1, w1⟩ := add_vld h1 h3 k1
  obtain ⟨v2, w2⟩ := add_vld h2 h3 k2
  rw [cmpT_R v1 v2, w1, w2, cmpR_add, cmpT_R h1 h2]

theorem vld_one {n : Int} (h : -2147483647 ≤ n) (h2 : n ≤ 2147483647) : vldB n 1 = true := by
  unfold vldB; simp; omega
theorem intT_in {n : Int} (h : -2147483647 ≤ n) (h2 : n ≤ 2147483647) : intT n = (n, 1, 0) := by unfold intT; rw [if_pos ⟨h, h2⟩]
theorem floor_T {a b : Int} (h : vldB a b = true) : floorT a b = (a.fdiv b, 1, 0) ∧ vldB (a.fdiv b) 1 = true ∧ cmpT (a.fdiv b) 1 a b ≤ 0 := by
  have hb := vld_bd h
  obtain ⟨f1, f2⟩ := fdiv_bd (p := a) hb.1 hb.2.2.1 hb.2.2.2
  have hv := vld_one f1 f2
  refine ⟨by unfold floorT; rw [if_pos h, intT_in f1 f2], hv, ?_⟩
  rw [cmpT_R hv h, cmpR_le, Rat.le_iff, (val_num hv).1, (val_num hv).2, (val_num h).1, (val_num h).2]
  have h1 := ((Int.fdiv_fmod_unique (a := a) (q := a.fdiv b) (r := a.fmod b) (by omega)).1 ⟨rfl, rfl⟩)
  have : a.fdiv b * b = b * a.fdiv b := Int.mul_comm _ _
  omega
theorem ceil_T {a b : Int} (h : vldB a b = true) : ceilT a b = (-((-a).fdiv b), 1, 0) ∧ vldB (-((-a).fdiv b)) 1 = true ∧ 0 ≤ cmpT (-((-a).fdiv b)) 1 a b ∧ -((-a).fdiv b) - a.fdiv b ≤ 1 ∧ (-((-a).fdiv b) = a.fdiv b ↔ b = 1) := by
  have hb := vld_bd h
  obtain ⟨f1, f2⟩ := fdiv_bd (p := -a) hb.1 (by omega) (by omega)
  have hv := vld_one (n := -((-a).fdiv b)) (by omega) (by omega)
  have h1 := ((Int.fdiv_fmod_unique (a := -a) (q := (-a).fdiv b) (r := (-a).fmod b) (by omega)).1 ⟨rfl, rfl⟩)
  have h2 := ((Int.fdiv_fmod_unique (a := a) (q := a.fdiv b) (r := a.fmod b) (by omega)).1 ⟨rfl, rfl⟩)
  refine ⟨by unfold ceilT; rw [if_pos h, intT_in (by omega) (by omega)], hv, ?_, ?_, ?_⟩
  · have hle : Rat.divInt a b ≤ Rat.divInt (-((-a).fdiv b)) 1 := by
      rw [Rat.le_iff, (val_num hv).1, (val_num hv).2, (val_num h).1, (val_num h).2]
      have : -((-a).fdiv b) * b = -(b * (-a).fdiv b) := by rw [Int.neg_mul, Int.mul_comm]
      omega
    rw [cmpT_R hv h]
    rcases cmpR_cases (Rat.divInt (-((-a).fdiv b)) 1) (Rat.divInt a b) with ⟨_, k2⟩ | ⟨k1, _⟩ | ⟨k1, _⟩
    · exact absurd hle (Rat.not_le.2 k2)
    · omega
    · omega
  · -- the two are at most 1 apart
    rw [← ceil_eq a b hb.1]; split <;> omega
  · rw [← ceil_eq a b hb.1]
    constructor
    · intro e
      have hz : a.fmod b = 0 := by
        by_cases h3 : 0 < a.fmod b
        · rw [if_pos h3] at e; omega
        · omega
      have hd : b ∣ a := ⟨a.fdiv b, by omega⟩
      have hg := vld_gcd h
      have : Int.gcd a b = b.natAbs := Int.gcd_eq_natAbs_right_iff_dvd.2 hd
      omega
    · rintro rfl
      rw [if_neg (by have := h2.2; omega)]

theorem lt_divInt {a b c d : Int} (hb : 0 < b) (hd : 0 < d) : Rat.divInt a b < Rat.divInt c d ↔ a * d < c * b := by
  rw [Rat.lt_iff_sub_pos, Rat.divInt_sub_divInt _ _ (by omega) (by omega), Rat.lt_iff]
  have e : redP (c * b - a * d) (d * b) * 1 = redP (c * b - a * d) (d * b) := Int.mul_one _
  have hdb : 0 < d * b := Int.mul_pos hd hb
  have hp := redP_eq (c * b - a * d) (d * b) hdb
  have hg := gcd_pos (c * b - a * d) (d * b) hdb
  have hm : (c * b - a * d) / (Int.gcd (c * b - a * d) (d * b) : Int) * (Int.gcd (c * b - a * d) (d * b) : Int) = c * b - a * d := Int.ediv_mul_cancel (Int.gcd_dvd_left _ _)
  unfold redP at hp e
  simp only [Rat.num_ofNat, Rat.den_ofNat, Int.zero_mul]
  rw [hp]
  generalize (Int.gcd (c * b - a * d) (d * b) : Int) = g at *
  generalize (c * b - a * d) / g = k at *
  constructor
  · intro h
    have h1 : 0 < k := by simpa using h
    have := Int.mul_pos h1 hg
    omega
  · intro h
    have h1 : 0 < k := by
      by_cases h2 : 0 < k
      · exact h2
      · have := Int.mul_nonpos_of_nonpos_of_nonneg (a := k) (b := g) (by omega) (by omega)
        omega
    simpa using h1

theorem modT_yes {a b c d : Int} (h : vldB a b = true) (h2 : vldB c d = true) (hc : c ≠ 0) : modT a b c d = outR (Rat.divInt ((a * d).fmod (c * b)) (b * d)) := by
  unfold modT bothB
  rw [h, h2, Bool.true_and, if_pos rfl, if_neg hc, redT_out]
theorem quotT_yes {a b c d : Int} (h : vldB a b = true) (h2 : vldB c d = true) (hc : c ≠ 0) : quotT a b c d = intT ((a * d).fdiv (c * b)) := by
  unfold quotT bothB
  rw [h, h2, Bool.true_and, if_pos rfl, if_neg hc]
theorem mod_zero_T {a b d : Int} (h : vldB a b = true) (h2 : vldB 0 d = true) : quotT a b 0 d = (0, 0, 7) ∧ modT a b 0 d = (0, 0, 7) := by
  unfold quotT modT bothB
  rw [h, h2]; exact ⟨rfl, rfl⟩
theorem intT_E (n : Int) : (intT n).2.2 = 0 ∨ (intT n).2.2 = 6 := by unfold intT; split <;> simp
theorem div_E_T {a b c d : Int} (h : vldB a b = true) (h2 : vldB c d = true) (hc : c ≠ 0) : ((quotT a b c d).2.2 = 0 ∨ (quotT a b c d).2.2 = 6) ∧ ((modT a b c d).2.2 = 0 ∨ (modT a b c d).2.2 = 6) := by
  rw [quotT_yes h h2 hc, modT_yes h h2 hc]; exact ⟨intT_E _, out_E _⟩

theorem mod_ok_T {a b c d : Int} (h : vldB a b = true) (h2 : vldB c d = true) (hc : c ≠ 0) (k : (modT a b c d).2.2 = 0) :
    vldB (modT a b c d).1 (modT a b c d).2.1 = true ∧ Rat.divInt (modT a b c d).1 (modT a b c d).2.1 = Rat.divInt ((a * d).fmod (c * b)) (b * d) := by
  rw [modT_yes h h2 hc] at *; exact out_ok k
/-- The remainder is 0 or has the divisor's sign, and is closer to 0. -/
theorem mod_sign_T {a b c d : Int} (h : vldB a b = true) (h2 : vldB c d = true) (hc : c ≠ 0) (k : (modT a b c d).2.2 = 0) :
    ((modT a b c d).1 ≠ 0 → ((modT a b c d).1 < 0 ↔ c < 0)) ∧ (0 < c → cmpT (modT a b c d).1 (modT a b c d).2.1 c d = -1) ∧ (c < 0 → cmpT (modT a b c d).1 (modT a b c d).2.1 c d = 1) := by
  obtain ⟨v, w⟩ := mod_ok_T h h2 hc k
  have hb := (vld_bd h).1
  have hd := (vld_bd h2).1
  have hq := (vld_bd v).1
  generalize (modT a b c d).1 = mp at *
  generalize (modT a b c d).2.1 = mq at *
  have hbd := mul_pos1 hb hd
  have hcb : c * b ≠ 0 := Int.mul_ne_zero hc (by omega)
  -- the remainder of the integers
  have hz : Rat.divInt 0 1 = 0 := by rfl
  have s1 : mp < 0 ↔ (a * d).fmod (c * b) < 0 := by
    have e1 := lt_divInt (a := mp) (b := mq) (c := 0) (d := 1) (by omega) (by omega)
    have e2 := lt_divInt (a := (a * d).fmod (c * b)) (b := b * d) (c := 0) (d := 1) (by omega) (by omega)
    rw [w] at e1
    rw [e1] at e2
    simpa using e2
  have s2 : 0 < mp ↔ 0 < (a * d).fmod (c * b) := by
    have e1 := lt_divInt (c := mp) (d := mq) (a := 0) (b := 1) (by omega) (by omega)
    have e2 := lt_divInt (c := (a * d).fmod (c * b)) (d := b * d) (a := 0) (b := 1) (by omega) (by omega)
    rw [w] at e1
    rw [e1] at e2
    simpa using e2
  have hcd1 : c * (b * d) = c * b * d := by rw [Int.mul_assoc]
  rw [cmpT_R v h2, w]
  generalize hr : (a * d).fmod (c * b) = r at *
  by_cases hp : 0 < c
  · have hcp : 0 < c * b := Int.mul_pos hp (by omega)
    have h1 := ((Int.fdiv_fmod_unique (a := a * d) (q := (a * d).fdiv (c * b)) (r := r) hcp).1 ⟨rfl, hr⟩).2
    refine ⟨fun hn => by omega, fun _ => cmpR_of_lt ((lt_divInt (by omega) (by omega)).2 ?_), fun hn => by omega⟩
    rw [hcd1]
    exact Int.mul_lt_mul_of_pos_right h1.2 (by omega)
  · have hcn : c * b < 0 := Int.mul_neg_of_neg_of_pos (by omega) (by omega)
    have h1 := ((Int.fdiv_fmod_unique' (a := a * d) (q := (a * d).fdiv (c * b)) (r := r) hcn).1 ⟨rfl, hr⟩).2
    refine ⟨fun hn => by omega, fun hn => by omega, fun _ => cmpR_of_gt ((lt_divInt (by omega) (by omega)).2 ?_)⟩
    rw [hcd1]
    exact Int.mul_lt_mul_of_pos_right h1.1 (by omega)
/-- The divisor times the quotient plus the remainder is the dividend. -/
theorem mod_back_T {a b c d : Int} (h : vldB a b = true) (h2 : vldB c d = true) (hc : c ≠ 0) (k1 : (quotT a b c d).2.2 = 0) (k2 : (modT a b c d).2.2 = 0) (k3 : (mulT c d (quotT a b c d).1 (quotT a b c d).2.1).2.2 = 0) :
    addT (mulT c d (quotT a b c d).1 (quotT a b c d).2.1).1 (mulT c d (quotT a b c d).1 (quotT a b c d).2.1).2.1 (modT a b c d).1 (modT a b c d).2.1 = (a, b, 0) := by
  obtain ⟨v, w⟩ := mod_ok_T h h2 hc k2
  have hb := (vld_bd h).1
  have hd := (vld_bd h2).1
  rw [quotT_yes h h2 hc] at *
  have hin : -2147483647 ≤ (a * d).fdiv (c * b) ∧ (a * d).fdiv (c * b) ≤ 2147483647 := by
    unfold intT at k1
    by_cases hh : -2147483647 ≤ (a * d).fdiv (c * b) ∧ (a * d).fdiv (c * b) ≤ 2147483647
    · exact hh
    · rw [if_neg hh] at k1; cases k1
  rw [intT_in hin.1 hin.2] at *
  dsimp only at *
  have vq := vld_one hin.1 hin.2
  obtain ⟨v3, w3⟩ := mul_vld h2 vq k3
  rw [addT_out v3 v, w3, w, ← out_val h]
  congr 1
  have hcb : c * b ≠ 0 := Int.mul_ne_zero hc (by omega)
  have hbd := mul_pos1 hb hd
  rw [Rat.divInt_mul_divInt, Rat.divInt_add_divInt _ _ (by omega) (by omega), Rat.divInt_eq_divInt_iff (Int.mul_ne_zero (by omega) (by omega)) (by omega)]
  have e := Int.fmod_add_mul_fdiv (a * d) (c * b)
  generalize (a * d).fmod (c * b) = r at *
  generalize (a * d).fdiv (c * b) = q at *
  have e2 : r = a * d - c * b * q := by omega
  subst e2
  grind
/-! ### RationalCompares -/
theorem cmpI_anti (x y : Int) : cmpI y x = -cmpI x y := by unfold cmpI; split <;> (try split) <;> (try split) <;> omega
theorem cmpI_range (x y : Int) : -1 ≤ cmpI x y ∧ cmpI x y ≤ 1 := by unfold cmpI; split <;> (try split) <;> omega
theorem both_comm (a b c d : Int) : bothB c d a b = bothB a b c d := by unfold bothB; exact Bool.and_comm _ _
theorem cmp_self_T (a b : Int) : cmpT a b a b = 0 := by
  unfold cmpT; split
  · exact cmpI_zero.2 rfl
  · rw [if_pos rfl]; exact cmpI_zero.2 rfl
theorem cmp_anti_T (a b c d : Int) : cmpT c d a b = -cmpT a b c d := by
  unfold cmpT
  rw [both_comm]
  split
  · exact cmpI_anti _ _
  · by_cases e : a = c
    · subst e; rw [if_pos rfl, if_pos rfl]; exact cmpI_anti _ _
    · rw [if_neg e, if_neg (fun h => e h.symm)]; exact cmpI_anti _ _
theorem cmp_range_T (a b c d : Int) : -1 ≤ cmpT a b c d ∧ cmpT a b c d ≤ 1 := by
  unfold cmpT
  repeat' split
  all_goals exact cmpI_range _ _
#print axioms mod_back_T
end Go.Proofs.YtpahemohpaaeoaaDoor
