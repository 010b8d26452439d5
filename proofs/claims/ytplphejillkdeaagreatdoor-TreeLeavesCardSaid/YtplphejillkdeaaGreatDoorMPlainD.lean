/- A decimal differs from its number by at most half of its last place: plain facts, no program in sight. -/
import Derived.Test.YtplphejillkdeaaGreatDoorMPlainC
import Derived.Lib.ItoaLen
namespace Go.Proofs.YtplphejillkdeaaGreatDoor
set_option linter.unusedVariables false

/-- The number that decimal digits are. -/
def valD : List Nat → Nat
  | [] => 0
  | d :: ds => d * 10 ^ ds.length + valD ds
theorem valD_snoc (x : Nat) : ∀ l : List Nat, valD (l ++ [x]) = valD l * 10 + x
  | [] => by simp [valD]
  | d :: l => by
    simp only [List.cons_append, valD, valD_snoc x l, List.length_append, List.length_singleton, Nat.pow_succ, Nat.add_mul]
    rw [Nat.mul_assoc, Nat.add_assoc]

/-- The places and what is left make the number. -/
theorem left_val (P q k : Nat) : P * 10 ^ k = q * (P / q * 10 ^ k + valD (digsN q (P % q) k)) + leftN q (P % q) k := by
  induction k with
  | zero => simp [digsN, valD, leftN]; exact (Nat.div_add_mod P q).symm
  | succ k ih =>
    rw [digsN_succ, valD_snoc, Nat.pow_succ, ← Nat.mul_assoc, ih]
    show _ = _ + leftN q (P % q) k * 10 % q
    have h := Nat.div_add_mod (leftN q (P % q) k * 10) q
    generalize leftN q (P % q) k = l at *
    generalize valD (digsN q (P % q) k) = v at *
    generalize P / q = W at *
    generalize l * 10 / q = x at *
    generalize l * 10 % q = y at *
    have e1 : W * (10 ^ k * 10) + (v * 10 + x) = (W * 10 ^ k + v) * 10 + x := by
      rw [Nat.add_mul, Nat.mul_assoc, Nat.add_assoc]
    rw [e1, Nat.mul_add q _ x, Nat.add_assoc, h, Nat.add_mul, Nat.mul_assoc]

theorem valD_lt : ∀ l : List Nat, (∀ d ∈ l, d < 10) → valD l < 10 ^ l.length
  | [], _ => by simp [valD]
  | d :: l, h => by
    have h1 := h d (List.mem_cons_self)
    have h2 := valD_lt l (fun e he => h e (List.mem_cons_of_mem _ he))
    simp only [valD, List.length_cons, Nat.pow_succ]
    have : d * 10 ^ l.length ≤ 9 * 10 ^ l.length := Nat.mul_le_mul_right _ (by omega)
    omega

/-- One more at the last place. -/
theorem inc_val : ∀ l : List Nat, valD (incL l).1 + (if (incL l).2 then 10 ^ l.length else 0) = valD l + 1
  | [] => by simp [incL, valD]
  | d :: l => by
    have ih := inc_val l
    have hl := incL_len l
    by_cases hc : (incL l).2 = true
    case neg =>
      have e : incL (d :: l) = (d :: (incL l).1, false) := by simp only [incL]; rw [if_neg hc]
      rw [if_neg hc] at ih
      rw [e]
      simp only [Bool.false_eq_true, if_false, valD, hl] at ih ⊢
      omega
    case pos =>
      rw [if_pos hc] at ih
      by_cases h9 : d = 9
      · have e : incL (d :: l) = (0 :: (incL l).1, true) := by simp only [incL]; rw [if_pos hc, if_pos h9]
        rw [e]
        simp only [valD, hl, if_true, List.length_cons, Nat.pow_succ]
        subst h9
        omega
      · have e : incL (d :: l) = ((d + 1) :: (incL l).1, false) := by simp only [incL]; rw [if_pos hc, if_neg h9]
        rw [e]
        simp only [valD, hl, Bool.false_eq_true, if_false, Nat.add_mul]
        omega

/-- The number that a rounded decimal is, by its last place. -/
def decN (t : Nat × List Nat) (n : Nat) : Nat := t.1 * 10 ^ n + valD t.2
theorem round_near (P q n : Nat) (hq : 0 < q) : (fixT P q n).2.length = n ∧ (∀ d ∈ (fixT P q n).2, d < 10) ∧ 2 * (P * 10 ^ n) ≤ 2 * (q * decN (fixT P q n) n) + q ∧ 2 * (q * decN (fixT P q n) n) ≤ 2 * (P * 10 ^ n) + q := by
  have hv := left_val P q n
  have hl := leftN_lt q (P % q) hq (Nat.mod_lt _ hq) n
  have hlen := digsN_len q (P % q) n
  have hd := digsN_lt q (P % q) hq (Nat.mod_lt _ hq) n
  unfold fixT
  generalize digsN q (P % q) n = ds at *
  generalize leftN q (P % q) n = l at *
  generalize P / q = W at *
  rw [hv]
  by_cases hup : upB q W l ds = true
  · have h2 : q ≤ 2 * l := by
      unfold upB at hup
      simp only [Bool.or_eq_true, decide_eq_true_eq, Bool.and_eq_true, beq_iff_eq] at hup
      omega
    unfold roundT
    rw [if_pos hup]
    have hi := inc_val ds
    have e : decN (if (incL ds).2 = true then W + 1 else W, (incL ds).1) n = W * 10 ^ n + valD ds + 1 := by
      unfold decN
      rw [hlen] at hi
      cases hc : (incL ds).2
      · rw [hc] at hi
        simp only [Bool.false_eq_true, if_false] at hi ⊢
        omega
      · rw [hc] at hi
        simp only [if_true, Nat.add_mul, Nat.one_mul] at hi ⊢
        omega
    rw [e]
    rw [Nat.mul_add q (W * 10 ^ n + valD ds) 1]
    generalize q * (W * 10 ^ n + valD ds) = x at *
    exact ⟨by rw [incL_len]; exact hlen, incL_lt ds hd, by omega, by omega⟩
  · have h2 : 2 * l ≤ q := by
      unfold upB at hup
      simp only [Bool.or_eq_true, decide_eq_true_eq, Bool.and_eq_true, beq_iff_eq] at hup
      omega
    unfold roundT
    rw [if_neg hup]
    have e : decN (W, ds) n = W * 10 ^ n + valD ds := rfl
    rw [e]
    generalize q * (W * 10 ^ n + valD ds) = x at *
    exact ⟨hlen, hd, by omega, by omega⟩

/-- Digits read on from a number. -/
theorem num_digs : ∀ (ds : List Nat), (∀ d ∈ ds, d < 10) → ∀ w x, numL 10 (ds.map digC) w = some x → x = w * 10 ^ ds.length + valD ds
  | [], _, w, x, h => by simp [numL, valD] at h ⊢; exact h.symm
  | d :: ds, hd, w, x, h => by
    have h1 := hd d (List.mem_cons_self)
    rw [List.map_cons, numL] at h
    split at h
    · cases h
    · have hv : dvN (digC d).toNat = d := by
        rw [digC_nat d h1]; unfold dvN; rw [if_pos (by omega)]; omega
      rw [hv] at h
      have ih := num_digs ds (fun e he => hd e (List.mem_cons_of_mem _ he)) _ _ h
      rw [ih]
      simp only [valD, List.length_cons, Nat.pow_succ, Nat.add_mul]
      rw [Nat.mul_assoc, Nat.mul_comm 10, Nat.add_assoc]

theorem itoa_nat (W : Nat) : Lib.itoa (W : Int) = Lib.decDigits W := by unfold Lib.itoa; rw [if_neg (by omega), Int.toNat_natCast]
theorem digC_dig {ds : List Nat} (h : ∀ d ∈ ds, d < 10) : ∀ c ∈ ds.map digC, dvN c.toNat < 10 := by
  intro c hc
  obtain ⟨d, hd, rfl⟩ := List.mem_map.1 hc
  rw [digC_nat d (h d hd)]
  have := h d hd
  unfold dvN; rw [if_pos (by omega)]; omega

/-- The number of a decimal's text without its sign. -/
theorem uns_body (W : Nat) (ds : List Nat) (hd : ∀ d ∈ ds, d < 10) (hW : W ≤ 4611686018427387904) :
    (unsL (bodyL W ds)).2.2 = 0 → unsL (bodyL W ds) = makeT ((W * 10 ^ ds.length + valD ds : Nat) : Int) ((10 ^ ds.length : Nat) : Int) := by
  have h1 := dec_digits W
  have hn := dec_num W hW
  unfold bodyL
  rw [itoa_nat]
  by_cases h0 : ds = []
  · subst h0
    rw [if_pos rfl, List.append_nil, uns_digits h1.2 h1.1, hn]
    intro _
    simp [valD, ofNum]
  · rw [if_neg h0]
    have h2 := digC_dig hd
    have hne : ds.map digC ≠ [] := by simpa using h0
    have hlen : (ds.map digC).length = ds.length := by simp
    have hpos : 0 < ds.length := List.length_pos_iff.2 h0
    have hcat := numL_append 10 (Lib.decDigits W) (ds.map digC) 0
    rw [hn] at hcat
    have hnd := num_digs ds hd W
    generalize ds.map digC = b at *
    generalize Lib.decDigits W = a at *
    obtain ⟨ha, ha0⟩ := h1
    have hl : 0 < a.length := List.length_pos_iff.2 ha0
    have r1 : runL (a ++ 46 :: b) 10 0 = a.length := runL_upto ha (by decide)
    have hat : bat (a ++ 46 :: b) a.length = 46 := by unfold bat; simp [List.getD]
    have hdrop : (a ++ 46 :: b).drop (a.length + 1) = b := by simp
    have r2 : runL (a ++ 46 :: b) 10 (a.length + 1) = (a ++ 46 :: b).length := runL_all (by simp) (by rw [hdrop]; exact h2)
    have hf : findL (a ++ 46 :: b) 0 = some ⟨false, a.length, 0, (a ++ 46 :: b).length⟩ := by
      unfold findL
      simp only []
      rw [r1, hat, r2, if_neg (by omega), if_neg (by omega), if_pos ⟨by simp, rfl, by simp; omega⟩]
    rw [unsL_num hf rfl]
    unfold numT
    simp only []
    rw [if_neg (by simp), if_neg (by omega), Int.toNat_natCast]
    have hk : (a ++ 46 :: b).length - (a.length + 1) = ds.length := by simp; omega
    have s1 : sliceL (a ++ 46 :: b) 0 a.length = a := by unfold sliceL; simp
    have s2 : sliceL (a ++ 46 :: b) (a.length + 1) (a ++ 46 :: b).length = b := by
      unfold sliceL; rw [hdrop, List.take_of_length_le (by simp; omega)]
    rw [hk, s1, s2]
    by_cases h9 : 9 < ds.length
    · rw [if_pos h9]; intro h; cases h
    · rw [if_neg h9]
      rw [hcat]
      simp only [Option.bind_some]
      cases hx : numL 10 b W with
      | none => intro h; cases h
      | some x => intro _; rw [hnd x hx]; rfl

theorem make_exact {v S : Nat} (hS : 0 < S) {t : Int × Int × Int} (ht : makeT (v : Int) (S : Int) = t) (h : t.2.2 = 0) : ∃ g : Int, 0 < g ∧ g * t.1 = v ∧ g * t.2.1 = S ∧ 0 < t.2.1 := by
  subst ht
  unfold makeT at h ⊢
  rw [if_neg (by omega)] at h ⊢
  split at h
  · rename_i hr
    rw [if_pos hr]
    have hk : redOk (v : Int) (S : Int) = true := by
      unfold redT rE at h
      cases hk : redOk (v : Int) (S : Int)
      · rw [hk] at h; cases h
      · rfl
    obtain ⟨a, b, c⟩ := r_ok hk
    refine ⟨(Int.gcd (v : Int) (S : Int) : Int), gcd_pos _ _ (by omega), ?_, ?_, ?_⟩
    · show _ * rP _ _ = _
      rw [a, redP_eq _ _ (by omega)]
      exact Int.mul_ediv_cancel' (Int.gcd_dvd_left _ _)
    · show _ * rQ _ _ = _
      rw [b, redQ_eq _ _ (by omega)]
      exact Int.mul_ediv_cancel' (Int.gcd_dvd_right _ _)
    · show 0 < rQ _ _
      rw [b]; exact redQ_pos _ _
  · cases h

theorem sub_exact {a b c d : Int} {t : Int × Int × Int} (ht : subT a b c d = t) (h : t.2.2 = 0) (hb : 0 < b) (hd : 0 < d) : ∃ g : Int, 0 < g ∧ g * t.1 = a * d - c * b ∧ g * t.2.1 = b * d ∧ 0 < t.2.1 ∧ -2147483647 ≤ t.1 ∧ t.1 ≤ 2147483647 ∧ t.2.1 ≤ 2147483647 := by
  subst ht
  unfold subT at h ⊢
  split at h
  · rename_i hr
    rw [if_pos hr]
    have hp : 0 < b * d := Int.mul_pos hb hd
    have hk : redOk (a * d - c * b) (b * d) = true := by
      unfold redT rE at h
      cases hk : redOk (a * d - c * b) (b * d)
      · rw [hk] at h; cases h
      · rfl
    obtain ⟨e1, e2, e3⟩ := r_ok hk
    have hbd := redOk_true hk
    refine ⟨(Int.gcd (a * d - c * b) (b * d) : Int), gcd_pos _ _ hp, ?_, ?_, ?_, ?_, ?_, ?_⟩
    · show _ * rP _ _ = _
      rw [e1, redP_eq _ _ hp]
      exact Int.mul_ediv_cancel' (Int.gcd_dvd_left _ _)
    · show _ * rQ _ _ = _
      rw [e2, redQ_eq _ _ hp]
      exact Int.mul_ediv_cancel' (Int.gcd_dvd_right _ _)
    · show 0 < rQ _ _
      rw [e2]; exact redQ_pos _ _
    · show _ ≤ rP _ _
      rw [e1]; exact hbd.1
    · show rP _ _ ≤ _
      rw [e1]; exact hbd.2.1
    · show rQ _ _ ≤ _
      rw [e2]; exact hbd.2.2
  · cases h

theorem body_bytes (W : Nat) (ds : List Nat) (hd : ∀ d ∈ ds, d < 10) : ∀ c ∈ bodyL W ds, dvN c.toNat < 10 ∨ c = 46 := by
  intro c hc
  unfold bodyL at hc
  rw [itoa_nat] at hc
  rcases List.mem_append.1 hc with hc | hc
  · exact .inl ((dec_digits W).1 c hc)
  · split at hc
    · cases hc
    · rcases List.mem_cons.1 hc with rfl | hc
      · exact .inr rfl
      · exact .inl (digC_dig hd c hc)

theorem zero_val {W : Nat} {ds : List Nat} (h : zeroB W ds = true) : W = 0 ∧ valD ds = 0 := by
  unfold zeroB at h
  simp only [Bool.and_eq_true, beq_iff_eq, List.all_eq_true] at h
  refine ⟨by omega, ?_⟩
  have h2 := h.2
  clear h
  induction ds with
  | nil => rfl
  | cons d ds ih =>
    have h0 := h2 d (List.mem_cons_self)
    simp only [valD, h0, Nat.zero_mul, Nat.zero_add]
    exact ih (fun e he => h2 e (List.mem_cons_of_mem _ he))

/-- The number of a decimal's text. -/
theorem parse_dec (m : Bool) (W : Nat) (ds : List Nat) (hd : ∀ d ∈ ds, d < 10) (hW : W ≤ 4611686018427387904) (t : Int × Int × Int) (ht : parseL (decL m W ds) = t) (h : t.2.2 = 0) :
    ∃ g : Int, 0 < g ∧ g * t.1 = (if m then -(((W * 10 ^ ds.length + valD ds : Nat)) : Int) else ((W * 10 ^ ds.length + valD ds : Nat) : Int)) ∧ g * t.2.1 = ((10 ^ ds.length : Nat) : Int) ∧ 0 < t.2.1 := by
  have hb := body_bytes W ds hd
  have hbl : ∀ c ∈ bodyL W ds, blankL.contains c = false := by
    intro c hc
    rcases hb c hc with h | rfl
    · exact digit_blank c (by omega)
    · decide
  have hh : ¬ (bodyL W ds).head? = some 45 := head_none fun d hd => by
    rcases hb d hd with h | rfl
    · exact (digit_ne d (by omega)).2.1
    · decide
  have hu := uns_body W ds hd hW
  have hpow : 0 < 10 ^ ds.length := Nat.pow_pos (by omega)
  have key : ∀ (b : Bool), minusT b (unsL (bodyL W ds)) = t → ∃ g : Int, 0 < g ∧ g * t.1 = (if b then -(((W * 10 ^ ds.length + valD ds : Nat)) : Int) else ((W * 10 ^ ds.length + valD ds : Nat) : Int)) ∧ g * t.2.1 = ((10 ^ ds.length : Nat) : Int) ∧ 0 < t.2.1 := by
    intro b hb2
    generalize hub : unsL (bodyL W ds) = u at *
    have hu0 : u.2.2 = 0 := by
      unfold minusT at hb2
      split at hb2
      · assumption
      · rw [← hb2] at h; exact h
    obtain ⟨g, g0, g1, g2, g3⟩ := make_exact hpow (hu hu0).symm hu0
    unfold minusT at hb2
    rw [if_pos hu0] at hb2
    refine ⟨g, g0, ?_, ?_, ?_⟩
    · rw [← hb2]
      cases b
      · simpa using g1
      · simp only [if_true]
        rw [Int.mul_neg, g1]
    · rw [← hb2]; exact g2
    · rw [← hb2]; exact g3
  unfold decL at ht
  by_cases hm : (m && !zeroB W ds) = true
  · rw [if_pos hm] at ht
    have hm1 : m = true := by cases m <;> simp at hm ⊢
    have hp : parseL (45 :: bodyL W ds) = minusT true (unsL (bodyL W ds)) := by
      unfold parseL
      rw [trim_none (by
        intro c hc
        rcases List.mem_cons.1 hc with rfl | hc
        · decide
        · exact hbl c hc), if_pos (by rfl)]
      rfl
    rw [hp] at ht
    rw [hm1]
    exact key true ht
  · rw [if_neg hm] at ht
    have hp : parseL (bodyL W ds) = minusT false (unsL (bodyL W ds)) := by
      unfold parseL
      rw [trim_none hbl, if_neg hh]
    rw [hp] at ht
    have hk := key false ht
    cases m with
    | false => exact hk
    | true =>
      have hz : zeroB W ds = true := by simpa using hm
      obtain ⟨z1, z2⟩ := zero_val hz
      rw [z1, z2] at hk ⊢
      simpa using hk

/-- The law: the difference is at most half of the last place. -/
theorem round_law {P Q : Int} {n : Nat} (hv : vldB P Q = true) (b d : Int × Int × Int)
    (hb : parseL (decL (decide (P < 0)) (fixT P.natAbs Q.toNat n).1 (fixT P.natAbs Q.toNat n).2) = b) (hb0 : b.2.2 = 0)
    (hs : subT P Q b.1 b.2.1 = d) (hd0 : d.2.2 = 0) :
    (2 * d.1 * ((10 ^ n : Nat) : Int) ≤ d.2.1 ∧ -(2 * d.1 * ((10 ^ n : Nat) : Int)) ≤ d.2.1) ∧ -2147483647 ≤ d.1 ∧ d.1 ≤ 2147483647 ∧ d.2.1 ≤ 2147483647 := by
  obtain ⟨v1, v2, v3, v4⟩ := vld_bd hv
  obtain ⟨r1, r2, r3, r4⟩ := round_near P.natAbs Q.toNat n (by omega)
  have hW : (fixT P.natAbs Q.toNat n).1 ≤ 4611686018427387904 := by
    unfold fixT roundT
    have : P.natAbs / Q.toNat ≤ P.natAbs := Nat.div_le_self _ _
    split
    · dsimp only; split <;> omega
    · dsimp only; omega
  obtain ⟨h, h0, h1, h2, h3⟩ := parse_dec _ _ _ r2 hW b hb hb0
  rw [r1] at h1 h2
  change h * b.1 = (if decide (P < 0) = true then -((decN (fixT P.natAbs Q.toNat n) n : Nat) : Int) else ((decN (fixT P.natAbs Q.toNat n) n : Nat) : Int)) at h1
  generalize decN (fixT P.natAbs Q.toNat n) n = N at *
  obtain ⟨g, g0, g1, g2, g3, g4, g5, g6⟩ := sub_exact hs hd0 (by omega) h3
  refine ⟨?_, g4, g5, g6⟩
  generalize hS : ((10 ^ n : Nat) : Int) = S at *
  -- h*g*d.1 = P*S - sN*Q ; h*g*d.2.1 = Q*S
  have e1 : h * g * d.1 = P * S - (h * b.1) * Q := by
    rw [Int.mul_assoc, g1, Int.mul_sub, ← h2]
    congr 1
    · rw [← Int.mul_assoc, Int.mul_comm h P, Int.mul_assoc]
    · rw [Int.mul_assoc]
  have e2 : h * g * d.2.1 = Q * S := by
    rw [Int.mul_assoc, g2, ← h2, ← Int.mul_assoc, Int.mul_comm h Q, Int.mul_assoc]
  have hhg : 0 < h * g := Int.mul_pos h0 g0
  have hS0 : 0 < S := by rw [← hS]; have : 0 < 10 ^ n := Nat.pow_pos (by omega); omega
  -- near: 2*|P*S - sN*Q| ≤ Q
  have near : 2 * (h * g * d.1) ≤ Q ∧ -(2 * (h * g * d.1)) ≤ Q := by
    rw [e1, h1]
    have c3 : (2 * ((P.natAbs : Int) * S)) ≤ 2 * (Q * (N : Int)) + Q := by
      have : ((2 * (P.natAbs * 10 ^ n) : Nat) : Int) ≤ ((2 * (Q.toNat * N) + Q.toNat : Nat) : Int) := by exact_mod_cast r3
      push_cast at this hS
      rw [show ((Q.toNat : Nat) : Int) = Q by omega, hS] at this
      exact this
    have c4 : 2 * (Q * (N : Int)) ≤ 2 * ((P.natAbs : Int) * S) + Q := by
      have : ((2 * (Q.toNat * N) : Nat) : Int) ≤ ((2 * (P.natAbs * 10 ^ n) + Q.toNat : Nat) : Int) := by exact_mod_cast r4
      push_cast at this hS
      rw [show ((Q.toNat : Nat) : Int) = Q by omega, hS] at this
      exact this
    by_cases hp : P < 0
    · rw [if_pos (by simpa using hp)]
      have : (P.natAbs : Int) = -P := by omega
      rw [this, Int.neg_mul] at c3 c4
      rw [Int.neg_mul, Int.mul_comm (N : Int) Q]
      generalize P * S = x at *
      generalize Q * (N : Int) = y at *
      omega
    · rw [if_neg (by simpa using hp)]
      have : (P.natAbs : Int) = P := by omega
      rw [this] at c3 c4
      rw [Int.mul_comm (N : Int) Q]
      generalize P * S = x at *
      generalize Q * (N : Int) = y at *
      omega
  have fin : ∀ x : Int, 2 * (h * g * x) ≤ Q → 2 * x * S ≤ d.2.1 := by
    intro x hx
    have m1 : 2 * (h * g * x) * S ≤ Q * S := Int.mul_le_mul_of_nonneg_right hx (by omega)
    rw [← e2] at m1
    have m2 : 2 * (h * g * x) * S = h * g * (2 * x * S) := by
      rw [← Int.mul_assoc 2, Int.mul_comm 2 (h * g), Int.mul_assoc (h * g) 2 x, Int.mul_assoc (h * g)]
    rw [m2] at m1
    exact Int.le_of_mul_le_mul_left m1 hhg
  refine ⟨fin _ near.1, ?_⟩
  have := fin (-d.1) (by rw [Int.mul_neg]; omega)
  rw [show 2 * -d.1 * S = -(2 * d.1 * S) by rw [Int.mul_neg, Int.neg_mul]] at this
  exact this

theorem uns_bd (l : List UInt8) : -2147483647 ≤ (unsL l).1 ∧ (unsL l).1 ≤ 2147483647 := by
  unfold unsL
  split
  · split
    · exact numT_bd _ _
    · exact fracL_bd _
  · exact fracL_bd _
theorem parse_bd (l : List UInt8) : -2147483647 ≤ (parseL l).1 ∧ (parseL l).1 ≤ 2147483647 := by
  have h : ∀ (m : Bool) u, -2147483647 ≤ (minusT m (unsL u)).1 ∧ (minusT m (unsL u)).1 ≤ 2147483647 := by
    intro m u
    have := uns_bd u
    unfold minusT
    split
    · cases m
      · simpa using this
      · simp only [if_true]; omega
    · simp
  unfold parseL
  split <;> exact h _ _
theorem fix_len {P Q : Int} {n : Nat} (hv : vldB P Q = true) (hn : n ≤ 9) : (decL (decide (P < 0)) (fixT P.natAbs Q.toNat n).1 (fixT P.natAbs Q.toNat n).2).length ≤ 100 := by
  obtain ⟨v1, v2, v3, v4⟩ := vld_bd hv
  obtain ⟨r1, -, -, -⟩ := round_near P.natAbs Q.toNat n (by omega)
  have hW : (fixT P.natAbs Q.toNat n).1 ≤ 4611686018427387904 := by
    unfold fixT roundT
    have : P.natAbs / Q.toNat ≤ P.natAbs := Nat.div_le_self _ _
    split
    · dsimp only; split <;> omega
    · dsimp only; omega
  have hl := Lib.itoa_length_le ((fixT P.natAbs Q.toNat n).1 : Int) (by omega) (by omega)
  have hb := bodyL_len (fixT P.natAbs Q.toNat n).1 (fixT P.natAbs Q.toNat n).2
  unfold decL
  split
  · rw [List.length_cons]; omega
  · omega
end Go.Proofs.YtplphejillkdeaaGreatDoor

/- A number that is not negative is read back from its decimal of nine places exactly if its denominator divides 10^9: plain facts, no program in sight. -/
namespace Go.Proofs.YtplphejillkdeaaGreatDoor
set_option linter.unusedVariables false

theorem num_some : ∀ (ds : List Nat), (∀ d ∈ ds, d < 10) → ∀ w, w * 10 ^ ds.length + valD ds ≤ 4611686018427387904 → numL 10 (ds.map digC) w = some (w * 10 ^ ds.length + valD ds)
  | [], _, w, _ => by simp [numL, valD]
  | d :: ds, hd, w, h => by
    have h1 := hd d (List.mem_cons_self)
    have hv : dvN (digC d).toNat = d := by
      rw [digC_nat d h1]; unfold dvN; rw [if_pos (by omega)]; omega
    have e : w * 10 ^ (d :: ds).length + valD (d :: ds) = (w * 10 + d) * 10 ^ ds.length + valD ds := by
      simp only [valD, List.length_cons, Nat.pow_succ, Nat.add_mul]
      rw [Nat.mul_assoc, Nat.mul_comm 10, Nat.add_assoc]
    rw [e] at h ⊢
    have hp : 1 ≤ 10 ^ ds.length := Nat.pow_pos (by omega)
    have hle : w * 10 + d ≤ 4611686018427387904 := by
      have : (w * 10 + d) * 1 ≤ (w * 10 + d) * 10 ^ ds.length := Nat.mul_le_mul_left _ hp
      omega
    rw [List.map_cons, numL, hv, if_neg (by omega)]
    exact num_some ds (fun e he => hd e (List.mem_cons_of_mem _ he)) _ h
theorem uns_fit (W : Nat) (ds : List Nat) (hd : ∀ d ∈ ds, d < 10) (hl9 : ds.length ≤ 9) (h0 : ds ≠ []) (hfit : W * 10 ^ ds.length + valD ds ≤ 4611686018427387904) :
    unsL (bodyL W ds) = makeT ((W * 10 ^ ds.length + valD ds : Nat) : Int) ((10 ^ ds.length : Nat) : Int) := by
  have hW : W ≤ 4611686018427387904 := by
    have hp : 1 ≤ 10 ^ ds.length := Nat.pow_pos (by omega)
    have : W * 1 ≤ W * 10 ^ ds.length := Nat.mul_le_mul_left _ hp
    omega
  have h1 := dec_digits W
  have hn := dec_num W hW
  unfold bodyL
  rw [itoa_nat, if_neg h0]
  have h2 := digC_dig hd
  have hne : ds.map digC ≠ [] := by simpa using h0
  have hlen : (ds.map digC).length = ds.length := by simp
  have hpos : 0 < ds.length := List.length_pos_iff.2 h0
  have hcat := numL_append 10 (Lib.decDigits W) (ds.map digC) 0
  rw [hn] at hcat
  have hnd := num_some ds hd W hfit
  generalize ds.map digC = b at *
  generalize Lib.decDigits W = a at *
  obtain ⟨ha, ha0⟩ := h1
  have hl : 0 < a.length := List.length_pos_iff.2 ha0
  have r1 : runL (a ++ 46 :: b) 10 0 = a.length := runL_upto ha (by decide)
  have hat : bat (a ++ 46 :: b) a.length = 46 := by unfold bat; simp [List.getD]
  have hdrop : (a ++ 46 :: b).drop (a.length + 1) = b := by simp
  have r2 : runL (a ++ 46 :: b) 10 (a.length + 1) = (a ++ 46 :: b).length := runL_all (by simp) (by rw [hdrop]; exact h2)
  have hf : findL (a ++ 46 :: b) 0 = some ⟨false, a.length, 0, (a ++ 46 :: b).length⟩ := by
    unfold findL
    simp only []
    rw [r1, hat, r2, if_neg (by omega), if_neg (by omega), if_pos ⟨by simp, rfl, by simp; omega⟩]
  rw [unsL_num hf rfl]
  unfold numT
  simp only []
  rw [if_neg (by simp), if_neg (by omega), Int.toNat_natCast]
  have hk : (a ++ 46 :: b).length - (a.length + 1) = ds.length := by simp; omega
  have s1 : sliceL (a ++ 46 :: b) 0 a.length = a := by unfold sliceL; simp
  have s2 : sliceL (a ++ 46 :: b) (a.length + 1) (a ++ 46 :: b).length = b := by
    unfold sliceL; rw [hdrop, List.take_of_length_le (by simp; omega)]
  rw [hk, s1, s2, if_neg (by omega), hcat]
  simp only [Option.bind_some]
  rw [hnd]
  rfl
theorem parse_plus (W : Nat) (ds : List Nat) (hd : ∀ d ∈ ds, d < 10) : parseL (bodyL W ds) = minusT false (unsL (bodyL W ds)) := by
  have hb := body_bytes W ds hd
  have hbl : ∀ c ∈ bodyL W ds, blankL.contains c = false := by
    intro c hc
    rcases hb c hc with h | rfl
    · exact digit_blank c (by omega)
    · decide
  have hh : ¬ (bodyL W ds).head? = some 45 := head_none fun d hd => by
    rcases hb d hd with h | rfl
    · exact (digit_ne d (by omega)).2.1
    · decide
  unfold parseL
  rw [trim_none hbl, if_neg hh]
/-- The law of the leaves. -/
theorem leaf_law {P Q : Int} (hv : vldB P Q = true) (hP : 0 ≤ P) : parseL (decL (decide (P < 0)) (fixT P.natAbs Q.toNat 9).1 (fixT P.natAbs Q.toNat 9).2) = (P, Q, 0) ↔ (1000000000 : Int) % Q = 0 := by
  obtain ⟨v1, v2, v3, v4⟩ := vld_bd hv
  obtain ⟨r1, r2, r3, r4⟩ := round_near P.natAbs Q.toNat 9 (by omega)
  have hW : (fixT P.natAbs Q.toNat 9).1 ≤ 4611686018427387904 := by
    unfold fixT roundT
    have : P.natAbs / Q.toNat ≤ P.natAbs := Nat.div_le_self _ _
    split
    · dsimp only; split <;> omega
    · dsimp only; omega
  have hm : decide (P < 0) = false := decide_eq_false (by omega)
  rw [hm]
  have hdec : decL false ((fixT P.natAbs Q.toNat 9).1 : Nat) (fixT P.natAbs Q.toNat 9).2 = bodyL ((fixT P.natAbs Q.toNat 9).1 : Nat) (fixT P.natAbs Q.toNat 9).2 := rfl
  have hN : (fixT P.natAbs Q.toNat 9).1 * 10 ^ (fixT P.natAbs Q.toNat 9).2.length + valD (fixT P.natAbs Q.toNat 9).2 = decN (fixT P.natAbs Q.toNat 9) 9 := by rw [r1]; rfl
  constructor
  · intro h
    obtain ⟨g, g0, -, g2, -⟩ := parse_dec false _ _ r2 hW _ h rfl
    rw [r1] at g2
    have : (1000000000 : Int) = g * Q := by rw [show g * Q = _ from g2]; rfl
    rw [this]
    exact Int.mul_emod_left g Q
  · intro h
    obtain ⟨M, hM⟩ : ∃ M : Int, (1000000000 : Int) = Q * M := (Int.dvd_of_emod_eq_zero h)
    have hM0 : 0 < M := by
      rcases Int.lt_or_le 0 M with h1 | h1
      · exact h1
      · have : Q * M ≤ 0 := Int.mul_nonpos_of_nonneg_of_nonpos (by omega) h1
        omega
    obtain ⟨q, hq⟩ : ∃ q : Nat, Q = q := ⟨Q.toNat, by omega⟩
    obtain ⟨p, hp⟩ : ∃ p : Nat, P = p := ⟨P.toNat, by omega⟩
    obtain ⟨m, hmm⟩ : ∃ m : Nat, M = m := ⟨M.toNat, by omega⟩
    subst hq hp hmm
    have hM1 : 1000000000 = q * m := by
      have e : ((q * m : Nat) : Int) = (q : Int) * (m : Int) := Int.natCast_mul q m
      omega
    rw [Int.toNat_natCast, Int.natAbs_natCast] at *
    have hten : (10 ^ 9 : Nat) = q * m := by rw [← hM1]
    rw [hten] at r3 r4
    -- the decimal is exact
    have hex : decN (fixT p q 9) 9 = p * m := by
      generalize decN (fixT p q 9) 9 = N at r3 r4
      have e1 : p * (q * m) = q * (p * m) := by rw [← Nat.mul_assoc, Nat.mul_comm p q, Nat.mul_assoc]
      rw [e1] at r3 r4
      have hq1 : 1 ≤ q := by omega
      rcases Nat.lt_trichotomy N (p * m) with h1 | h1 | h1
      · exfalso
        have : q * (N + 1) ≤ q * (p * m) := Nat.mul_le_mul_left _ h1
        rw [Nat.mul_add, Nat.mul_one] at this
        omega
      · exact h1
      · exfalso
        have : q * (p * m + 1) ≤ q * N := Nat.mul_le_mul_left _ h1
        rw [Nat.mul_add, Nat.mul_one] at this
        omega
    rw [hex] at hN
    have hbig : p * m ≤ 4611686018427387904 := by
      have h1 : m ≤ 1000000000 := by
        rw [hM1]
        exact Nat.le_mul_of_pos_left m (by omega)
      have h2 : p * m ≤ 2147483647 * 1000000000 := Nat.mul_le_mul (by omega) h1
      omega
    show parseL (decL false ((fixT p q 9).1 : Nat) (fixT p q 9).2) = _
    rw [show decL false (((fixT p q 9).1 : Nat) : Int) (fixT p q 9).2 = bodyL (((fixT p q 9).1 : Nat) : Int) (fixT p q 9).2 from rfl, parse_plus _ _ r2,
      uns_fit _ _ r2 (by omega) (by intro h; rw [h] at r1; cases r1) (by omega), hN, r1, hten]
    have hmk : makeT ((p * m : Nat) : Int) ((q * m : Nat) : Int) = ((p : Int), (q : Int), 0) := by
      unfold makeT
      have hqm : 0 < q * m := by omega
      rw [if_neg (by omega), if_pos (by omega)]
      have hg : Int.gcd ((p * m : Nat) : Int) ((q * m : Nat) : Int) = m := by
        rw [Int.gcd_natCast_natCast, Nat.gcd_mul_right]
        have := vld_gcd hv
        rw [Int.gcd_natCast_natCast] at this
        rw [this, Nat.one_mul]
      have e1 : redP ((p * m : Nat) : Int) ((q * m : Nat) : Int) = p := by
        rw [redP_eq _ _ (by omega), hg]
        push_cast
        exact Int.mul_ediv_cancel _ (by omega)
      have e2 : redQ ((p * m : Nat) : Int) ((q * m : Nat) : Int) = q := by
        rw [redQ_eq _ _ (by omega), hg]
        push_cast
        exact Int.mul_ediv_cancel _ (by omega)
      have hok := redOk_of (p := ((p * m : Nat) : Int)) (q := ((q * m : Nat) : Int)) (by rw [e1]; omega) (by rw [e1]; omega) (by rw [e2]; omega)
      obtain ⟨a, b, c⟩ := r_ok hok
      unfold redT
      rw [a, b, c, e1, e2]
    rw [hmk]
    rfl
theorem ofNum_qbd (o : Option Nat) (u : Nat) : 0 ≤ (ofNum o u).2.1 ∧ (ofNum o u).2.1 ≤ 2147483647 := by
  unfold ofNum; split
  · simp
  · exact (makeT_bd _ _).2
theorem numT_qbd (l : List UInt8) (f : Find) : 0 ≤ (numT l f).2.1 ∧ (numT l f).2.1 ≤ 2147483647 := by
  unfold numT; split
  · exact ofNum_qbd _ _
  · split
    · exact ofNum_qbd _ _
    · split
      · simp
      · exact ofNum_qbd _ _
theorem fracL_qbd (l : List UInt8) : 0 ≤ (fracL l).2.1 ∧ (fracL l).2.1 ≤ 2147483647 := by
  have hf : ∀ p q : List UInt8, 0 ≤ (fracT p q).2.1 ∧ (fracT p q).2.1 ≤ 2147483647 := by
    intro p q
    unfold fracT; split
    · split
      · split
        · simp
        · exact (makeT_bd _ _).2
      · simp
    · simp
  unfold fracL; split
  · simp
  · exact hf _ _
theorem uns_qbd (l : List UInt8) : 0 ≤ (unsL l).2.1 ∧ (unsL l).2.1 ≤ 2147483647 := by
  unfold unsL
  split
  · split
    · exact numT_qbd _ _
    · exact fracL_qbd _
  · exact fracL_qbd _
theorem parse_qbd (l : List UInt8) : 0 ≤ (parseL l).2.1 ∧ (parseL l).2.1 ≤ 2147483647 := by
  have h : ∀ (m : Bool) u, 0 ≤ (minusT m (unsL u)).2.1 ∧ (minusT m (unsL u)).2.1 ≤ 2147483647 := by
    intro m u
    have := uns_qbd u
    unfold minusT
    split
    · exact this
    · simp
  unfold parseL
  split <;> exact h _ _
end Go.Proofs.YtplphejillkdeaaGreatDoor
