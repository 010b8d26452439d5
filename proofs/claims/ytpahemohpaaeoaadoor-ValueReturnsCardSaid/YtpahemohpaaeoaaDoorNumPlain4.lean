/- Texts that are read back: plain facts, no program in sight. -/
import Derived.Test.YtpahemohpaaeoaaDoorNumPlain3
import Derived.Test.YtpahemohpaaeoaaDoorDecPlain
import Derived.Test.YtpahemohpaaeoaaDoorFixPlain
namespace Go.Proofs.YtpahemohpaaeoaaDoor
set_option linter.unusedVariables false

theorem dropWhile_none {α : Type} {p : α → Bool} {l : List α} (h : ∀ c ∈ l, p c = false) : l.dropWhile p = l := by
  cases l with
  | nil => rfl
  | cons a l => rw [List.dropWhile_cons_of_neg (by rw [h a (List.mem_cons_self)]; simp)]
/-- A text whose bytes are no blanks is not trimmed. -/
theorem trim_none {l : List UInt8} (h : ∀ c ∈ l, blankL.contains c = false) : Lib.trimS l blankL = l := by
  unfold Lib.trimS Lib.trimRightS Lib.trimLeftS
  rw [dropWhile_none (l := l.reverse) (by intro c hc; exact h c (List.mem_reverse.1 hc)), List.reverse_reverse, dropWhile_none h]
/-- Blanks around such a text are cut off. -/
theorem trim_around {a l b : List UInt8} (ha : ∀ c ∈ a, blankL.contains c = true) (hb : ∀ c ∈ b, blankL.contains c = true) (h : ∀ c ∈ l, blankL.contains c = false) : Lib.trimS (a ++ l ++ b) blankL = l := by
  have drop_all : ∀ (x y : List UInt8), (∀ c ∈ x, blankL.contains c = true) → (x ++ y).dropWhile (blankL.contains ·) = y.dropWhile (blankL.contains ·) := by
    intro x y hx
    induction x with
    | nil => rfl
    | cons c x ih =>
      rw [List.cons_append, List.dropWhile_cons_of_pos (hx c (List.mem_cons_self)), ih (fun d hd => hx d (List.mem_cons_of_mem _ hd))]
  unfold Lib.trimS Lib.trimRightS Lib.trimLeftS
  rw [List.reverse_append, drop_all _ _ (by intro c hc; exact hb c (List.mem_reverse.1 hc))]
  cases hl : l with
  | nil =>
    have e1 : ((a ++ []).reverse).dropWhile (blankL.contains ·) = [] := by
      have := drop_all a.reverse [] (by intro c hc; exact ha c (List.mem_reverse.1 hc))
      simpa using this
    rw [e1]; rfl
  | cons x xs =>
    have hne : l.reverse ≠ [] := by simp [hl]
    have h1 : ((a ++ l).reverse).dropWhile (blankL.contains ·) = (a ++ l).reverse := by
      rw [List.reverse_append]
      cases hr : l.reverse with
      | nil => exact absurd hr hne
      | cons y ys =>
        have hy : blankL.contains y = false := h y (by rw [← List.mem_reverse, hr]; exact List.mem_cons_self)
        rw [List.cons_append, List.dropWhile_cons_of_neg (by rw [hy]; simp)]
    rw [← hl, h1, List.reverse_reverse, drop_all a l ha, dropWhile_none h]

theorem digit_blank (c : UInt8) (h : dvN c.toNat < 16) : blankL.contains c = false := by
  have : ∀ c : Fin 256, dvN c.val < 16 → blankL.contains (UInt8.ofNat c.val) = false := by decide +kernel
  have := this ⟨c.toNat, UInt8.toNat_lt c⟩ h
  simpa using this
theorem digit_ne (c : UInt8) (h : dvN c.toNat < 16) : c ≠ 47 ∧ c ≠ 45 ∧ c ≠ 46 ∧ c ≠ 120 ∧ c ≠ 88 := by
  have : ∀ c : Fin 256, dvN c.val < 16 → UInt8.ofNat c.val ≠ 47 ∧ UInt8.ofNat c.val ≠ 45 ∧ UInt8.ofNat c.val ≠ 46 ∧ UInt8.ofNat c.val ≠ 120 ∧ UInt8.ofNat c.val ≠ 88 := by decide +kernel
  have := this ⟨c.toNat, UInt8.toNat_lt c⟩ h
  simpa using this

/-- Digits to the end. -/
theorem runL_all {l : List UInt8} {b i : Nat} (hi : i ≤ l.length) (h : ∀ c ∈ l.drop i, dvN c.toNat < b) : runL l b i = l.length := by
  have hp : ∀ m : List UInt8, (∀ c ∈ m, dvN c.toNat < b) → m.takeWhile (fun c => decide (dvN c.toNat < b)) = m := by
    intro m hm
    induction m with
    | nil => rfl
    | cons c m ih =>
      rw [List.takeWhile_cons_of_pos (by simpa using hm c (List.mem_cons_self)), ih (fun d hd => hm d (List.mem_cons_of_mem _ hd))]
  unfold runL
  rw [hp _ h, List.length_drop]
  omega
/-- Digits up to a byte that is none. -/
theorem runL_upto {a r : List UInt8} {c : UInt8} {b : Nat} (h : ∀ c ∈ a, dvN c.toNat < b) (hc : ¬ dvN c.toNat < b) : runL (a ++ c :: r) b 0 = a.length := by
  unfold runL
  rw [List.drop_zero, Nat.zero_add]
  induction a with
  | nil => rw [List.nil_append, List.takeWhile_cons_of_neg (by simpa using hc)]; try rfl
  | cons d a ih =>
    rw [List.cons_append, List.takeWhile_cons_of_pos (by simpa using h d (List.mem_cons_self)), List.length_cons, ih (fun e he => h e (List.mem_cons_of_mem _ he))]
    try rfl

theorem slice_all (l : List UInt8) : sliceL l 0 l.length = l := by simp [sliceL]

/-- A text of digits is a numeral. -/
theorem find_digits {l : List UInt8} (hne : l ≠ []) (h : ∀ c ∈ l, dvN c.toNat < 10) : findL l 0 = some ⟨false, -1, 0, l.length⟩ := by
  have hr : runL l 10 0 = l.length := runL_all (Nat.zero_le _) (by simpa using h)
  have hl : l.length ≠ 0 := fun e => hne (List.eq_nil_of_length_eq_zero e)
  unfold findL
  simp only []
  rw [hr, if_neg hl, if_neg (by omega), if_neg (by omega)]
theorem num_digits (l : List UInt8) : numT l ⟨false, -1, 0, l.length⟩ = ofNum (numL 10 l 0) 1 := by
  unfold numT
  rw [if_neg (by simp), if_pos (by simp)]
  show ofNum (numL 10 (sliceL l 0 l.length) 0) 1 = _
  rw [slice_all]
theorem uns_digits {l : List UInt8} (hne : l ≠ []) (h : ∀ c ∈ l, dvN c.toNat < 10) : unsL l = ofNum (numL 10 l 0) 1 := by
  rw [unsL_num (find_digits hne h) rfl, num_digits]

theorem head_none {l : List UInt8} {c : UInt8} (h : ∀ d ∈ l, d ≠ c) : ¬ l.head? = some c := by
  cases l with
  | nil => simp
  | cons a l => simp; exact h a (List.mem_cons_self)

/-- A text of digits, parsed. -/
theorem parse_digits {l : List UInt8} (hne : l ≠ []) (h : ∀ c ∈ l, dvN c.toNat < 10) : parseL l = minusT false (ofNum (numL 10 l 0) 1) := by
  have ht := trim_none (l := l) (fun c hc => digit_blank c (by have := h c hc; omega))
  unfold parseL
  rw [ht, if_neg (head_none fun d hd => (digit_ne d (by have := h d hd; omega)).2.1), uns_digits hne h]

theorem make_one (n : Nat) (h : n ≤ 2147483647) : makeT n 1 = ((n : Int), 1, 0) := by
  unfold makeT
  rw [if_neg (by omega), if_pos (by omega)]
  have h1 : redP n 1 = n := by rw [redP_eq _ _ (by omega)]; simp
  have h2 : redQ n 1 = 1 := by rw [redQ_eq _ _ (by omega)]; simp
  have hk : redOk n 1 = true := redOk_of (by omega) (by omega) (by omega)
  obtain ⟨a, b, c⟩ := r_ok hk
  unfold redT
  rw [a, b, c, h1, h2]

/-- A hexadecimal text, parsed. -/
theorem parse_hex (n : Nat) (h : n ≤ 2147483647) : parseL (48 :: 120 :: bDigits 16 n) = ((n : Int), 1, 0) := by
  have hd := bDigits_digits 16 (by omega) (by omega) n
  have hne := bDigits_ne 16 n
  have hnum := numL_bDigits 16 (by omega) (by omega) n (by omega)
  have ht := trim_none (l := 48 :: 120 :: bDigits 16 n) (by
    intro c hc
    rcases List.mem_cons.1 hc with rfl | hc
    · decide
    · rcases List.mem_cons.1 hc with rfl | hc
      · decide
      · exact digit_blank c (hd c hc))
  generalize bDigits 16 n = l at *
  have hl0 : 0 < l.length := List.length_pos_iff.2 hne
  have r1 : runL (48 :: 120 :: l) 10 0 = 1 := runL_upto (a := [48]) (c := 120) (r := l) (by decide) (by decide)
  have r2 : runL (48 :: 120 :: l) 16 2 = l.length + 2 := by
    rw [runL_all (by simp) (by simpa using hd)]; simp
  have hf : findL (48 :: 120 :: l) 0 = some ⟨true, -1, 2, l.length + 2⟩ := by
    unfold findL
    simp only []
    rw [r1, if_neg (by omega)]
    rw [show 1 + 1 = 2 from rfl, r2, if_pos ⟨by omega, rfl, by simp, .inl (by rfl), by omega⟩]
  unfold parseL
  rw [ht, if_neg (by simp), unsL_num hf (by simp)]
  unfold numT
  rw [if_pos rfl]
  have hs : sliceL (48 :: 120 :: l) 2 (l.length + 2) = l := by simp [sliceL]
  show minusT false (ofNum (numL 16 (sliceL (48 :: 120 :: l) 2 (l.length + 2)) 0) 1) = _
  rw [hs, hnum]
  show minusT false (makeT (n : Int) ((1 : Nat) : Int)) = _
  rw [show (((1 : Nat)) : Int) = 1 from rfl, make_one n h]
  rfl

theorem fix_whole (n : Int) : fixL n 1 0 = if vldB n 1 then (Lib.itoa n, 0) else ([], 2) := by
  unfold fixL
  cases vldB n 1
  · rfl
  · have e : fixT n.natAbs (1 : Int).toNat (0 : Int).toNat = (n.natAbs, []) := by
      show roundT 1 (n.natAbs / 1) (n.natAbs % 1) [] = _
      rw [Nat.div_one, Nat.mod_one]
      rfl
    rw [e, if_pos (by simp), if_pos rfl]
    have hd : decL (decide (n < 0)) (n.natAbs : Nat) [] = Lib.itoa n := by
      unfold decL bodyL zeroB
      rw [if_pos rfl, List.append_nil]
      by_cases h : n < 0
      · have h0 : ((n.natAbs : Int) == 0) = false := by simp; omega
        rw [h0, decide_eq_true h, if_pos (by simp)]
        unfold Lib.itoa
        rw [if_pos h, if_neg (by omega), Int.toNat_natCast]
      · rw [decide_eq_false h, if_neg (by simp)]
        have : ((n.natAbs : Nat) : Int) = n := by omega
        rw [this]
    rw [hd]
theorem vld_int (n : Int) (h1 : -2147483647 ≤ n) (h2 : n ≤ 2147483647) : vldB n 1 = true := by
  unfold vldB
  simp; omega
end Go.Proofs.YtpahemohpaaeoaaDoor
