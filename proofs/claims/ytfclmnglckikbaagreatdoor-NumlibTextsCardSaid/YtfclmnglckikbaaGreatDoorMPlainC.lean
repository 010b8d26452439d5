/- Plain facts on decimals with places: no program in sight. -/
import Derived.Test.YtfclmnglckikbaaGreatDoorMPlainA
import Derived.Lib.ItoaNum
import Derived.Test.YtfclmnglckikbaaGreatDoorMPlainB
namespace Go.Proofs.YtfclmnglckikbaaGreatDoor
set_option linter.unusedVariables false

/-- A decimal digit's name. -/
def digC (d : Nat) : UInt8 := UInt8.ofNat (48 + d)
theorem digC_nat (d : Nat) (h : d < 10) : (digC d).toNat = 48 + d := by unfold digC; simp; omega

/-- The text of a whole number with places, without a sign. -/
def bodyL (whole : Int) (ds : List Nat) : List UInt8 := Lib.itoa whole ++ (if ds = [] then [] else 46 :: ds.map digC)
/-- Whether a whole number with places is zero. -/
def zeroB (whole : Int) (ds : List Nat) : Bool := (whole == 0) && ds.all fun d => d == 0
/-- The text with its sign. -/
def decL (m : Bool) (whole : Int) (ds : List Nat) : List UInt8 := if m && !zeroB whole ds then 45 :: bodyL whole ds else bodyL whole ds

theorem bodyL_first (whole : Int) (ds : List Nat) (h : 0 < ds.length) : bodyL whole (ds.take 1) = (bodyL whole (ds.take 0) ++ [(46 : UInt8)]) ++ [digC (ds[0])] := by
  cases ds with
  | nil => simp at h
  | cons d ds => simp [bodyL]
theorem bodyL_next (whole : Int) (ds : List Nat) (k : Nat) (hk : 0 < k) (h : k < ds.length) : bodyL whole (ds.take (k + 1)) = bodyL whole (ds.take k) ++ [digC (ds[k])] := by
  have h1 : ds.take (k + 1) = ds.take k ++ [ds[k]] := by rw [List.take_succ_eq_append_getElem h]
  have h2 : ds.take k ≠ [] := by
    intro e
    have := congrArg List.length e
    rw [List.length_take, List.length_nil] at this
    omega
  unfold bodyL
  rw [h1]
  generalize ds.take k = m at *
  rw [if_neg h2, if_neg (by simp)]
  simp
theorem zeroB_next (whole : Int) (ds : List Nat) (k : Nat) (h : k < ds.length) : zeroB whole (ds.take (k + 1)) = (zeroB whole (ds.take k) && (ds[k] == 0)) := by
  have h1 : ds.take (k + 1) = ds.take k ++ [ds[k]] := by rw [List.take_succ_eq_append_getElem h]
  unfold zeroB
  rw [h1, List.all_append]
  simp [Bool.and_assoc]
theorem bodyL_len (whole : Int) (ds : List Nat) : (bodyL whole ds).length ≤ (Lib.itoa whole).length + 1 + ds.length := by
  unfold bodyL; split <;> simp <;> omega
theorem itoa_ne (n : Int) : Lib.itoa n ≠ [] := by
  unfold Lib.itoa
  split
  · simp
  · rw [Lib.decDigits]; split <;> simp
theorem bodyL_ne (whole : Int) (ds : List Nat) : bodyL whole ds ≠ [] := by
  unfold bodyL
  intro h
  exact itoa_ne whole (List.append_eq_nil_iff.1 h).1
end Go.Proofs.YtfclmnglckikbaaGreatDoor

/- Plain facts on rounding: no program in sight. -/
namespace Go.Proofs.YtfclmnglckikbaaGreatDoor
set_option linter.unusedVariables false

/-- What is left behind k places. -/
def leftN (q r : Nat) : Nat → Nat
  | 0 => r
  | k + 1 => leftN q r k * 10 % q
/-- The first k places. -/
def digsN (q r k : Nat) : List Nat := (List.range k).map fun i => leftN q r i * 10 / q

theorem digsN_len (q r k : Nat) : (digsN q r k).length = k := by simp [digsN]
theorem digsN_succ (q r k : Nat) : digsN q r (k + 1) = digsN q r k ++ [leftN q r k * 10 / q] := by simp [digsN, List.range_succ]
theorem leftN_lt (q r : Nat) (hq : 0 < q) (hr : r < q) : ∀ k, leftN q r k < q
  | 0 => hr
  | k + 1 => Nat.mod_lt _ hq
theorem dig_lt (q l : Nat) (hl : l < q) : l * 10 / q < 10 := by
  rw [Nat.div_lt_iff_lt_mul (by omega)]; omega
theorem digsN_lt (q r : Nat) (hq : 0 < q) (hr : r < q) (k : Nat) : ∀ d ∈ digsN q r k, d < 10 := by
  intro d hd
  simp only [digsN, List.mem_map] at hd
  obtain ⟨i, _, rfl⟩ := hd
  exact dig_lt q _ (leftN_lt q r hq hr i)

/-- One more at the last place; whether a one is carried out ahead. -/
def incL : List Nat → List Nat × Bool
  | [] => ([], true)
  | d :: ds => if (incL ds).2 then (if d = 9 then (0 :: (incL ds).1, true) else ((d + 1) :: (incL ds).1, false)) else (d :: (incL ds).1, false)

theorem incL_snoc9 : ∀ l : List Nat, incL (l ++ [9]) = ((incL l).1 ++ [0], (incL l).2)
  | [] => rfl
  | d :: l => by
    simp only [List.cons_append, incL, incL_snoc9 l]
    cases (incL l).2 <;> simp
    split <;> simp
theorem incL_snoc {d : Nat} (h : d ≠ 9) : ∀ l : List Nat, incL (l ++ [d]) = (l ++ [d + 1], false)
  | [] => by simp [incL, h]
  | e :: l => by simp only [List.cons_append, incL, incL_snoc h l]; simp
theorem incL_len : ∀ l : List Nat, (incL l).1.length = l.length
  | [] => rfl
  | d :: l => by simp only [incL]; split <;> (try split) <;> simp [incL_len l]
theorem incL_lt : ∀ l : List Nat, (∀ d ∈ l, d < 10) → ∀ d ∈ (incL l).1, d < 10
  | [], _, d, h => by simp [incL] at h
  | a :: l, hl, d, h => by
    have ha := hl a (List.mem_cons_self)
    have ih := incL_lt l (fun d hd => hl d (List.mem_cons_of_mem _ hd))
    simp only [incL] at h
    split at h
    · split at h
      · rcases List.mem_cons.1 h with rfl | h
        · omega
        · exact ih d h
      · rcases List.mem_cons.1 h with rfl | h
        · omega
        · exact ih d h
    · rcases List.mem_cons.1 h with rfl | h
      · exact ha
      · exact ih d h

/-- The last place, or the whole number where there is none: what decides a tie. -/
def tieN (whole : Nat) (ds : List Nat) : Nat := match ds.getLast? with | some d => d % 2 | none => whole % 2
def upB (q whole l : Nat) (ds : List Nat) : Bool := decide (q < 2 * l) || (2 * l == q && tieN whole ds == 1)
/-- The whole number and its places, rounded. -/
def roundT (q whole l : Nat) (ds : List Nat) : Nat × List Nat :=
  if upB q whole l ds then (if (incL ds).2 then whole + 1 else whole, (incL ds).1) else (whole, ds)
def fixT (p q n : Nat) : Nat × List Nat := roundT q (p / q) (leftN q (p % q) n) (digsN q (p % q) n)
/-- What Fixed answers: a text, an error. -/
def fixL (p q n : Int) : List UInt8 × Int :=
  if vldB p q && (decide (0 ≤ n) && decide (n ≤ 12)) then (decL (decide (p < 0)) (fixT p.natAbs q.toNat n.toNat).1 (fixT p.natAbs q.toNat n.toNat).2, 0) else ([], 2)

/-- Places padded with zeros to twelve. -/
def pad12 (l : List Nat) : List Nat := l ++ List.replicate (12 - l.length) 0
theorem pad12_len (l : List Nat) (h : l.length ≤ 12) : (pad12 l).length = 12 := by simp [pad12]; omega
theorem pad12_at (l : List Nat) (i : Nat) (h : i < l.length) : (pad12 l)[i]? = some l[i] := by
  unfold pad12
  rw [List.getElem?_append_left h, List.getElem?_eq_getElem h]
theorem pad12_push (l : List Nat) (x : Nat) (h : l.length < 12) : (pad12 l).set l.length x = pad12 (l ++ [x]) := by
  unfold pad12
  rw [List.set_append_right _ _ (Nat.le_refl _)]
  obtain ⟨m, hm⟩ : ∃ m, 12 - l.length = m + 1 := ⟨11 - l.length, by omega⟩
  rw [hm, Nat.sub_self, List.replicate_succ, List.set_cons_zero]
  have : 12 - (l ++ [x]).length = m := by simp; omega
  rw [this]
  simp
theorem pad12_zero (l : List Nat) (x : Nat) (h : l.length < 12) : (pad12 (l ++ [x])).set l.length 0 = pad12 l := by
  rw [← pad12_push l x h, List.set_set, pad12_push l 0 h]
  unfold pad12
  obtain ⟨m, hm⟩ : ∃ m, 12 - l.length = m + 1 := ⟨11 - l.length, by omega⟩
  have : 12 - (l ++ [0]).length = m := by simp; omega
  rw [hm, this, List.replicate_succ]
  simp
theorem pad12_turn (l : List Nat) (x y : Nat) (h : l.length < 12) : (pad12 (l ++ [x])).set l.length y = pad12 (l ++ [y]) := by
  rw [← pad12_push l x h, List.set_set, pad12_push l y h]
end Go.Proofs.YtfclmnglckikbaaGreatDoor

/- Texts that are read back: plain facts, no program in sight. -/
namespace Go.Proofs.YtfclmnglckikbaaGreatDoor
set_option linter.unusedVariables false

theorem dropWhile_none {α : Type} {p : α → Bool} {l : List α} (h : ∀ c ∈ l, p c = false) : l.dropWhile p = l := by
  cases l with
  | nil => rfl
  | cons a l => rw [List.dropWhile_cons_of_neg (by rw [h a (List.mem_cons_self)]; simp)]
/-- A text whose bytes are no blanks is not trimmed. -/
theorem trim_none {l : List UInt8} (h : ∀ c ∈ l, blankL.contains c = false) : Lib.trimS l blankL = l := by
  unfold Lib.trimS Lib.trimRightS Lib.trimLeftS
  rw [dropWhile_none (l := l.reverse) (by intro c hc; exact h c (List.mem_reverse.1 hc)), List.reverse_reverse, dropWhile_none h]
/-- Blanks around such a text are cut off. -/
theorem trim_around {a l b : List UInt8} (ha : ∀ c ∈ a, blankL.contains c = true) (hb : ∀ c ∈ b, blankL.contains c = true) (h : ∀ c ∈ l, blankL.contains c = false) : Lib.trimS (a ++ l ++ b) blankL = l := by
  have drop_all : ∀ (x y : List UInt8), (∀ c ∈ x, blankL.contains c = true) → (x ++ y).dropWhile (blankL.contains ·) = y.dropWhile (blankL.contains ·) := by
    intro x y hx
    induction x with
    | nil => rfl
    | cons c x ih =>
      rw [List.cons_append, List.dropWhile_cons_of_pos (hx c (List.mem_cons_self)), ih (fun d hd => hx d (List.mem_cons_of_mem _ hd))]
  unfold Lib.trimS Lib.trimRightS Lib.trimLeftS
  rw [List.reverse_append, drop_all _ _ (by intro c hc; exact hb c (List.mem_reverse.1 hc))]
  cases hl : l with
  | nil =>
    have e1 : ((a ++ []).reverse).dropWhile (blankL.contains ·) = [] := by
      have := drop_all a.reverse [] (by intro c hc; exact ha c (List.mem_reverse.1 hc))
      simpa using this
    rw [e1]; rfl
  | cons x xs =>
    have hne : l.reverse ≠ [] := by simp [hl]
    have h1 : ((a ++ l).reverse).dropWhile (blankL.contains ·) = (a ++ l).reverse := by
      rw [List.reverse_append]
      cases hr : l.reverse with
      | nil => exact absurd hr hne
      | cons y ys =>
        have hy : blankL.contains y = false := h y (by rw [← List.mem_reverse, hr]; exact List.mem_cons_self)
        rw [List.cons_append, List.dropWhile_cons_of_neg (by rw [hy]; simp)]
    rw [← hl, h1, List.reverse_reverse, drop_all a l ha, dropWhile_none h]

theorem digit_blank (c : UInt8) (h : dvN c.toNat < 16) : blankL.contains c = false := by
  have : ∀ c : Fin 256, dvN c.val < 16 → blankL.contains (UInt8.ofNat c.val) = false := by decide +kernel
  have := this ⟨c.toNat, UInt8.toNat_lt c⟩ h
  simpa using this
theorem digit_ne (c : UInt8) (h : dvN c.toNat < 16) : c ≠ 47 ∧ c ≠ 45 ∧ c ≠ 46 ∧ c ≠ 120 ∧ c ≠ 88 := by
  have : ∀ c : Fin 256, dvN c.val < 16 → UInt8.ofNat c.val ≠ 47 ∧ UInt8.ofNat c.val ≠ 45 ∧ UInt8.ofNat c.val ≠ 46 ∧ UInt8.ofNat c.val ≠ 120 ∧ UInt8.ofNat c.val ≠ 88 := by decide +kernel
  have := this ⟨c.toNat, UInt8.toNat_lt c⟩ h
  simpa using this

/-- Digits to the end. -/
theorem runL_all {l : List UInt8} {b i : Nat} (hi : i ≤ l.length) (h : ∀ c ∈ l.drop i, dvN c.toNat < b) : runL l b i = l.length := by
  have hp : ∀ m : List UInt8, (∀ c ∈ m, dvN c.toNat < b) → m.takeWhile (fun c => decide (dvN c.toNat < b)) = m := by
    intro m hm
    induction m with
    | nil => rfl
    | cons c m ih =>
      rw [List.takeWhile_cons_of_pos (by simpa using hm c (List.mem_cons_self)), ih (fun d hd => hm d (List.mem_cons_of_mem _ hd))]
  unfold runL
  rw [hp _ h, List.length_drop]
  omega
/-- Digits up to a byte that is none. -/
theorem runL_upto {a r : List UInt8} {c : UInt8} {b : Nat} (h : ∀ c ∈ a, dvN c.toNat < b) (hc : ¬ dvN c.toNat < b) : runL (a ++ c :: r) b 0 = a.length := by
  unfold runL
  rw [List.drop_zero, Nat.zero_add]
  induction a with
  | nil => rw [List.nil_append, List.takeWhile_cons_of_neg (by simpa using hc)]; try rfl
  | cons d a ih =>
    rw [List.cons_append, List.takeWhile_cons_of_pos (by simpa using h d (List.mem_cons_self)), List.length_cons, ih (fun e he => h e (List.mem_cons_of_mem _ he))]
    try rfl

theorem slice_all (l : List UInt8) : sliceL l 0 l.length = l := by simp [sliceL]

/-- A text of digits is a numeral. -/
theorem find_digits {l : List UInt8} (hne : l ≠ []) (h : ∀ c ∈ l, dvN c.toNat < 10) : findL l 0 = some ⟨false, -1, 0, l.length⟩ := by
  have hr : runL l 10 0 = l.length := runL_all (Nat.zero_le _) (by simpa using h)
  have hl : l.length ≠ 0 := fun e => hne (List.eq_nil_of_length_eq_zero e)
  unfold findL
  simp only []
  rw [hr, if_neg hl, if_neg (by omega), if_neg (by omega)]
theorem num_digits (l : List UInt8) : numT l ⟨false, -1, 0, l.length⟩ = ofNum (numL 10 l 0) 1 := by
  unfold numT
  rw [if_neg (by simp), if_pos (by simp)]
  show ofNum (numL 10 (sliceL l 0 l.length) 0) 1 = _
  rw [slice_all]
theorem uns_digits {l : List UInt8} (hne : l ≠ []) (h : ∀ c ∈ l, dvN c.toNat < 10) : unsL l = ofNum (numL 10 l 0) 1 := by
  rw [unsL_num (find_digits hne h) rfl, num_digits]

theorem head_none {l : List UInt8} {c : UInt8} (h : ∀ d ∈ l, d ≠ c) : ¬ l.head? = some c := by
  cases l with
  | nil => simp
  | cons a l => simp; exact h a (List.mem_cons_self)

/-- A text of digits, parsed. -/
theorem parse_digits {l : List UInt8} (hne : l ≠ []) (h : ∀ c ∈ l, dvN c.toNat < 10) : parseL l = minusT false (ofNum (numL 10 l 0) 1) := by
  have ht := trim_none (l := l) (fun c hc => digit_blank c (by have := h c hc; omega))
  unfold parseL
  rw [ht, if_neg (head_none fun d hd => (digit_ne d (by have := h d hd; omega)).2.1), uns_digits hne h]

theorem make_one (n : Nat) (h : n ≤ 2147483647) : makeT n 1 = ((n : Int), 1, 0) := by
  unfold makeT
  rw [if_neg (by omega), if_pos (by omega)]
  have h1 : redP n 1 = n := by rw [redP_eq _ _ (by omega)]; simp
  have h2 : redQ n 1 = 1 := by rw [redQ_eq _ _ (by omega)]; simp
  have hk : redOk n 1 = true := redOk_of (by omega) (by omega) (by omega)
  obtain ⟨a, b, c⟩ := r_ok hk
  unfold redT
  rw [a, b, c, h1, h2]

/-- A hexadecimal text, parsed. -/
theorem parse_hex (n : Nat) (h : n ≤ 2147483647) : parseL (48 :: 120 :: bDigits 16 n) = ((n : Int), 1, 0) := by
  have hd := bDigits_digits 16 (by omega) (by omega) n
  have hne := bDigits_ne 16 n
  have hnum := numL_bDigits 16 (by omega) (by omega) n (by omega)
  have ht := trim_none (l := 48 :: 120 :: bDigits 16 n) (by
    intro c hc
    rcases List.mem_cons.1 hc with rfl | hc
    · decide
    · rcases List.mem_cons.1 hc with rfl | hc
      · decide
      · exact digit_blank c (hd c hc))
  generalize bDigits 16 n = l at *
  have hl0 : 0 < l.length := List.length_pos_iff.2 hne
  have r1 : runL (48 :: 120 :: l) 10 0 = 1 := runL_upto (a := [48]) (c := 120) (r := l) (by decide) (by decide)
  have r2 : runL (48 :: 120 :: l) 16 2 = l.length + 2 := by
    rw [runL_all (by simp) (by simpa using hd)]; simp
  have hf : findL (48 :: 120 :: l) 0 = some ⟨true, -1, 2, l.length + 2⟩ := by
    unfold findL
    simp only []
    rw [r1, if_neg (by omega)]
    rw [show 1 + 1 = 2 from rfl, r2, if_pos ⟨by omega, rfl, by simp, .inl (by rfl), by omega⟩]
  unfold parseL
  rw [ht, if_neg (by simp), unsL_num hf (by simp)]
  unfold numT
  rw [if_pos rfl]
  have hs : sliceL (48 :: 120 :: l) 2 (l.length + 2) = l := by simp [sliceL]
  show minusT false (ofNum (numL 16 (sliceL (48 :: 120 :: l) 2 (l.length + 2)) 0) 1) = _
  rw [hs, hnum]
  show minusT false (makeT (n : Int) ((1 : Nat) : Int)) = _
  rw [show (((1 : Nat)) : Int) = 1 from rfl, make_one n h]
  rfl

theorem fix_whole (n : Int) : fixL n 1 0 = if vldB n 1 then (Lib.itoa n, 0) else ([], 2) := by
  unfold fixL
  cases vldB n 1
  · rfl
  · have e : fixT n.natAbs (1 : Int).toNat (0 : Int).toNat = (n.natAbs, []) := by
      show roundT 1 (n.natAbs / 1) (n.natAbs % 1) [] = _
      rw [Nat.div_one, Nat.mod_one]
      rfl
    rw [e, if_pos (by simp), if_pos rfl]
    have hd : decL (decide (n < 0)) (n.natAbs : Nat) [] = Lib.itoa n := by
      unfold decL bodyL zeroB
      rw [if_pos rfl, List.append_nil]
      by_cases h : n < 0
      · have h0 : ((n.natAbs : Int) == 0) = false := by simp; omega
        rw [h0, decide_eq_true h, if_pos (by simp)]
        unfold Lib.itoa
        rw [if_pos h, if_neg (by omega), Int.toNat_natCast]
      · rw [decide_eq_false h, if_neg (by simp)]
        have : ((n.natAbs : Nat) : Int) = n := by omega
        rw [this]
    rw [hd]
theorem vld_int (n : Int) (h1 : -2147483647 ≤ n) (h2 : n ≤ 2147483647) : vldB n 1 = true := by
  unfold vldB
  simp; omega
end Go.Proofs.YtfclmnglckikbaaGreatDoor

/- Scan and Parse agree; what Scan reads does not depend on what precedes it: plain facts, no program in sight. -/
namespace Go.Proofs.YtfclmnglckikbaaGreatDoor
set_option linter.unusedVariables false

def shiftF (k : Nat) (f : Find) : Find := ⟨f.hex, if f.point < 0 then f.point else f.point + k, f.from_ + k, f.end_ + k⟩

theorem drop_shift (x l : List UInt8) (i : Nat) : (x ++ l).drop (i + x.length) = l.drop i := by
  rw [Nat.add_comm, ← List.drop_drop, List.drop_left]
theorem runL_shift (x l : List UInt8) (b i : Nat) : runL (x ++ l) b (i + x.length) = runL l b i + x.length := by
  unfold runL
  rw [drop_shift]; omega
theorem bat_shift (x l : List UInt8) (i : Nat) : bat (x ++ l) (i + x.length) = bat l i := by
  unfold bat
  rw [List.getD, List.getD, List.getElem?_append_right (by omega), Nat.add_sub_cancel]
theorem slice_shift (x l : List UInt8) (a b : Nat) : sliceL (x ++ l) (a + x.length) (b + x.length) = sliceL l a b := by
  unfold sliceL
  rw [drop_shift]
  congr 1; omega

theorem find_shift (x l : List UInt8) (i : Nat) : findL (x ++ l) (i + x.length) = (findL l i).map (shiftF x.length) := by
  have e1 := runL_shift x l 10 i
  have e2 := runL_shift x l 16 (runL l 10 i + 1)
  have e3 := runL_shift x l 10 (runL l 10 i + 1)
  have e4 := bat_shift x l i
  have e5 := bat_shift x l (runL l 10 i)
  unfold findL
  simp only []
  rw [e1]
  generalize runL l 10 i = e at *
  have c1 : e + x.length + 1 = e + 1 + x.length := by omega
  rw [c1, e2, e3, e4, e5]
  have hl : (x ++ l).length = l.length + x.length := by simp; omega
  rw [hl]
  by_cases h1 : e = i
  · rw [if_pos h1, if_pos (by omega)]; rfl
  · rw [if_neg h1, if_neg (by omega)]
    by_cases h2 : e = i + 1 ∧ bat l i = 48 ∧ e < l.length ∧ (bat l e = 120 ∨ bat l e = 88) ∧ e + 1 < runL l 16 (e + 1)
    · rw [if_pos h2, if_pos (by omega)]; simp [shiftF]
    · rw [if_neg h2, if_neg (by omega)]
      by_cases h3 : e < l.length ∧ bat l e = 46 ∧ e + 1 < runL l 10 (e + 1)
      · rw [if_pos h3, if_pos (by omega)]
        simp only [Option.map_some, shiftF]
        rw [if_neg (by omega)]
        simp
      · rw [if_neg h3, if_neg (by omega)]; simp [shiftF]

theorem num_shift (x l : List UInt8) (f : Find) : numT (x ++ l) (shiftF x.length f) = numT l f := by
  unfold numT shiftF
  simp only []
  rw [slice_shift]
  by_cases h : f.point < 0
  · rw [if_pos h, if_pos h, if_pos h]
  · have hn : ¬ f.point + (x.length : Int) < 0 := by omega
    rw [if_neg h, if_neg hn, if_neg h]
    have e : (f.point + (x.length : Int)).toNat = f.point.toNat + x.length := by omega
    have e2 : f.point.toNat + x.length + 1 = f.point.toNat + 1 + x.length := by omega
    have e3 : f.end_ + x.length - (f.point.toNat + 1 + x.length) = f.end_ - (f.point.toNat + 1) := by omega
    rw [e, e2, e3, slice_shift, slice_shift]

/-- What Scan answers behind another text. -/
theorem scan_shift (x l : List UInt8) : scanL (x ++ l) x.length = ((scanL l 0).1, (scanL l 0).2.1, if (scanL l 0).2.2.2 = 0 then (scanL l 0).2.2.1 + x.length else (scanL l 0).2.2.1, (scanL l 0).2.2.2) := by
  have hf := find_shift x l 0
  rw [Nat.zero_add] at hf
  unfold scanL
  rw [if_neg (by simp; omega), if_neg (by simp), Int.toNat_natCast, hf]
  show _ = ((match findL l 0 with | none => ((0 : Int), (0 : Int), (0 : Int), (4 : Int)) | some f => let t := numT l f; if t.2.2 = 0 then (t.1, t.2.1, (f.end_ : Int), 0) else (0, 0, 0, t.2.2)).1, _)
  cases hk : findL l 0 with
  | none => simp [hk]
  | some f =>
    simp only [Option.map_some, num_shift, hk, Int.toNat_zero]
    by_cases h : (numT l f).2.2 = 0
    · simp [h, shiftF]
    · simp [h]
theorem scan_err (l : List UInt8) : (scanL l 0).2.2.2 ≠ 0 → scanL l 0 = (0, 0, 0, (scanL l 0).2.2.2) := by
  unfold scanL
  rw [if_neg (by simp)]
  cases findL l (0 : Int).toNat with
  | none => intro _; rfl
  | some f =>
    simp only []
    split
    · intro h; exact absurd rfl h
    · intro _; rfl

theorem kind_end {l : List UInt8} {i : Nat} {f : Find} (h : Kind l i f) : f.end_ ≤ l.length := by
  cases h <;> simp only [] <;> omega
theorem scan_bd (l : List UInt8) : 0 ≤ (scanL l 0).2.2.1 ∧ (scanL l 0).2.2.1 ≤ l.length := by
  unfold scanL
  rw [if_neg (by simp), Int.toNat_zero]
  cases hk : findL l 0 with
  | none => simp
  | some f =>
    have := kind_end (find_kind (Nat.zero_le _) hk)
    simp only []
    split
    · simp only []; omega
    · simp

/-- A byte of a numeral. -/
def numByte (c : UInt8) : Prop := dvN c.toNat < 16 ∨ c = 46 ∨ c = 120 ∨ c = 88
theorem numByte_blank {c : UInt8} (h : numByte c) : blankL.contains c = false ∧ c ≠ 45 := by
  rcases h with h | rfl | rfl | rfl
  · exact ⟨digit_blank c h, (digit_ne c h).2.1⟩
  · exact ⟨by decide, by decide⟩
  · exact ⟨by decide, by decide⟩
  · exact ⟨by decide, by decide⟩
theorem mem_parts {l : List UInt8} {c : UInt8} (hc : c ∈ l) (d : Nat) : c ∈ l.take d ∨ c ∈ l.drop d := by
  rw [← List.take_append_drop d l] at hc
  exact List.mem_append.1 hc
theorem bat_mem {l : List UInt8} {d : Nat} (h : d < l.length) : ∃ c : UInt8, l.drop d = c :: l.drop (d + 1) ∧ c.toNat = bat l d := by
  refine ⟨l[d], List.drop_eq_getElem_cons h, ?_⟩
  unfold bat
  simp [List.getD, h]
theorem byte_of {c d : UInt8} (h : c.toNat = d.toNat) : c = d := UInt8.toNat_inj.1 h
theorem whole_bytes {l : List UInt8} {f : Find} (hk : Kind l 0 f) (he : f.end_ = l.length) : ∀ c ∈ l, numByte c := by
  cases hk with
  | whole q h1 h2 h3 =>
    simp only [] at he
    subst he
    intro c hc
    rw [slice_all] at h3
    exact .inl (by have := h3 c hc; omega)
  | hex q h1 h2 h3 h4 h5 =>
    simp only [] at he
    subst he
    intro c hc
    obtain ⟨c0, e0, b0⟩ := bat_mem (l := l) (d := 0) (by omega)
    obtain ⟨c1, e1, b1⟩ := bat_mem (l := l) (d := 1) (by omega)
    rw [List.drop_zero, Nat.zero_add] at e0
    rw [e0, e1] at hc
    rcases List.mem_cons.1 hc with rfl | hc
    · left; rw [b0, h3]; decide
    · rcases List.mem_cons.1 hc with rfl | hc
      · right; right
        rw [Nat.zero_add] at h4
        rcases h4 with h4 | h4
        · left; exact byte_of (b1.trans h4)
        · right; exact byte_of (b1.trans h4)
      · left
        refine h5 c ?_
        unfold sliceL
        rw [List.take_of_length_le (by simp)]
        exact hc
  | point d q h1 h2 h3 h4 h5 h6 =>
    simp only [] at he
    subst he
    intro c hc
    rcases mem_parts hc d with hc | hc
    · left
      have := h5 c (by unfold sliceL; simpa using hc)
      omega
    · obtain ⟨c0, e0, b0⟩ := bat_mem (l := l) (d := d) (by omega)
      rw [e0] at hc
      rcases List.mem_cons.1 hc with rfl | hc
      · right; left; exact byte_of (b0.trans h4)
      · left
        have := h6 c (by unfold sliceL; rw [List.take_of_length_le (by simp)]; exact hc)
        omega

/-- A text that is one numeral: Parse answers what Scan does. -/
theorem parse_scan {l : List UInt8} (h0 : (scanL l 0).2.2.2 = 0) (hl : (scanL l 0).2.2.1 = l.length) : parseL l = ((scanL l 0).1, (scanL l 0).2.1, 0) := by
  unfold scanL at h0 hl ⊢
  rw [if_neg (by simp)] at h0 hl ⊢
  rw [Int.toNat_zero] at h0 hl ⊢
  cases hk : findL l 0 with
  | none => rw [hk] at h0; cases h0
  | some f =>
    rw [hk] at h0 hl
    simp only [] at h0 hl ⊢
    by_cases ht : (numT l f).2.2 = 0
    · rw [if_pos ht] at hl ⊢
      have hend : f.end_ = l.length := by simp only [] at hl; omega
      have hb := whole_bytes (find_kind (Nat.zero_le _) hk) hend
      unfold parseL
      rw [trim_none (fun c hc => (numByte_blank (hb c hc)).1), if_neg (head_none fun d hd => (numByte_blank (hb d hd)).2), unsL_num hk hend]
      unfold minusT
      rw [if_pos ht]
      rfl
    · rw [if_neg ht] at h0; exact absurd h0 ht
end Go.Proofs.YtfclmnglckikbaaGreatDoor

/- The text of a number is parsed to it: plain facts, no program in sight. -/
namespace Go.Proofs.YtfclmnglckikbaaGreatDoor
set_option linter.unusedVariables false

/-- The text of a number. -/
def txtL (p q : Int) : List UInt8 := if q = 1 then Lib.itoa p else Lib.itoa p ++ 47 :: Lib.itoa q

theorem dec_digits (u : Nat) : (∀ c ∈ Lib.decDigits u, dvN c.toNat < 10) ∧ Lib.decDigits u ≠ [] := by
  have e : Lib.decDigits u = bDigits 10 u := by
    induction u using Nat.strongRecOn with
    | ind u ih =>
      rw [Lib.decDigits]
      split
      · rename_i h; rw [bDigits_small h]; unfold nameN; rw [if_pos h]
      · rename_i h
        rw [bDigits_big (by omega) h, ih (u / 10) (by omega)]
        unfold nameN
        rw [if_pos (by omega)]
  rw [e]
  exact ⟨bDigits_digits 10 (by omega) (by omega) u, bDigits_ne 10 u⟩
theorem dec_num (u : Nat) (h : u ≤ 4611686018427387904) : numL 10 (Lib.decDigits u) 0 = some u := by
  have e : Lib.decDigits u = bDigits 10 u := by
    clear h
    induction u using Nat.strongRecOn with
    | ind u ih =>
      rw [Lib.decDigits]
      split
      · rename_i h; rw [bDigits_small h]; unfold nameN; rw [if_pos h]
      · rename_i h
        rw [bDigits_big (by omega) h, ih (u / 10) (by omega)]
        unfold nameN
        rw [if_pos (by omega)]
  rw [e]
  exact numL_bDigits 10 (by omega) (by omega) u h

theorem make_vld {p q : Int} (h : vldB p q = true) : makeT p q = (p, q, 0) := by
  obtain ⟨b1, b2, b3, b4⟩ := vld_bd h
  have hg := vld_gcd h
  unfold makeT
  rw [if_neg (by omega), if_pos (by omega)]
  have h1 : redP p q = p := by rw [redP_eq _ _ (by omega), hg]; simp
  have h2 : redQ p q = q := by rw [redQ_eq _ _ (by omega), hg]; simp
  have hk : redOk p q = true := redOk_of (by omega) (by omega) (by omega)
  obtain ⟨a, b, c⟩ := r_ok hk
  unfold redT
  rw [a, b, c, h1, h2]

theorem index_at {a r : List UInt8} {c : UInt8} (h : ∀ d ∈ a, d ≠ c) : Lib.indexByte (a ++ c :: r) c = a.length := by
  induction a with
  | nil => simp [Lib.indexByte]
  | cons d a ih =>
    have hd := h d (List.mem_cons_self)
    have hi := ih (fun e he => h e (List.mem_cons_of_mem _ he))
    rw [List.cons_append, Lib.indexByte, if_neg (by simpa using hd), hi, if_neg (by simp <;> omega)]
    simp

/-- Digits, a slash, digits. -/
theorem uns_frac {a b : List UInt8} (ha : ∀ c ∈ a, dvN c.toNat < 10) (ha0 : a ≠ []) (hb : ∀ c ∈ b, dvN c.toNat < 10) (hb0 : b ≠ []) : unsL (a ++ 47 :: b) = fracT a b := by
  have hr : runL (a ++ 47 :: b) 10 0 = a.length := runL_upto ha (by decide)
  have hl : 0 < a.length := List.length_pos_iff.2 ha0
  have hat : bat (a ++ 47 :: b) a.length = 47 := by unfold bat; simp [List.getD]
  have hf : findL (a ++ 47 :: b) 0 = some ⟨false, -1, 0, a.length⟩ := by
    unfold findL
    simp only []
    rw [hr, hat, if_neg (by omega), if_neg (by omega), if_neg (by omega)]
  rw [unsL_far hf (by simp)]
  unfold fracL
  have hi := index_at (a := a) (r := b) (c := 47) (fun d hd => (digit_ne d (by have := ha d hd; omega)).1)
  rw [hi, if_neg (by omega), Int.toNat_natCast]
  simp

theorem frac_digits {a b : List UInt8} (ha : ∀ c ∈ a, dvN c.toNat < 10) (ha0 : a ≠ []) (hb : ∀ c ∈ b, dvN c.toNat < 10) (hb0 : b ≠ []) (m n : Nat) (hm : numL 10 a 0 = some m) (hn : numL 10 b 0 = some n) (h0 : n ≠ 0) : fracT a b = makeT m n := by
  unfold fracT
  rw [if_pos ⟨ha0, hb0, runL_all (Nat.zero_le _) (by simpa using ha), runL_all (Nat.zero_le _) (by simpa using hb)⟩, hm, hn]
  simp only []
  rw [if_neg h0]

/-- What stands behind the sign. -/
def absL (p q : Int) : List UInt8 := if q = 1 then Lib.decDigits p.natAbs else Lib.decDigits p.natAbs ++ 47 :: Lib.decDigits q.toNat
theorem txt_abs {p q : Int} (hq : 1 ≤ q) : txtL p q = if p < 0 then 45 :: absL p q else absL p q := by
  have hi : Lib.itoa q = Lib.decDigits q.toNat := by unfold Lib.itoa; rw [if_neg (by omega)]
  have hp : Lib.itoa p = if p < 0 then 45 :: Lib.decDigits p.natAbs else Lib.decDigits p.natAbs := by
    unfold Lib.itoa
    by_cases h : p < 0
    · rw [if_pos h, if_pos h]
    · rw [if_neg h, if_neg h]
      congr 1; omega
  unfold txtL absL
  rw [hi, hp]
  by_cases h : p < 0
  · rw [if_pos h, if_pos h]; split <;> simp
  · rw [if_neg h, if_neg h]
theorem abs_bytes (p q : Int) : (∀ c ∈ absL p q, dvN c.toNat < 10 ∨ c = 47) ∧ absL p q ≠ [] ∧ ¬ (absL p q).head? = some 45 := by
  have h1 := dec_digits p.natAbs
  have h2 := dec_digits q.toNat
  have hh : ∀ l : List UInt8, ¬ (Lib.decDigits p.natAbs ++ l).head? = some 45 := by
    intro l
    cases hd : Lib.decDigits p.natAbs with
    | nil => exact absurd hd h1.2
    | cons c r =>
      have hc := h1.1 c (by rw [hd]; exact List.mem_cons_self)
      have := (digit_ne c (by omega)).2.1
      simpa using this
  unfold absL
  split
  · refine ⟨fun c hc => .inl (h1.1 c hc), h1.2, ?_⟩
    have := hh []
    simpa using this
  · refine ⟨fun c hc => ?_, by simp, hh _⟩
    rcases List.mem_append.1 hc with hc | hc
    · exact .inl (h1.1 c hc)
    · rcases List.mem_cons.1 hc with rfl | hc
      · exact .inr rfl
      · exact .inl (h2.1 c hc)
theorem uns_abs {p q : Int} (h : vldB p q = true) : unsL (absL p q) = ((p.natAbs : Int), q, 0) := by
  obtain ⟨b1, b2, b3, b4⟩ := vld_bd h
  have hv : vldB p.natAbs q = true := by
    unfold vldB at h ⊢
    simp only [Bool.and_eq_true, decide_eq_true_eq, beq_iff_eq] at h ⊢
    refine ⟨h.1, h.2.1, by omega, by omega, ?_⟩
    have e : Int.gcd ((p.natAbs : Nat) : Int) q = Int.gcd p q := by unfold Int.gcd; simp
    rw [e]; exact h.2.2.2.2
  have h1 := dec_digits p.natAbs
  have h2 := dec_digits q.toNat
  have n1 := dec_num p.natAbs (by omega)
  have n2 := dec_num q.toNat (by omega)
  unfold absL
  by_cases hq : q = 1
  · subst hq
    rw [if_pos rfl, uns_digits h1.2 h1.1, n1]
    show makeT (p.natAbs : Int) ((1 : Nat) : Int) = _
    exact make_vld hv
  · rw [if_neg hq, uns_frac h1.1 h1.2 h2.1 h2.2, frac_digits h1.1 h1.2 h2.1 h2.2 _ _ n1 n2 (by omega)]
    have : ((q.toNat : Nat) : Int) = q := by omega
    rw [this]
    exact make_vld hv
theorem blank_of {c : UInt8} (h : dvN c.toNat < 10 ∨ c = 47) : blankL.contains c = false := by
  rcases h with h | rfl
  · exact digit_blank c (by omega)
  · decide

theorem parse_text {p q : Int} (h : vldB p q = true) : parseL (9 :: txtL p q ++ [32, 10]) = (p, q, 0) := by
  obtain ⟨b1, b2, b3, b4⟩ := vld_bd h
  obtain ⟨a1, a2, a3⟩ := abs_bytes p q
  have hu := uns_abs h
  have ht : ∀ l : List UInt8, (∀ c ∈ l, blankL.contains c = false) → Lib.trimS (9 :: l ++ [32, 10]) blankL = l := by
    intro l hl
    have := trim_around (a := [9]) (l := l) (b := [32, 10]) (by decide) (by decide) hl
    exact this
  rw [txt_abs b1]
  unfold parseL
  by_cases hp : p < 0
  · rw [if_pos hp, ht (45 :: absL p q) (by
      intro c hc
      rcases List.mem_cons.1 hc with rfl | hc
      · decide
      · exact blank_of (a1 c hc)), if_pos (by rfl)]
    show minusT true (unsL (absL p q)) = _
    rw [hu]
    show (-(p.natAbs : Int), q, (0 : Int)) = _
    congr 1; omega
  · rw [if_neg hp, ht (absL p q) (fun c hc => blank_of (a1 c hc)), if_neg a3, hu]
    show ((p.natAbs : Int), q, (0 : Int)) = _
    congr 1; omega
theorem parse_minus {p q : Int} (h : vldB p q = true) (hp : ¬ p < 0) : parseL (45 :: txtL p q) = (-p, q, 0) := by
  obtain ⟨b1, b2, b3, b4⟩ := vld_bd h
  obtain ⟨a1, a2, a3⟩ := abs_bytes p q
  have hu := uns_abs h
  rw [txt_abs b1, if_neg hp]
  unfold parseL
  rw [trim_none (by
    intro c hc
    rcases List.mem_cons.1 hc with rfl | hc
    · decide
    · exact blank_of (a1 c hc)), if_pos (by rfl)]
  show minusT true (unsL (absL p q)) = _
  rw [hu]
  show (-(p.natAbs : Int), q, (0 : Int)) = _
  congr 1; omega
end Go.Proofs.YtfclmnglckikbaaGreatDoor

/- The reference's Trim and unsigned, in plain Lean. -/
namespace Go.Proofs.YtfclmnglckikbaaGreatDoor
set_option linter.unusedVariables false

theorem dropWhile_app {x y : List UInt8} (hx : ∀ c ∈ x, blankL.contains c = true) : (x ++ y).dropWhile (blankL.contains ·) = y.dropWhile (blankL.contains ·) := by
  induction x with
  | nil => rfl
  | cons c x ih =>
    rw [List.cons_append, List.dropWhile_cons_of_pos (hx c (List.mem_cons_self)), ih (fun d hd => hx d (List.mem_cons_of_mem _ hd))]
theorem dropWhile_head {l : List UInt8} (h : ∀ c, l.head? = some c → blankL.contains c = false) : l.dropWhile (blankL.contains ·) = l := by
  cases l with
  | nil => rfl
  | cons a l => rw [List.dropWhile_cons_of_neg (by rw [h a rfl]; simp)]
/-- Blanks at both ends; what stands between begins and ends with none. -/
theorem trim_core {a m b : List UInt8} (ha : ∀ c ∈ a, blankL.contains c = true) (hb : ∀ c ∈ b, blankL.contains c = true) (h1 : ∀ c, m.head? = some c → blankL.contains c = false) (h2 : ∀ c, m.getLast? = some c → blankL.contains c = false) : Lib.trimS (a ++ m ++ b) blankL = m := by
  unfold Lib.trimS Lib.trimRightS Lib.trimLeftS
  rw [List.reverse_append, dropWhile_app (x := b.reverse) (by intro c hc; exact hb c (List.mem_reverse.1 hc)), List.reverse_append]
  cases hm : m with
  | nil =>
    have := dropWhile_app (x := a.reverse) (y := []) (by intro c hc; exact ha c (List.mem_reverse.1 hc))
    simp only [List.append_nil] at this
    rw [List.reverse_nil, List.nil_append, this]; rfl
  | cons x xs =>
    have hne : m.reverse ≠ [] := by simp [hm]
    have h3 : (m.reverse ++ a.reverse).dropWhile (blankL.contains ·) = m.reverse ++ a.reverse := by
      apply dropWhile_head
      intro c hc
      refine h2 c ?_
      rw [← List.head?_reverse]
      cases hr : m.reverse with
      | nil => exact absurd hr hne
      | cons y ys => rw [hr] at hc; simpa using hc
    rw [← hm, h3, List.reverse_append, List.reverse_reverse, List.reverse_reverse, dropWhile_app ha, dropWhile_head h1]
theorem trim_slice {l : List UInt8} {i j : Nat} (hij : i ≤ j) (hj : j ≤ l.length) (ha : ∀ k, (h : k < i) → blankL.contains (l[k]'(by omega)) = true) (hb : ∀ k, j ≤ k → (h : k < l.length) → blankL.contains (l[k]) = true)
    (h1 : (h : i < j) → blankL.contains (l[i]'(by omega)) = false) (h2 : (h : i < j) → blankL.contains (l[j - 1]'(by omega)) = false) : Lib.trimS l blankL = sliceL l i j := by
  have e : l = l.take i ++ sliceL l i j ++ l.drop j := by
    unfold sliceL
    have e1 : l.drop j = (l.drop i).drop (j - i) := by rw [List.drop_drop]; congr 1; omega
    rw [e1, List.append_assoc, List.take_append_drop, List.take_append_drop]
  have hlen : (sliceL l i j).length = j - i := by unfold sliceL; simp; omega
  have := trim_core (a := l.take i) (m := sliceL l i j) (b := l.drop j) ?_ ?_ ?_ ?_
  · rw [← e] at this; exact this
  · intro c hc
    obtain ⟨k, hk, rfl⟩ := List.getElem_of_mem hc
    rw [List.getElem_take]
    exact ha k (by simp at hk; omega)
  · intro c hc
    obtain ⟨k, hk, rfl⟩ := List.getElem_of_mem hc
    rw [List.getElem_drop]
    exact hb (j + k) (by omega) (by simp at hk; omega)
  · intro c hc
    rw [List.head?_eq_getElem?] at hc
    have hlt : i < j := by
      rcases Nat.lt_or_ge i j with h | h
      · exact h
      · rw [List.getElem?_eq_none (by omega)] at hc; cases hc
    have e2 : (sliceL l i j)[0]? = some (l[i]'(by omega)) := by
      unfold sliceL
      rw [List.getElem?_take, if_pos (by omega), List.getElem?_drop, Nat.add_zero, List.getElem?_eq_getElem (by omega)]
    rw [e2] at hc
    cases hc
    exact h1 hlt
  · intro c hc
    rw [List.getLast?_eq_getElem?, hlen] at hc
    have hlt : i < j := by
      rcases Nat.lt_or_ge i j with h | h
      · exact h
      · rw [List.getElem?_eq_none (by omega)] at hc; cases hc
    have e2 : (sliceL l i j)[j - i - 1]? = some (l[j - 1]'(by omega)) := by
      unfold sliceL
      rw [List.getElem?_take, if_pos (by omega), List.getElem?_drop, List.getElem?_eq_getElem (by omega)]
      congr 2; omega
    rw [e2] at hc
    cases hc
    exact h2 hlt

/-- No slash: no fraction. -/
theorem frac_none {l : List UInt8} (h : Lib.indexByte l 47 = -1) : fracL l = (0, 0, 4) := by unfold fracL; rw [if_pos h]
/-- A slash: no numeral fills the text. -/
theorem uns_slash {l : List UInt8} {k : Nat} (h : Lib.indexByte l 47 = k) : unsL l = fracL l := by
  cases hf : findL l 0 with
  | none => exact unsL_none hf
  | some f =>
    refine unsL_far hf fun he => ?_
    have hb := whole_bytes (find_kind (Nat.zero_le _) hf) he
    have hm := (Lib.indexByte_some h).1
    have := hb 47 (List.mem_of_getElem? hm)
    unfold numByte at this
    revert this
    decide
end Go.Proofs.YtfclmnglckikbaaGreatDoor
