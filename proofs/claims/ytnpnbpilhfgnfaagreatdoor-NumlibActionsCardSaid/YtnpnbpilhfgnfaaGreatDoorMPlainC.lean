/- Plain facts on decimals with places: no program in sight. -/
import Derived.Test.YtnpnbpilhfgnfaaGreatDoorMPlainA
import Derived.Lib.ItoaNum
namespace Go.Proofs.YtnpnbpilhfgnfaaGreatDoor
set_option linter.unusedVariables false

/-- A decimal digit's name. -/
def digC (d : Nat) : UInt8 := UInt8.ofNat (48 + d)
theorem digC_nat (d : Nat) (h : d < 10) : (digC d).toNat = 48 + d := by unfold digC; simp; omega

/-- The text of a whole number with places, without a sign. -/
def bodyL (whole : Int) (ds : List Nat) : List UInt8 := Lib.itoa whole ++ (if ds = [] then [] else 46 :: ds.map digC)
/-- Whether a whole number with places is zero. -/
def zeroB (whole : Int) (ds : List Nat) : Bool := (whole == 0) && ds.all fun d => d == 0
/-- The text with its sign. -/
def decL (m : Bool) (whole : Int) (ds : List Nat) : List UInt8 := if m && !zeroB whole ds then 45 :: bodyL whole ds else bodyL whole ds

theorem bodyL_first (whole : Int) (ds : List Nat) (h : 0 < ds.length) : bodyL whole (ds.take 1) = (bodyL whole (ds.take 0) ++ [(46 : UInt8)]) ++ [digC (ds[0])] := by
  cases ds with
  | nil => simp at h
  | cons d ds => simp [bodyL]
theorem bodyL_next (whole : Int) (ds : List Nat) (k : Nat) (hk : 0 < k) (h : k < ds.length) : bodyL whole (ds.take (k + 1)) = bodyL whole (ds.take k) ++ [digC (ds[k])] := by
  have h1 : ds.take (k + 1) = ds.take k ++ [ds[k]] := by rw [List.take_succ_eq_append_getElem h]
  have h2 : ds.take k ≠ [] := by
    intro e
    have := congrArg List.length e
    rw [List.length_take, List.length_nil] at this
    omega
  unfold bodyL
  rw [h1]
  generalize ds.take k = m at *
  rw [if_neg h2, if_neg (by simp)]
  simp
theorem zeroB_next (whole : Int) (ds : List Nat) (k : Nat) (h : k < ds.length) : zeroB whole (ds.take (k + 1)) = (zeroB whole (ds.take k) && (ds[k] == 0)) := by
  have h1 : ds.take (k + 1) = ds.take k ++ [ds[k]] := by rw [List.take_succ_eq_append_getElem h]
  unfold zeroB
  rw [h1, List.all_append]
  simp [Bool.and_assoc]
theorem bodyL_len (whole : Int) (ds : List Nat) : (bodyL whole ds).length ≤ (Lib.itoa whole).length + 1 + ds.length := by
  unfold bodyL; split <;> simp <;> omega
theorem itoa_ne (n : Int) : Lib.itoa n ≠ [] := by
  unfold Lib.itoa
  split
  · simp
  · rw [Lib.decDigits]; split <;> simp
theorem bodyL_ne (whole : Int) (ds : List Nat) : bodyL whole ds ≠ [] := by
  unfold bodyL
  intro h
  exact itoa_ne whole (List.append_eq_nil_iff.1 h).1
end Go.Proofs.YtnpnbpilhfgnfaaGreatDoor

/- Plain facts on rounding: no program in sight. -/
namespace Go.Proofs.YtnpnbpilhfgnfaaGreatDoor
set_option linter.unusedVariables false

/-- What is left behind k places. -/
def leftN (q r : Nat) : Nat → Nat
  | 0 => r
  | k + 1 => leftN q r k * 10 % q
/-- The first k places. -/
def digsN (q r k : Nat) : List Nat := (List.range k).map fun i => leftN q r i * 10 / q

theorem digsN_len (q r k : Nat) : (digsN q r k).length = k := by simp [digsN]
theorem digsN_succ (q r k : Nat) : digsN q r (k + 1) = digsN q r k ++ [leftN q r k * 10 / q] := by simp [digsN, List.range_succ]
theorem leftN_lt (q r : Nat) (hq : 0 < q) (hr : r < q) : ∀ k, leftN q r k < q
  | 0 => hr
  | k + 1 => Nat.mod_lt _ hq
theorem dig_lt (q l : Nat) (hl : l < q) : l * 10 / q < 10 := by
  rw [Nat.div_lt_iff_lt_mul (by omega)]; omega
theorem digsN_lt (q r : Nat) (hq : 0 < q) (hr : r < q) (k : Nat) : ∀ d ∈ digsN q r k, d < 10 := by
  intro d hd
  simp only [digsN, List.mem_map] at hd
  obtain ⟨i, _, rfl⟩ := hd
  exact dig_lt q _ (leftN_lt q r hq hr i)

/-- One more at the last place; whether a one is carried out ahead. -/
def incL : List Nat → List Nat × Bool
  | [] => ([], true)
  | d :: ds => if (incL ds).2 then (if d = 9 then (0 :: (incL ds).1, true) else ((d + 1) :: (incL ds).1, false)) else (d :: (incL ds).1, false)

theorem incL_snoc9 : ∀ l : List Nat, incL (l ++ [9]) = ((incL l).1 ++ [0], (incL l).2)
  | [] => rfl
  | d :: l => by
    simp only [List.cons_append, incL, incL_snoc9 l]
    cases (incL l).2 <;> simp
    split <;> simp
theorem incL_snoc {d : Nat} (h : d ≠ 9) : ∀ l : List Nat, incL (l ++ [d]) = (l ++ [d + 1], false)
  | [] => by simp [incL, h]
  | e :: l => by simp only [List.cons_append, incL, incL_snoc h l]; simp
theorem incL_len : ∀ l : List Nat, (incL l).1.length = l.length
  | [] => rfl
  | d :: l => by simp only [incL]; split <;> (try split) <;> simp [incL_len l]
theorem incL_lt : ∀ l : List Nat, (∀ d ∈ l, d < 10) → ∀ d ∈ (incL l).1, d < 10
  | [], _, d, h => by simp [incL] at h
  | a :: l, hl, d, h => by
    have ha := hl a (List.mem_cons_self)
    have ih := incL_lt l (fun d hd => hl d (List.mem_cons_of_mem _ hd))
    simp only [incL] at h
    split at h
    · split at h
      · rcases List.mem_cons.1 h with rfl | h
        · omega
        · exact ih d h
      · rcases List.mem_cons.1 h with rfl | h
        · omega
        · exact ih d h
    · rcases List.mem_cons.1 h with rfl | h
      · exact ha
      · exact ih d h

/-- The last place, or the whole number where there is none: what decides a tie. -/
def tieN (whole : Nat) (ds : List Nat) : Nat := match ds.getLast? with | some d => d % 2 | none => whole % 2
def upB (q whole l : Nat) (ds : List Nat) : Bool := decide (q < 2 * l) || (2 * l == q && tieN whole ds == 1)
/-- The whole number and its places, rounded. -/
def roundT (q whole l : Nat) (ds : List Nat) : Nat × List Nat :=
  if upB q whole l ds then (if (incL ds).2 then whole + 1 else whole, (incL ds).1) else (whole, ds)
def fixT (p q n : Nat) : Nat × List Nat := roundT q (p / q) (leftN q (p % q) n) (digsN q (p % q) n)
/-- What Fixed answers: a text, an error. -/
def fixL (p q n : Int) : List UInt8 × Int :=
  if vldB p q && (decide (0 ≤ n) && decide (n ≤ 12)) then (decL (decide (p < 0)) (fixT p.natAbs q.toNat n.toNat).1 (fixT p.natAbs q.toNat n.toNat).2, 0) else ([], 2)

/-- Places padded with zeros to twelve. -/
def pad12 (l : List Nat) : List Nat := l ++ List.replicate (12 - l.length) 0
theorem pad12_len (l : List Nat) (h : l.length ≤ 12) : (pad12 l).length = 12 := by simp [pad12]; omega
theorem pad12_at (l : List Nat) (i : Nat) (h : i < l.length) : (pad12 l)[i]? = some l[i] := by
  unfold pad12
  rw [List.getElem?_append_left h, List.getElem?_eq_getElem h]
theorem pad12_push (l : List Nat) (x : Nat) (h : l.length < 12) : (pad12 l).set l.length x = pad12 (l ++ [x]) := by
  unfold pad12
  rw [List.set_append_right _ _ (Nat.le_refl _)]
  obtain ⟨m, hm⟩ : ∃ m, 12 - l.length = m + 1 := ⟨11 - l.length, by omega⟩
  rw [hm, Nat.sub_self, List.replicate_succ, List.set_cons_zero]
  have : 12 - (l ++ [x]).length = m := by simp; omega
  rw [this]
  simp
theorem pad12_zero (l : List Nat) (x : Nat) (h : l.length < 12) : (pad12 (l ++ [x])).set l.length 0 = pad12 l := by
  rw [← pad12_push l x h, List.set_set, pad12_push l 0 h]
  unfold pad12
  obtain ⟨m, hm⟩ : ∃ m, 12 - l.length = m + 1 := ⟨11 - l.length, by omega⟩
  have : 12 - (l ++ [0]).length = m := by simp; omega
  rw [hm, this, List.replicate_succ]
  simp
theorem pad12_turn (l : List Nat) (x y : Nat) (h : l.length < 12) : (pad12 (l ++ [x])).set l.length y = pad12 (l ++ [y]) := by
  rw [← pad12_push l x h, List.set_set, pad12_push l y h]
end Go.Proofs.YtnpnbpilhfgnfaaGreatDoor
