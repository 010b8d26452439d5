/- The reference's Trim and unsigned, in plain Lean. -/
import Derived.Test.YtemlijadhdejeaaGreatDoorMPlainC
namespace Go.Proofs.YtemlijadhdejeaaGreatDoor
set_option linter.unusedVariables false

theorem dropWhile_app {x y : List UInt8} (hx : ∀ c ∈ x, blankL.contains c = true) : (x ++ y).dropWhile (blankL.contains ·) = y.dropWhile (blankL.contains ·) := by
  induction x with
  | nil => rfl
  | cons c x ih =>
    rw [List.cons_append, List.dropWhile_cons_of_pos (hx c (List.mem_cons_self)), ih (fun d hd => hx d (List.mem_cons_of_mem _ hd))]
theorem dropWhile_head {l : List UInt8} (h : ∀ c, l.head? = some c → blankL.contains c = false) : l.dropWhile (blankL.contains ·) = l := by
  cases l with
  | nil => rfl
  | cons a l => rw [List.dropWhile_cons_of_neg (by rw [h a rfl]; simp)]
/-- Blanks at both ends; what stands between begins and ends with none. -/
theorem trim_core {a m b : List UInt8} (ha : ∀ c ∈ a, blankL.contains c = true) (hb : ∀ c ∈ b, blankL.contains c = true) (h1 : ∀ c, m.head? = some c → blankL.contains c = false) (h2 : ∀ c, m.getLast? = some c → blankL.contains c = false) : Lib.trimS (a ++ m ++ b) blankL = m := by
  unfold Lib.trimS Lib.trimRightS Lib.trimLeftS
  rw [List.reverse_append, dropWhile_app (x := b.reverse) (by intro c hc; exact hb c (List.mem_reverse.1 hc)), List.reverse_append]
  cases hm : m with
  | nil =>
    have := dropWhile_app (x := a.reverse) (y := []) (by intro c hc; exact ha c (List.mem_reverse.1 hc))
    simp only [List.append_nil] at this
    rw [List.reverse_nil, List.nil_append, this]; rfl
  | cons x xs =>
    have hne : m.reverse ≠ [] := by simp [hm]
    have h3 : (m.reverse ++ a.reverse).dropWhile (blankL.contains ·) = m.reverse ++ a.reverse := by
      apply dropWhile_head
      intro c hc
      refine h2 c ?_
      rw [← List.head?_reverse]
      cases hr : m.reverse with
      | nil => exact absurd hr hne
      | cons y ys => rw [hr] at hc; simpa using hc
    rw [← hm, h3, List.reverse_append, List.reverse_reverse, List.reverse_reverse, dropWhile_app ha, dropWhile_head h1]
theorem trim_slice {l : List UInt8} {i j : Nat} (hij : i ≤ j) (hj : j ≤ l.length) (ha : ∀ k, (h : k < i) → blankL.contains (l[k]'(by omega)) = true) (hb : ∀ k, j ≤ k → (h : k < l.length) → blankL.contains (l[k]) = true)
    (h1 : (h : i < j) → blankL.contains (l[i]'(by omega)) = false) (h2 : (h : i < j) → blankL.contains (l[j - 1]'(by omega)) = false) : Lib.trimS l blankL = sliceL l i j := by
  have e : l = l.take i ++ sliceL l i j ++ l.drop j := by
    unfold sliceL
    have e1 : l.drop j = (l.drop i).drop (j - i) := by rw [List.drop_drop]; congr 1; omega
    rw [e1, List.append_assoc, List.take_append_drop, List.take_append_drop]
  have hlen : (sliceL l i j).length = j - i := by unfold sliceL; simp; omega
  have := trim_core (a := l.take i) (m := sliceL l i j) (b := l.drop j) ?_ ?_ ?_ ?_
  · rw [← e] at this; exact this
  · intro c hc
    obtain ⟨k, hk, rfl⟩ := List.getElem_of_mem hc
    rw [List.getElem_take]
    exact ha k (by simp at hk; omega)
  · intro c hc
    obtain ⟨k, hk, rfl⟩ := List.getElem_of_mem hc
    rw [List.getElem_drop]
    exact hb (j + k) (by omega) (by simp at hk; omega)
  · intro c hc
    rw [List.head?_eq_getElem?] at hc
    have hlt : i < j := by
      rcases Nat.lt_or_ge i j with h | h
      · exact h
      · rw [List.getElem?_eq_none (by omega)] at hc; cases hc
    have e2 : (sliceL l i j)[0]? = some (l[i]'(by omega)) := by
      unfold sliceL
      rw [List.getElem?_take, if_pos (by omega), List.getElem?_drop, Nat.add_zero, List.getElem?_eq_getElem (by omega)]
    rw [e2] at hc
    cases hc
    exact h1 hlt
  · intro c hc
    rw [List.getLast?_eq_getElem?, hlen] at hc
    have hlt : i < j := by
      rcases Nat.lt_or_ge i j with h | h
      · exact h
      · rw [List.getElem?_eq_none (by omega)] at hc; cases hc
    have e2 : (sliceL l i j)[j - i - 1]? = some (l[j - 1]'(by omega)) := by
      unfold sliceL
      rw [List.getElem?_take, if_pos (by omega), List.getElem?_drop, List.getElem?_eq_getElem (by omega)]
      congr 2; omega
    rw [e2] at hc
    cases hc
    exact h2 hlt

/-- No slash: no fraction. -/
theorem frac_none {l : List UInt8} (h : Lib.indexByte l 47 = -1) : fracL l = (0, 0, 4) := by unfold fracL; rw [if_pos h]
/-- A slash: no numeral fills the text. -/
theorem uns_slash {l : List UInt8} {k : Nat} (h : Lib.indexByte l 47 = k) : unsL l = fracL l := by
  cases hf : findL l 0 with
  | none => exact unsL_none hf
  | some f =>
    refine unsL_far hf fun he => ?_
    have hb := whole_bytes (find_kind (Nat.zero_le _) hf) he
    have hm := (Lib.indexByte_some h).1
    have := hb 47 (List.mem_of_getElem? hm)
    unfold numByte at this
    revert this
    decide
end Go.Proofs.YtemlijadhdejeaaGreatDoor
