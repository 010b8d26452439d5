/- Plain facts on numerals: no program in sight. -/
namespace Go.Proofs.YtpahemohpaaeoaaDoor
set_option linter.unusedVariables false

/-- The reference's value of a digit (up to base 16); 99 if there is none. -/
def dvN (c : Nat) : Nat :=
  if 48 ≤ c ∧ c ≤ 57 then c - 48 else if 97 ≤ c ∧ c ≤ 102 then c - 97 + 10 else if 65 ≤ c ∧ c ≤ 70 then c - 65 + 10 else 99

/-- The program's value of a digit (up to base 36); -1 if there is none. -/
def pdN (c : Nat) : Int :=
  if 48 ≤ c ∧ c ≤ 57 then (c : Int) - 48 else if 97 ≤ c ∧ c ≤ 122 then (c : Int) - 97 + 10 else if 65 ≤ c ∧ c ≤ 90 then (c : Int) - 65 + 10 else -1

theorem pd_dv (c b : Nat) (hb : b ≤ 16) : (0 ≤ pdN c ∧ pdN c < (b : Int)) ↔ dvN c < b := by
  unfold pdN dvN
  split <;> (try split) <;> (try split) <;> (try split) <;> (try split) <;> omega

theorem pd_eq (c b : Nat) (hb : b ≤ 16) (h : dvN c < b) : pdN c = dvN c := by
  revert h
  unfold pdN dvN
  split <;> (try split) <;> (try split) <;> (try split) <;> (try split) <;> omega

/-- The byte at an index of a list; 0 behind its end. -/
def bat (l : List UInt8) (i : Nat) : Nat := (l.getD i 0).toNat

/-- The index behind the digits of a base from an index on. -/
def runL (l : List UInt8) (b i : Nat) : Nat := i + ((l.drop i).takeWhile fun c => decide (dvN c.toNat < b)).length

theorem runL_step (l : List UInt8) (b i : Nat) (h : i < l.length) (hd : dvN (bat l i) < b) : runL l b i = runL l b (i + 1) := by
  unfold runL bat at *
  rw [List.drop_eq_getElem_cons h]
  have : l.getD i 0 = l[i] := by simp [List.getD, h]
  rw [this] at hd
  rw [List.takeWhile_cons_of_pos (by simpa using hd)]
  simp; omega

theorem runL_stop (l : List UInt8) (b i : Nat) (h : i < l.length) (hd : ¬ dvN (bat l i) < b) : runL l b i = i := by
  unfold runL bat at *
  rw [List.drop_eq_getElem_cons h]
  have : l.getD i 0 = l[i] := by simp [List.getD, h]
  rw [this] at hd
  rw [List.takeWhile_cons_of_neg (by simpa using hd)]
  simp

theorem runL_end (l : List UInt8) (b i : Nat) (h : l.length ≤ i) : runL l b i = i := by
  unfold runL
  rw [List.drop_eq_nil_of_le h]
  simp

theorem runL_le (l : List UInt8) (b i : Nat) (h : i ≤ l.length) : runL l b i ≤ l.length := by
  unfold runL
  have := (List.takeWhile_sublist (fun c : UInt8 => decide (dvN c.toNat < b)) (l := l.drop i)).length_le
  simp at this
  omega

theorem runL_ge (l : List UInt8) (b i : Nat) : i ≤ runL l b i := by unfold runL; omega

/-- The number that digits are, from an accumulator on; none if it passes 2^62. -/
def numL (b : Nat) : List UInt8 → Nat → Option Nat
  | [], n => some n
  | c :: l, n => if n > (4611686018427387904 - dvN c.toNat) / b then none else numL b l (n * b + dvN c.toNat)

/-- The name of a digit. -/
def nameN (d : Nat) : UInt8 := UInt8.ofNat (if d < 10 then 48 + d else 87 + d)

/-- The digits of a number in a base, the first ahead. -/
def bDigits (b u : Nat) : List UInt8 :=
  if h : u < b ∨ b < 2 then [nameN u] else bDigits b (u / b) ++ [nameN (u % b)]
termination_by u
decreasing_by
  have : 2 ≤ b := by omega
  exact Nat.div_lt_self (by omega) (by omega)

/-- The text of an integer in a base. -/
def bText (b : Nat) (n : Int) : List UInt8 := if n < 0 then 45 :: bDigits b n.natAbs else bDigits b n.toNat


theorem bDigits_small {b u : Nat} (h : u < b) : bDigits b u = [nameN u] := by rw [bDigits, dif_pos (Or.inl h)]
theorem bDigits_big {b u : Nat} (h2 : 2 ≤ b) (h : ¬ u < b) : bDigits b u = bDigits b (u / b) ++ [nameN (u % b)] := by
  rw [bDigits, dif_neg (by omega)]

theorem name_dv_fin : ∀ d : Fin 16, dvN (nameN d.val).toNat = d.val := by decide +kernel
theorem name_dv (d : Nat) (h : d < 16) : dvN (nameN d).toNat = d := name_dv_fin ⟨d, h⟩

/-- The digits read back: within the bound the number itself. -/
theorem numL_append (b : Nat) : ∀ (l m : List UInt8) (n : Nat), numL b (l ++ m) n = (numL b l n).bind (numL b m)
  | [], m, n => rfl
  | c :: l, m, n => by
    simp only [List.cons_append, numL]
    split
    · rfl
    · exact numL_append b l m _

theorem numL_bDigits (b : Nat) (h2 : 2 ≤ b) (hb : b ≤ 16) : ∀ u : Nat, u ≤ 4611686018427387904 → numL b (bDigits b u) 0 = some u := by
  intro u
  induction u using Nat.strongRecOn with
  | ind u ih =>
    intro hu
    by_cases h : u < b
    · rw [bDigits_small h]
      simp only [numL]
      rw [name_dv u (by omega)]
      simp
    · rw [bDigits_big h2 h, numL_append, ih (u / b) (Nat.div_lt_self (by omega) (by omega)) (Nat.le_trans (Nat.div_le_self _ _) hu)]
      simp only [numL, Option.bind_some]
      have hm : u % b < b := Nat.mod_lt _ (by omega)
      rw [name_dv (u % b) (by omega)]
      have hle : u / b ≤ (4611686018427387904 - u % b) / b := by
        rw [Nat.le_div_iff_mul_le (by omega)]
        have := Nat.div_add_mod u b
        rw [Nat.mul_comm] at this
        omega
      rw [if_neg (by omega)]
      congr 1
      have := Nat.div_add_mod u b
      rw [Nat.mul_comm] at this
      exact this

theorem bDigits_digits (b : Nat) (h2 : 2 ≤ b) (hb : b ≤ 16) : ∀ u : Nat, ∀ c ∈ bDigits b u, dvN c.toNat < b := by
  intro u
  induction u using Nat.strongRecOn with
  | ind u ih =>
    intro c hc
    by_cases h : u < b
    · rw [bDigits_small h] at hc
      obtain rfl := List.mem_singleton.1 hc
      rw [name_dv u (by omega)]; exact h
    · rw [bDigits_big h2 h] at hc
      have hm : u % b < b := Nat.mod_lt _ (by omega)
      rcases List.mem_append.1 hc with hc | hc
      · exact ih (u / b) (Nat.div_lt_self (by omega) (by omega)) c hc
      · obtain rfl := List.mem_singleton.1 hc
        rw [name_dv _ (by omega)]; exact hm

theorem bDigits_ne (b u : Nat) : bDigits b u ≠ [] := by
  rw [bDigits]
  split
  · simp
  · simp


/-- The reference's loop: the digits, the last ahead. -/
def revDigits (b u : Nat) : List UInt8 := (bDigits b u).reverse

theorem revDigits_small {b u : Nat} (h : u < b) : revDigits b u = [nameN u] := by simp [revDigits, bDigits_small h]
theorem revDigits_big {b u : Nat} (h2 : 2 ≤ b) (h : ¬ u < b) : revDigits b u = nameN (u % b) :: revDigits b (u / b) := by
  simp [revDigits, bDigits_big h2 h]

/-- The bytes that are cut off at both ends. -/
def blankB (c : UInt8) : Bool := c == 32 || (c == 9 || (c == 10 || c == 13))
def trimFront (l : List UInt8) : List UInt8 := l.dropWhile blankB
def trimL (l : List UInt8) : List UInt8 := (trimFront (trimFront l).reverse).reverse

/-- A numeral behind an index: its kind, the index of its point, where its digits begin, the index behind it. -/
structure Find where
  hex : Bool
  point : Int
  from_ : Nat
  end_ : Nat

/-- The longest numeral at an index. -/
def findL (l : List UInt8) (i : Nat) : Option Find :=
  let e := runL l 10 i
  if e = i then none
  else if e = i + 1 ∧ bat l i = 48 ∧ e < l.length ∧ (bat l e = 120 ∨ bat l e = 88) ∧ e + 1 < runL l 16 (e + 1) then some ⟨true, -1, e + 1, runL l 16 (e + 1)⟩
  else if e < l.length ∧ bat l e = 46 ∧ e + 1 < runL l 10 (e + 1) then some ⟨false, e, i, runL l 10 (e + 1)⟩
  else some ⟨false, -1, i, e⟩

end Go.Proofs.YtpahemohpaaeoaaDoor
