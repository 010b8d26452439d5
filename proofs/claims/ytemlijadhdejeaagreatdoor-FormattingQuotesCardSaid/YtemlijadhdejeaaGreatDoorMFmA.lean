/- What a directive makes of an argument, in plain Lean. -/
import Derived.Test.YtemlijadhdejeaaGreatDoorMFmPlain
import Derived.Test.YtemlijadhdejeaaGreatDoorMPlainB
import Derived.Test.YtemlijadhdejeaaGreatDoorMNumW13
import Derived.Test.YtemlijadhdejeaaGreatDoorMFb
import Derived.Test.YtemlijadhdejeaaGreatDoorMPlainC
namespace Go.Proofs.YtemlijadhdejeaaGreatDoor
set_option linter.unusedVariables false

/-- The number of an argument. -/
def numA (v : VV) : Option (Int × Int) :=
  if v.k = 2 then (if vldB v.p v.q then some (v.p, v.q) else none)
  else if v.k = 3 then (if (parseL v.s.data.toList).2.2 = 0 then some ((parseL v.s.data.toList).1, (parseL v.s.data.toList).2.1) else none)
  else none
/-- The integer of an argument. -/
def wholeA (v : VV) : Option Int := match numA v with | none => none | some x => if x.2 = 1 then some x.1 else none
def padN (w : Int) (s : List UInt8) : Nat := (min (max 0 w) 99).toNat - s.length
def padL (s : List UInt8) (w : Int) (mi : Bool) : List UInt8 := if mi then s ++ List.replicate (padN w s) 32 else List.replicate (padN w s) 32 ++ s
def upC (c : UInt8) : UInt8 := if 97 ≤ c.toNat ∧ c.toNat ≤ 122 then c - 32 else c
def baseP (v : Nat) : Int := if v = 111 then 8 else if v = 120 ∨ v = 88 then 16 else 10
def digA (p : Pc) (v : VV) : Option (List UInt8) :=
  if p.v = 102 then (match numA v with | none => none | some x => some (fixL x.1 x.2 (if p.n < 0 then 6 else p.n)).1)
  else if p.v = 103 then (match numA v with | none => none | some x => some (textL x.1 x.2))
  else match wholeA v with
    | none => none
    | some n => if 0 ≤ n ∨ baseP p.v = 10 then some (if p.v = 88 then (baseL n (baseP p.v)).1.map upC else (baseL n (baseP p.v)).1) else none
def cutA (p : Pc) (s : List UInt8) : List UInt8 := if p.n < 0 then s else s.take p.n.toNat
def txtA (p : Pc) (v : VV) : Option (List UInt8) :=
  if p.v = 99 then (match wholeA v with | none => none | some n => if 0 ≤ n ∧ n ≤ 255 then some [UInt8.ofNat n.toNat] else none)
  else if p.v = 113 then (if v.k = 3 then some (quoteL v.s.data.toList) else none)
  else if v.k = 3 then some (cutA p v.s.data.toList)
  else if v.k = 2 ∧ vldB v.p v.q = true then some (cutA p (textL v.p v.q)) else none
def signA (p : Pc) (s : List UInt8) : List UInt8 := if s.head? = some 45 then [45] else if p.pl = true ∧ (p.v = 100 ∨ p.v = 102 ∨ p.v = 103) then [43] else []
def bodyA (s : List UInt8) : List UInt8 := if s.head? = some 45 then s.tail else s
def zeroA (p : Pc) (sg s : List UInt8) : List UInt8 := if p.ze = true ∧ p.mi = false ∧ p.v ≠ 103 then List.replicate (p.w - sg.length - s.length) 48 ++ s else s
/-- What a directive prints of an argument. -/
def fmt1 (p : Pc) (v : VV) : Option (List UInt8) :=
  if p.v = 115 ∨ p.v = 99 ∨ p.v = 113 then (txtA p v).map fun s => padL s p.w p.mi
  else (digA p v).map fun s => padL (signA p s ++ zeroA p (signA p s) (bodyA s)) p.w p.mi
end Go.Proofs.YtemlijadhdejeaaGreatDoor

/- The number of an argument of a format, as the calls hand it back. No program in sight. -/
namespace Go.Proofs.YtemlijadhdejeaaGreatDoor
set_option linter.unusedVariables false

/-- The number of an argument, and whether it has one. -/
def numF (v : VV) : Int × Int × Bool :=
  if v.k = 2 then (v.p, v.q, vldB v.p v.q)
  else if v.k = 3 then ((parseL v.s.data.toList).1, (parseL v.s.data.toList).2.1, decide ((parseL v.s.data.toList).2.2 = 0))
  else (0, 0, false)
/-- The integer of an argument, and whether it has one. -/
def wholeF (v : VV) : Int × Bool := if (numF v).2.2 = true then (wholeV (numF v).1 (numF v).2.1, wholeB (numF v).1 (numF v).2.1) else (0, false)
theorem minusT_bad {m : Bool} {t : Int × Int × Int} (h : ¬ (minusT m t).2.2 = 0) : (minusT m t).1 = 0 ∧ (minusT m t).2.1 = 0 := by
  unfold minusT at *
  by_cases h0 : t.2.2 = 0
  · rw [if_pos h0] at h; exact absurd rfl h
  · rw [if_neg h0]; exact ⟨rfl, rfl⟩
theorem parseL_bad {l : List UInt8} (h : ¬ (parseL l).2.2 = 0) : (parseL l).1 = 0 ∧ (parseL l).2.1 = 0 := by
  unfold parseL at *
  by_cases h1 : (Lib.trimS l blankL).head? = some 45
  · rw [if_pos h1] at h ⊢; exact minusT_bad h
  · rw [if_neg h1] at h ⊢; exact minusT_bad h
theorem parseL_bd (l : List UInt8) : -2147483647 ≤ (parseL l).1 ∧ (parseL l).1 ≤ 2147483647 := by
  by_cases h : (parseL l).2.2 = 0
  · have := vld_bd (parseL_ok h); omega
  · rw [(parseL_bad h).1]; omega
/-- The numbers of a value lie within Go's integers. -/
def VV.ok (v : VV) : Prop := -9223372036854775808 ≤ v.p ∧ v.p ≤ 9223372036854775807 ∧ v.s.size ≤ 1000000
theorem numF_bd {v : VV} (h : v.ok) : -9223372036854775808 ≤ (numF v).1 ∧ (numF v).1 ≤ 9223372036854775807 := by
  unfold numF
  split
  · exact ⟨h.1, h.2.1⟩
  · split
    · have := parseL_bd v.s.data.toList
      simp only []; omega
    · simp
theorem numF_ok {v : VV} (h : (numF v).2.2 = true) : vldB (numF v).1 (numF v).2.1 = true := by
  unfold numF at *
  by_cases h2 : v.k = 2
  · rw [if_pos h2] at h ⊢; exact h
  · rw [if_neg h2] at h ⊢
    by_cases h3 : v.k = 3
    · rw [if_pos h3] at h ⊢; exact parseL_ok (by simpa using h)
    · rw [if_neg h3] at h; cases h
theorem numF_some (v : VV) : numA v = if (numF v).2.2 = true then some ((numF v).1, (numF v).2.1) else none := by
  unfold numA numF
  by_cases h2 : v.k = 2
  · rw [if_pos h2, if_pos h2]
  · rw [if_neg h2, if_neg h2]
    by_cases h3 : v.k = 3
    · rw [if_pos h3, if_pos h3]; simp
    · rw [if_neg h3, if_neg h3]; rfl
theorem wholeF_some (v : VV) : wholeA v = if (wholeF v).2 = true then some (wholeF v).1 else none := by
  unfold wholeA wholeF
  rw [numF_some]
  by_cases h : (numF v).2.2 = true
  · rw [if_pos h, if_pos h]
    have hv := numF_ok h
    unfold wholeV wholeB
    rw [hv]
    by_cases h1 : (numF v).2.1 = 1
    · simp [h1]
    · simp [h1]
  · rw [if_neg h, if_neg h]; rfl
theorem wholeF_bd {v : VV} : -2147483647 ≤ (wholeF v).1 ∧ (wholeF v).1 ≤ 2147483647 := by
  unfold wholeF wholeV wholeB
  by_cases h : (numF v).2.2 = true
  · rw [if_pos h]
    have := vld_bd (numF_ok h)
    simp only []
    split <;> omega
  · rw [if_neg h]; simp
end Go.Proofs.YtemlijadhdejeaaGreatDoor

/- What a directive makes of an argument, as the calls hand it back. No program in sight. -/
namespace Go.Proofs.YtemlijadhdejeaaGreatDoor
set_option linter.unusedVariables false

theorem fixL_ok {P Q n : Int} (h : vldB P Q = true) (h0 : 0 ≤ n) (h1 : n ≤ 12) : (fixL P Q n).2 = 0 := by
  unfold fixL
  rw [h, decide_eq_true h0, decide_eq_true h1]; rfl
theorem fixL_len (P Q n : Int) : (fixL P Q n).1.length ≤ 100 := by
  unfold fixL
  by_cases hv : (vldB P Q && (decide (0 ≤ n) && decide (n ≤ 12))) = true
  · rw [if_pos hv]
    simp only [Bool.and_eq_true, decide_eq_true_eq] at hv
    obtain ⟨hv, h0, h1⟩ := hv
    obtain ⟨v1, v2, v3, v4⟩ := vld_bd hv
    have hW : (fixT P.natAbs Q.toNat n.toNat).1 ≤ 4611686018427387904 ∧ (fixT P.natAbs Q.toNat n.toNat).2.length = n.toNat := by
      unfold fixT roundT
      have : P.natAbs / Q.toNat ≤ P.natAbs := Nat.div_le_self _ _
      split
      · refine ⟨by dsimp only; split <;> omega, ?_⟩
        dsimp only
        rw [incL_len, digsN_len]
      · exact ⟨by dsimp only; omega, by dsimp only; rw [digsN_len]⟩
    have hl := Lib.itoa_length_le ((fixT P.natAbs Q.toNat n.toNat).1 : Int) (by omega) (by omega)
    have hb := bodyL_len (fixT P.natAbs Q.toNat n.toNat).1 (fixT P.natAbs Q.toNat n.toNat).2
    simp only []
    unfold decL
    split
    · rw [List.length_cons]; omega
    · omega
  · rw [if_neg hv]; simp
theorem textL_len (p q : Int) : (textL p q).length ≤ 100 := by
  unfold textL
  by_cases h : vldB p q = true
  · rw [if_pos h]
    obtain ⟨b1, b2, b3, b4⟩ := vld_bd h
    have l1 := Lib.itoa_length_le p (by omega) (by omega)
    have l2 := Lib.itoa_length_le q (by omega) (by omega)
    split <;> simp <;> omega
  · rw [if_neg h]; simp
theorem bDigits_ascii {b : Nat} (hb : 2 ≤ b) (hb2 : b ≤ 36) : ∀ (m u : Nat), u ≤ m → ∀ c ∈ bDigits b u, c.toNat < 128 := by
  have hn : ∀ d, d < 36 → (nameN d).toNat < 128 := fun d hd => by
    unfold nameN
    split <;> simp <;> omega
  intro m
  induction m with
  | zero =>
    intro u hu c hc
    rw [bDigits_small (by omega)] at hc
    simp at hc; subst hc
    exact hn u (by omega)
  | succ m ih =>
    intro u hu c hc
    by_cases h : u < b
    · rw [bDigits_small h] at hc
      simp at hc; subst hc
      exact hn u (by omega)
    · rw [bDigits_big hb h] at hc
      have hlt : u / b < u := Nat.div_lt_self (by omega) (by omega)
      rcases List.mem_append.1 hc with h1 | h1
      · exact ih (u / b) (by omega) c h1
      · simp at h1; subst h1
        have := Nat.mod_lt u (show b > 0 by omega)
        exact hn _ (by omega)
theorem baseL_is {n b : Int} (h : b = 8 ∨ b = 10 ∨ b = 16) : baseL n b = (bText b.toNat n, 0) := by
  unfold baseL
  rw [if_neg (by omega)]
theorem bText_ascii {n : Int} {b : Nat} (hb : 2 ≤ b) (hb2 : b ≤ 36) : ∀ c ∈ bText b n, c.toNat < 128 := by
  intro c hc
  unfold bText at hc
  split at hc
  · rcases List.mem_cons.1 hc with rfl | h
    · decide
    · exact bDigits_ascii hb hb2 _ _ (Nat.le_refl _) c h
  · exact bDigits_ascii hb hb2 _ _ (Nat.le_refl _) c hc
theorem bText_len {n : Int} {b : Nat} (hb : 2 ≤ b) (h1 : -2147483647 ≤ n) (h2 : n ≤ 2147483647) : (bText b n).length ≤ 100 := by
  unfold bText
  split
  · have := bDigits_len b hb 64 n.natAbs (by omega) (by omega)
    simp; omega
  · have := bDigits_len b hb 64 n.toNat (by omega) (by omega)
    omega

def placesF (n : Int) : Int := if n < 0 then 6 else n
def digF (p : Pc) (v : VV) : List UInt8 × Bool :=
  if p.v = 102 then ((fixL (numF v).1 (numF v).2.1 (placesF p.n)).1, (numF v).2.2 && decide ((fixL (numF v).1 (numF v).2.1 (placesF p.n)).2 = 0))
  else if p.v = 103 then (textL (numF v).1 (numF v).2.1, (numF v).2.2)
  else (if p.v = 88 then (baseL (wholeF v).1 (baseP p.v)).1.map upC else (baseL (wholeF v).1 (baseP p.v)).1, (wholeF v).2 && (decide (0 ≤ (wholeF v).1) || decide (baseP p.v = 10)))
theorem baseP_is (v : Nat) : baseP v = 8 ∨ baseP v = 10 ∨ baseP v = 16 := by unfold baseP; split; exact .inl rfl; split; exact .inr (.inr rfl); exact .inr (.inl rfl)
theorem digF_some {p : Pc} (hn : p.n ≤ 12) (v : VV) : digA p v = if (digF p v).2 = true then some (digF p v).1 else none := by
  unfold digA digF
  by_cases h1 : p.v = 102
  · rw [if_pos h1, if_pos h1, numF_some]
    by_cases h : (numF v).2.2 = true
    · rw [if_pos h, h, fixL_ok (numF_ok h) (by unfold placesF; split <;> omega) (by unfold placesF; split <;> omega)]
      rfl
    · rw [if_neg h]
      simp [h]
  · rw [if_neg h1, if_neg h1]
    by_cases h2 : p.v = 103
    · rw [if_pos h2, if_pos h2, numF_some]
      by_cases h : (numF v).2.2 = true
      · rw [if_pos h]; simp [h]
      · rw [if_neg h]; simp [h]
    · rw [if_neg h2, if_neg h2, wholeF_some]
      by_cases h : (wholeF v).2 = true
      · rw [if_pos h, h]
        by_cases h3 : 0 ≤ (wholeF v).1 ∨ baseP p.v = 10
        · simp only []
          rw [if_pos h3]
          have : (true && (decide (0 ≤ (wholeF v).1) || decide (baseP p.v = 10))) = true := by simpa using h3
          rw [if_pos this]
        · simp only []
          rw [if_neg h3]
          have : (true && (decide (0 ≤ (wholeF v).1) || decide (baseP p.v = 10))) = false := by simpa using h3
          rw [this]; rfl
      · rw [if_neg h]
        simp [h]
theorem digF_len (p : Pc) (v : VV) : (digF p v).1.length ≤ 100 := by
  have hb := @wholeF_bd v
  have hB := baseP_is p.v
  have ht := bText_len (n := (wholeF v).1) (b := (baseP p.v).toNat) (by omega) hb.1 hb.2
  unfold digF
  split
  · exact fixL_len _ _ _
  · split
    · exact textL_len _ _
    · simp only [baseL_is hB]
      split
      · rw [List.length_map]; exact ht
      · exact ht
def txtF (p : Pc) (v : VV) : List UInt8 × Bool :=
  if p.v = 99 then ([UInt8.ofNat ((wholeF v).1 % 256).toNat], (wholeF v).2 && (decide (0 ≤ (wholeF v).1) && decide ((wholeF v).1 ≤ 255)))
  else if p.v = 113 then (quoteL v.s.data.toList, decide (v.k = 3))
  else (cutA p (if v.k = 2 then textL v.p v.q else v.s.data.toList), decide (v.k = 3) || (decide (v.k = 2) && vldB v.p v.q))
theorem txtF_some (p : Pc) (v : VV) : txtA p v = if (txtF p v).2 = true then some (txtF p v).1 else none := by
  unfold txtA txtF
  by_cases h1 : p.v = 99
  · rw [if_pos h1, if_pos h1, wholeF_some]
    by_cases h : (wholeF v).2 = true
    · rw [if_pos h, h]
      simp only []
      by_cases h3 : 0 ≤ (wholeF v).1 ∧ (wholeF v).1 ≤ 255
      · rw [if_pos h3]
        have : (true && (decide (0 ≤ (wholeF v).1) && decide ((wholeF v).1 ≤ 255))) = true := by simpa using h3
        rw [if_pos this, show (wholeF v).1 % 256 = (wholeF v).1 by omega]
      · rw [if_neg h3]
        have : ¬ (true && (decide (0 ≤ (wholeF v).1) && decide ((wholeF v).1 ≤ 255))) = true := by simpa using h3
        rw [if_neg this]
    · rw [if_neg h]; simp [h]
  · rw [if_neg h1, if_neg h1]
    by_cases h2 : p.v = 113
    · rw [if_pos h2, if_pos h2]; simp
    · rw [if_neg h2, if_neg h2]
      by_cases h3 : v.k = 3
      · rw [if_pos h3, h3]
        simp
      · rw [if_neg h3]
        by_cases h4 : v.k = 2
        · by_cases h5 : vldB v.p v.q = true
          · rw [if_pos ⟨h4, h5⟩, if_pos h4]; simp [h4, h5]
          · rw [if_neg (fun h => h5 h.2)]; simp [h3, h5]
        · rw [if_neg (fun h => h4 h.1)]; simp [h3, h4]
theorem txtF_len (p : Pc) (v : VV) (hs : v.s.size ≤ 1000000) : (txtF p v).1.length ≤ 4000002 := by
  have hsz : v.s.data.toList.length = v.s.size := by simp
  unfold txtF
  split
  · simp
  · split
    · have := quoteM_len v.s.data.toList
      unfold quoteL
      simp only [List.length_cons, List.length_append, List.length_nil]
      omega
    · have ht := textL_len v.p v.q
      have hc : ∀ l : List UInt8, (cutA p l).length ≤ l.length := fun l => by unfold cutA; split; exact Nat.le_refl _; rw [List.length_take]; omega
      simp only []
      refine Nat.le_trans (hc _) ?_
      split <;> omega
/-- What a directive prints of an argument, and whether it fits. -/
def fmtF (p : Pc) (v : VV) : List UInt8 × Bool :=
  if p.v = 115 ∨ p.v = 99 ∨ p.v = 113 then (padL (txtF p v).1 p.w p.mi, (txtF p v).2)
  else (padL (signA p (digF p v).1 ++ zeroA p (signA p (digF p v).1) (bodyA (digF p v).1)) p.w p.mi, (digF p v).2)
theorem fmtF_some {p : Pc} (hn : p.n ≤ 12) (v : VV) : fmt1 p v = if (fmtF p v).2 = true then some (fmtF p v).1 else none := by
  unfold fmt1 fmtF
  by_cases h : p.v = 115 ∨ p.v = 99 ∨ p.v = 113
  · rw [if_pos h, if_pos h, txtF_some]
    cases hb : (txtF p v).2 <;> simp
  · rw [if_neg h, if_neg h, digF_some hn]
    cases hb : (digF p v).2 <;> simp
theorem padN_le (w : Int) (s : List UInt8) : padN w s ≤ 99 := by unfold padN; omega
theorem padL_len (s : List UInt8) (w : Int) (mi : Bool) : (padL s w mi).length ≤ s.length + 99 := by
  have := padN_le w s
  unfold padL
  split <;> simp <;> omega
theorem fmtF_len {p : Pc} (hw : p.w ≤ 99) (v : VV) (hs : v.s.size ≤ 1000000) : (fmtF p v).1.length ≤ 5000000 := by
  have h1 := txtF_len p v hs
  have h2 := digF_len p v
  unfold fmtF
  split
  · have := padL_len (txtF p v).1 p.w p.mi
    simp only []; omega
  · have h3 := padL_len (signA p (digF p v).1 ++ zeroA p (signA p (digF p v).1) (bodyA (digF p v).1)) p.w p.mi
    have h4 : (signA p (digF p v).1).length ≤ 1 := by unfold signA; split; simp; split <;> simp
    have h5 : (bodyA (digF p v).1).length ≤ 100 := by unfold bodyA; split; rw [List.length_tail]; omega; exact h2
    have h6 : (zeroA p (signA p (digF p v).1) (bodyA (digF p v).1)).length ≤ 200 := by unfold zeroA; split; simp; omega; omega
    rw [List.length_append] at h3
    simp only []; omega
end Go.Proofs.YtemlijadhdejeaaGreatDoor

/- What Format prints, as a loop over the parts: no program in sight. -/
namespace Go.Proofs.YtemlijadhdejeaaGreatDoor
set_option linter.unusedVariables false

/-- What is printed of one part more: the text, how many arguments are read; or what is handed back. -/
def fmtL (p : Pc) (v : VV) : Option (List UInt8) := if (fmtF p v).2 = true then some (fmtF p v).1 else none
theorem fmt1_L {p : Pc} (hn : p.n ≤ 12) (v : VV) : fmt1 p v = fmtL p v := fmtF_some hn v
/-- The parts of a format are well-formed. -/
def okPc (p : Pc) : Prop := p.v = 0 ∨ (p.t = [] ∧ p.w ≤ 99 ∧ p.n ≤ 12 ∧ ∃ c, verbB c = true ∧ p.v = c.toNat)
theorem okPc_zero {p : Pc} (h : okPc p) (h0 : p.v ≠ 0) : p.t = [] ∧ p.w ≤ 99 ∧ p.n ≤ 12 ∧ ∃ c, verbB c = true ∧ p.v = c.toNat := h.resolve_left h0
def dirOk2 (E : List Ev) : Prop := ∀ p, Ev.dr p ∈ E → okPc p
theorem evs_ok (m : Nat) : ∀ (l : List UInt8) (E : List Ev), l.length ≤ m → evs l = some E → dirOk2 E := by
  induction m with
  | zero =>
    intro l E h he
    obtain rfl : l = [] := List.eq_nil_of_length_eq_zero (by omega)
    rw [evs_nil] at he
    cases he
    exact fun p hp => by cases hp
  | succ m ih =>
    intro l E h he
    cases l with
    | nil =>
      rw [evs_nil] at he
      cases he
      exact fun p hp => by cases hp
    | cons c t =>
      simp only [List.length_cons] at h
      have hch : ∀ (d : UInt8) (F : List Ev), dirOk2 F → dirOk2 (Ev.ch d :: F) := fun d F hF p hp => by
        rcases List.mem_cons.1 hp with h | h
        · cases h
        · exact hF p h
      by_cases hc : c.toNat = 37
      · obtain rfl := c37 hc
        by_cases ht : (t.head?.map UInt8.toNat) = some 37
        · cases t with
          | nil => simp at ht
          | cons d u =>
            simp at ht
            obtain rfl := c37 ht
            rw [evs_two] at he
            simp only [List.length_cons] at h
            cases hu : evs u with
            | none => rw [hu] at he; cases he
            | some F =>
              rw [hu] at he
              cases he
              exact hch _ _ (ih u F (by omega) hu)
        · cases hd : dirT t with
          | none => rw [evs_bad ht hd] at he; cases he
          | some x =>
            rw [evs_dir ht hd] at he
            have hok := dirT_ok hd
            cases hu : evs (t.drop x.2) with
            | none => rw [hu] at he; cases he
            | some F =>
              rw [hu] at he
              cases he
              intro p hp
              rcases List.mem_cons.1 hp with h | h
              · cases h; exact .inr ⟨hok.2.2.2.1, hok.2.2.2.2.1, hok.2.2.2.2.2.2.1, hok.2.2.2.2.2.2.2⟩
              · exact ih _ F (by rw [List.length_drop]; omega) hu p h
      · rw [evs_ch hc] at he
        cases hu : evs t with
        | none => rw [hu] at he; cases he
        | some F =>
          rw [hu] at he
          cases he
          exact hch _ _ (ih t F (by omega) hu)
theorem grp_ok : ∀ (E : List Ev) (a : List UInt8), dirOk2 E → ∀ p ∈ grp E a, okPc p
  | [], a, _, p, hp => by
    rw [grp] at hp
    unfold flushP at hp
    split at hp
    · cases hp
    · simp at hp; subst hp; exact .inl rfl
  | .ch c :: E, a, h, p, hp => by
    rw [grp] at hp
    exact grp_ok E (a ++ [c]) (fun q hq => h q (List.mem_cons_of_mem _ hq)) p hp
  | .dr q :: E, a, h, p, hp => by
    rw [grp] at hp
    rcases List.mem_append.1 hp with hp | hp
    · unfold flushP at hp
      split at hp
      · cases hp
      · simp at hp; subst hp; exact .inl rfl
    · rcases List.mem_cons.1 hp with hp | hp
      · subst hp; exact h p List.mem_cons_self
      · exact grp_ok E [] (fun r hr => h r (List.mem_cons_of_mem _ hr)) p hp
/-- The texts of the parts are no longer than the format. -/
theorem grp_len (n : Nat) : ∀ (E : List Ev) (a : List UInt8), a.length + E.length ≤ n → (∀ p, Ev.dr p ∈ E → p.t.length ≤ n) → ∀ p ∈ grp E a, p.t.length ≤ n
  | [], a, hn, _, p, hp => by
    rw [grp] at hp
    unfold flushP at hp
    split at hp
    · cases hp
    · simp at hp hn; subst hp; simpa [txtP] using hn
  | .ch c :: E, a, hn, h, p, hp => by
    rw [grp] at hp
    exact grp_len n E (a ++ [c]) (by simp at hn ⊢; omega) (fun q hq => h q (List.mem_cons_of_mem _ hq)) p hp
  | .dr q :: E, a, hn, h, p, hp => by
    rw [grp] at hp
    rcases List.mem_append.1 hp with hp | hp
    · unfold flushP at hp
      split at hp
      · cases hp
      · simp at hp hn; subst hp; simp [txtP]; omega
    · rcases List.mem_cons.1 hp with hp | hp
      · subst hp; exact h _ List.mem_cons_self
      · exact grp_len n E [] (by simp at hn ⊢; omega) (fun r hr => h r (List.mem_cons_of_mem _ hr)) p hp
theorem grp_num : ∀ (E : List Ev) (a : List UInt8), (grp E a).length ≤ a.length + 2 * E.length
  | [], a => by
    rw [grp]; unfold flushP
    split
    · simp
    · rename_i h; cases a; exact absurd rfl h; simp
  | .ch c :: E, a => by rw [grp]; have := grp_num E (a ++ [c]); simp at this ⊢; omega
  | .dr q :: E, a => by
    rw [grp]
    have h1 : (flushP a).length ≤ a.length := by
      unfold flushP
      split
      · simp
      · rename_i h; cases a; exact absurd rfl h; simp
    have := grp_num E []
    simp at this ⊢; omega
/-- What the parts of a format are like. -/
theorem pcs_ok {l : List UInt8} {E : List Ev} (he : evs l = some E) : (∀ p ∈ grp E [], okPc p) ∧ (grp E []).length ≤ 2 * l.length ∧ ∀ p ∈ grp E [], p.v = 0 → p.t.length ≤ l.length := by
  have h1 := evs_ok l.length l E (Nat.le_refl _) he
  have h2 := (evs_dirs l.length l E (Nat.le_refl _) he).2
  have h2d := (evs_dirs l.length l E (Nat.le_refl _) he).1
  have h3 := grp_num E []
  refine ⟨grp_ok E [] h1, by simp at h3; omega, fun p hp _ => ?_⟩
  refine grp_len l.length E [] (by simpa using h2) (fun q hq => ?_) p hp
  rw [((h1 q hq).resolve_left (h2d q hq)).1]; simp
/-- What Format hands back: text, number of the argument that is wrong, error. -/
def fmtR (o : Option (List Pc)) (l : List VV) : List UInt8 × Nat × Int :=
  match o with
  | none => ([], 0, 4)
  | some P => endF (runP fmtL l P 0 [])
theorem runP_txt (l : List VV) (P : List Pc) (j k : Nat) (out : List UInt8) (hj : j < P.length) (h0 : (P[j]).v = 0) : runP fmtL l (P.drop j) k out = runP fmtL l (P.drop (j + 1)) k (out ++ (P[j]).t) := by
  rw [List.drop_eq_getElem_cons hj, runP, if_pos h0]
theorem runP_none (l : List VV) (P : List Pc) (j k : Nat) (out : List UInt8) (hj : j < P.length) (h0 : (P[j]).v ≠ 0) (hk : l.length ≤ k) : runP fmtL l (P.drop j) k out = ([], k + 1, 18) := by
  rw [List.drop_eq_getElem_cons hj, runP, if_neg h0, List.getElem?_eq_none hk]
theorem runP_bad (l : List VV) (P : List Pc) (j k : Nat) (out : List UInt8) (hj : j < P.length) (h0 : (P[j]).v ≠ 0) (hk : k < l.length) (hb : (fmtF P[j] l[k]).2 = false) : runP fmtL l (P.drop j) k out = ([], k + 1, 8) := by
  rw [List.drop_eq_getElem_cons hj, runP, if_neg h0, List.getElem?_eq_getElem hk]
  unfold fmtL
  simp [hb]
theorem runP_go (l : List VV) (P : List Pc) (j k : Nat) (out : List UInt8) (hj : j < P.length) (h0 : (P[j]).v ≠ 0) (hk : k < l.length) (hb : (fmtF P[j] l[k]).2 = true) : runP fmtL l (P.drop j) k out = runP fmtL l (P.drop (j + 1)) (k + 1) (out ++ (fmtF P[j] l[k]).1) := by
  rw [List.drop_eq_getElem_cons hj, runP, if_neg h0, List.getElem?_eq_getElem hk]
  unfold fmtL
  simp [hb]
end Go.Proofs.YtemlijadhdejeaaGreatDoor
