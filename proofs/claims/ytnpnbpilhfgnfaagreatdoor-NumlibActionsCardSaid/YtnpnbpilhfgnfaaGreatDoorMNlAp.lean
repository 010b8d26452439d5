/- What Begin answers is valid: plain facts. -/
import Derived.Test.YtnpnbpilhfgnfaaGreatDoorMNlAw
import Derived.Test.YtnpnbpilhfgnfaaGreatDoorMValW2
namespace Go.Proofs.YtnpnbpilhfgnfaaGreatDoor
open Go.RowKit Go.Instr
set_option linter.unusedVariables false

/-- A value that a check accepts, or a message that is a string. -/
def okA (x : VV ⊕ ByteArray) : Prop := match x with
  | .inl v => validV v.k v.p v.q v.s v.r = true ∧ -9223372036854775808 ≤ v.p ∧ v.p ≤ 9223372036854775807 ∧ v.s.size ≤ 9223372036854775807
  | .inr m => m.size ≤ 4096
theorem nil_bytes : (ByteArray.mk #[]).toList = [] := by rw [Lib.toList_data]
theorem okA_nil : okA (.inl nilV) := by
  refine ⟨?_, by decide, by decide, by decide⟩
  show validV 0 0 0 ⟨#[]⟩ 0 = true
  unfold validV
  rw [if_pos rfl, nil_bytes]
  rfl
theorem okA_num (p q : Int) : okA (.inl (numVV p q)) := by
  unfold numVV
  split
  · rename_i h
    obtain ⟨b1, b2, b3, b4⟩ := vld_bd h
    refine ⟨?_, by show -9223372036854775808 ≤ p; omega, by show p ≤ 9223372036854775807; omega, by show (0 : Nat) ≤ 9223372036854775807; omega⟩
    show validV 2 p q ⟨#[]⟩ 0 = true
    unfold validV
    rw [if_neg (by omega), if_neg (by omega), if_pos rfl, h, nil_bytes]
    rfl
  · exact okA_nil
theorem okA_int (n : Int) : okA (.inl (intVV n)) := by
  unfold intVV
  split
  · rename_i h
    have hv : vldB n 1 = true := by unfold vldB; simp; omega
    refine ⟨?_, by show -9223372036854775808 ≤ n; omega, by show n ≤ 9223372036854775807; omega, by show (0 : Nat) ≤ 9223372036854775807; omega⟩
    show validV 2 n 1 ⟨#[]⟩ 0 = true
    unfold validV
    rw [if_neg (by omega), if_neg (by omega), if_pos rfl, hv, nil_bytes]
    rfl
  · exact okA_nil
theorem okA_str {s : ByteArray} (h : s.size ≤ 4096) : okA (.inl (strVV s)) := by
  refine ⟨?_, by show -9223372036854775808 ≤ (0 : Int); omega, by show (0 : Int) ≤ 9223372036854775807; omega, by show s.size ≤ 9223372036854775807; omega⟩
  show validV 3 0 0 s 0 = true
  unfold validV
  rw [if_neg (by omega), if_neg (by omega), if_neg (by omega), if_pos rfl, decide_eq_true h]
  rfl
theorem okA_bad {word reason : ByteArray} {i : Int} (hw : word.size ≤ 100) (hr : reason.size ≤ 100) (h0 : -9223372036854775808 ≤ i) (h1 : i ≤ 9223372036854775807) : okA (.inr (badS word i reason)) := by
  have := badS_size word i reason h0 h1
  show (badS word i reason).size ≤ 4096
  omega
theorem fixT_len (p q n : Nat) : (fixT p q n).2.length = n := by
  unfold fixT roundT
  split
  · show (incL _).1.length = n
    rw [incL_len, digsN_len]
  · exact digsN_len _ _ _
theorem fixL_few {P Q N : Int} (hP : -2147483647 ≤ P ∧ P ≤ 2147483647) : (fixL P Q N).1.length ≤ 100 := by
  unfold fixL
  split
  · rename_i h
    simp only [Bool.and_eq_true, decide_eq_true_eq] at h
    obtain ⟨hv, h0, h1⟩ := h
    have hW : (fixT P.natAbs Q.toNat N.toNat).1 ≤ 4611686018427387904 := by
      unfold fixT roundT
      have : P.natAbs / Q.toNat ≤ P.natAbs := Nat.div_le_self _ _
      split
      · dsimp only; split <;> omega
      · dsimp only; omega
    have hl := Lib.itoa_length_le ((fixT P.natAbs Q.toNat N.toNat).1 : Int) (by omega) (by omega)
    have hb := bodyL_len (fixT P.natAbs Q.toNat N.toNat).1 (fixT P.natAbs Q.toNat N.toNat).2
    rw [fixT_len] at hb
    show (decL _ _ _).length ≤ 100
    unfold decL
    split
    · rw [List.length_cons]; omega
    · omega
  · exact Nat.zero_le _
theorem bDig_few {b : Nat} (h2 : 2 ≤ b) : ∀ k u : Nat, u < 2 ^ k → 0 < k → (bDigits b u).length ≤ k
  | 0, _, _, h => by omega
  | k + 1, u, hu, _ => by
    by_cases h : u < b
    · rw [bDigits_small h]; simp
    · rw [bDigits_big h2 h, List.length_append, List.length_singleton]
      have h3 : u / b < 2 ^ k := by
        have h4 : u / b ≤ u / 2 := Nat.div_le_div_left h2 (by omega)
        have h5 : u / 2 < 2 ^ k := by rw [Nat.pow_succ] at hu; omega
        omega
      rcases Nat.eq_zero_or_pos k with h0 | h0
      · subst h0
        have : u / b = 0 := by simpa using h3
        have h6 := Nat.div_eq_zero_iff.1 this
        omega
      · have := bDig_few h2 k (u / b) h3 h0
        omega
theorem baseL_few {P N : Int} (hP : -2147483647 ≤ P ∧ P ≤ 2147483647) : (baseL P N).1.length ≤ 100 := by
  unfold baseL
  split
  · exact Nat.zero_le _
  · rename_i h
    show (bText N.toNat P).length ≤ 100
    unfold bText
    have h2 : 2 ≤ N.toNat := by omega
    split
    · have := bDig_few h2 32 P.natAbs (by omega) (by omega)
      rw [List.length_cons]; omega
    · have := bDig_few h2 32 P.toNat (by omega) (by omega)
      omega
theorem numA_ok {word : ByteArray} {l : List VV} {i : Nat} {m : ByteArray} (hw : word.size ≤ 100) (hi : i ≤ 100000) (h : numA word l i = .inr m) : okA (.inr m) := by
  unfold numA at h
  split at h
  · cases h
  · cases h
    have := gotS_size (argV l (i - 1)).k
    exact okA_bad hw (by omega) (by omega) (by omega)
theorem intA_ok {word : ByteArray} {l : List VV} {i : Nat} {m : ByteArray} {std : Int} {opt : Bool} (hw : word.size ≤ 100) (hi : i ≤ 100000) (h : intA word l i std opt = .inr m) : okA (.inr m) := by
  unfold intA at h
  split at h
  · cases h
  · cases hx : numA word l i with
    | inr m2 =>
      rw [hx] at h
      cases h
      exact numA_ok hw hi hx
    | inl v =>
      rw [hx] at h
      dsimp only at h
      split at h
      · cases h
      · cases h
        exact okA_bad hw (by decide) (by omega) (by omega)
theorem ext_msg {f : Int} {num : Nat → (Int × Int) ⊕ ByteArray} {m : ByteArray} : ∀ k, extR f num k = .inr m → ∃ i, i ≤ k + 1 ∧ num i = .inr m
  | 0, h => ⟨1, Nat.le_refl _, h⟩
  | k + 1, h => by
    have h1 : (match extR f num k with | .inr m => .inr m | .inl b => match num (k + 2) with | .inr m => .inr m | .inl a => .inl (bestN f (cmpT a.1 a.2 b.1 b.2) b a)) = (Sum.inr m : (Int × Int) ⊕ ByteArray) := h
    cases hx : extR f num k with
    | inr m2 =>
      rw [hx] at h1
      cases h1
      obtain ⟨i, hi, hn⟩ := ext_msg k hx
      exact ⟨i, by omega, hn⟩
    | inl b =>
      rw [hx] at h1
      dsimp only at h1
      cases hy : num (k + 2) with
      | inr m2 =>
        rw [hy] at h1
        cases h1
        exact ⟨k + 2, Nat.le_refl _, hy⟩
      | inl a =>
        rw [hy] at h1
        cases h1
theorem one_ok {f : Nat} {word : ByteArray} {l : List VV} (hw : word.size ≤ 100) : okA (oneA f word l) := by
  unfold oneA
  cases hx : numA word l 1 with
  | inr m => exact numA_ok hw (by omega) hx
  | inl v =>
    show okA (.inl (oneV f v.1 v.2))
    unfold oneV
    repeat' split
    all_goals first
      | exact okA_num _ _
      | exact okA_int _
theorem ext_ok {f : Int} {word : ByteArray} {l : List VV} (hw : word.size ≤ 100) (hl : l.length ≤ 1000) : okA (extA f word l) := by
  unfold extA
  cases hx : extR f (numA word l) (l.length - 1) with
  | inr m =>
    obtain ⟨i, hi, hn⟩ := ext_msg _ hx
    exact numA_ok hw (by omega) hn
  | inl v => exact okA_num _ _
theorem plc_ok {word : ByteArray} {l : List VV} (hw : word.size ≤ 100) : okA (placesA word l) := by
  unfold placesA
  cases hx : numA word l 1 with
  | inr m => exact numA_ok hw (by omega) hx
  | inl v =>
    dsimp only
    obtain ⟨b1, b2, b3, b4⟩ := vld_bd (numA_vld hx)
    cases hy : intA word l 2 0 true with
    | inr m => exact intA_ok hw (by omega) hy
    | inl N =>
      dsimp only
      split
      · have := fixL_few (P := v.1) (Q := v.2) (N := N) ⟨b3, b4⟩
        have e := mkS_size (fixL v.1 v.2 N).1
        exact okA_str (by omega)
      · exact okA_bad hw (by decide) (by omega) (by omega)
theorem digits_ok2 {word : ByteArray} {l : List VV} (hw : word.size ≤ 100) : okA (digitsA word l) := by
  unfold digitsA
  cases hx : intA word l 1 0 false with
  | inr m => exact intA_ok hw (by omega) hx
  | inl P =>
    dsimp only
    have hP := intA_bd hx (by omega)
    cases hy : intA word l 2 10 true with
    | inr m => exact intA_ok hw (by omega) hy
    | inl N =>
      dsimp only
      split
      · have := baseL_few (P := P) (N := N) hP
        have e := mkS_size (baseL P N).1
        exact okA_str (by omega)
      · exact okA_bad hw (by decide) (by omega) (by omega)
theorem begin_ok (j : Nat) (hj : j < 11) (l : List VV) (hl : l.length ≤ 1000) : okA (beginA j l) := by
  have hw := word_few j hj
  match j, hj, hw with
  | 0, _, hw => exact one_ok hw
  | 1, _, hw => exact digits_ok2 hw
  | 2, _, hw => exact one_ok hw
  | 3, _, hw => exact one_ok hw
  | 4, _, hw => exact plc_ok hw
  | 5, _, hw => exact one_ok hw
  | 6, _, hw => exact ext_ok hw hl
  | 7, _, hw => exact ext_ok hw hl
  | 8, _, hw => exact one_ok hw
  | 9, _, hw => exact one_ok hw
  | 10, _, hw =>
    show okA (.inl (kindA (argV l 0)))
    unfold kindA
    repeat' split
    all_goals first
      | exact okA_str (by decide)
      | exact okA_nil
end Go.Proofs.YtnpnbpilhfgnfaaGreatDoor
