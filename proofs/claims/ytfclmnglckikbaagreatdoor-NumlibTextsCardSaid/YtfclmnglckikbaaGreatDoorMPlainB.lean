/- The numbers of texts: what Parse and Scan answer, in plain Lean. -/
import Derived.Test.YtfclmnglckikbaaGreatDoorMPlainA
import Derived.Lib.SlTrimSet
import Derived.Lib.IndexLaws
namespace Go.Proofs.YtfclmnglckikbaaGreatDoor
set_option linter.unusedVariables false

/-- The number of a fraction with two parts. -/
def fracT (p q : List UInt8) : Int × Int × Int :=
  if p ≠ [] ∧ q ≠ [] ∧ runL p 10 0 = p.length ∧ runL q 10 0 = q.length then
    match numL 10 p 0, numL 10 q 0 with
    | some a, some b => if b = 0 then (0, 0, 6) else makeT a b
    | _, _ => (0, 0, 6)
  else (0, 0, 4)

/-- The number of a text that is a fraction. -/
def fracL (l : List UInt8) : Int × Int × Int :=
  if Lib.indexByte l 47 = -1 then (0, 0, 4) else fracT (l.take (Lib.indexByte l 47).toNat) (l.drop ((Lib.indexByte l 47).toNat + 1))

/-- The number of a text without sign and blanks. -/
def unsL (u : List UInt8) : Int × Int × Int :=
  match findL u 0 with
  | some f => if f.end_ = u.length then numT u f else fracL u
  | none => fracL u

/-- The negative number, if there is a number. -/
def minusT (m : Bool) (t : Int × Int × Int) : Int × Int × Int := if t.2.2 = 0 then (if m then -t.1 else t.1, t.2.1, 0) else (0, 0, t.2.2)

/-- The bytes that are cut off at both ends of a text. -/
def blankL : List UInt8 := [32, 9, 10, 13]

/-- The number of a text. -/
def parseL (l : List UInt8) : Int × Int × Int :=
  if (Lib.trimS l blankL).head? = some 45 then minusT true (unsL (Lib.trimS l blankL).tail) else minusT false (unsL (Lib.trimS l blankL))

theorem unsL_none {u : List UInt8} (h : findL u 0 = none) : unsL u = fracL u := by unfold unsL; rw [h]
theorem unsL_num {u : List UInt8} {f : Find} (h : findL u 0 = some f) (he : f.end_ = u.length) : unsL u = numT u f := by unfold unsL; rw [h]; exact if_pos he
theorem unsL_far {u : List UInt8} {f : Find} (h : findL u 0 = some f) (he : ¬ f.end_ = u.length) : unsL u = fracL u := by unfold unsL; rw [h]; exact if_neg he

/-- The number at an index, and the index behind it. -/
def scanL (l : List UInt8) (at_ : Int) : Int × Int × Int × Int :=
  if at_ < 0 ∨ (l.length : Int) < at_ then (0, 0, 0, 6)
  else match findL l at_.toNat with
    | none => (0, 0, 0, 4)
    | some f => let t := numT l f; if t.2.2 = 0 then (t.1, t.2.1, f.end_, 0) else (0, 0, 0, t.2.2)

theorem digits_of_run {p : List UInt8} (h : runL p 10 0 = p.length) : ∀ c ∈ p, dvN c.toNat < 10 := by
  have := slice_run_digits p 10 0
  rw [h] at this
  unfold sliceL at this
  simpa using this

theorem makeT_bd (n u : Int) : (-2147483647 ≤ (makeT n u).1 ∧ (makeT n u).1 ≤ 2147483647) ∧ (0 ≤ (makeT n u).2.1 ∧ (makeT n u).2.1 ≤ 2147483647) := by
  unfold makeT
  split
  · simp
  · split
    · unfold redT rP rQ
      cases h : redOk n u
      · simp
      · have := redOk_true h
        have := redQ_pos n u
        simp; omega
    · simp
theorem ofNum_bd (o : Option Nat) (u : Nat) : -2147483647 ≤ (ofNum o u).1 ∧ (ofNum o u).1 ≤ 2147483647 := by
  unfold ofNum; split
  · simp
  · exact (makeT_bd _ _).1
theorem numT_bd (l : List UInt8) (f : Find) : -2147483647 ≤ (numT l f).1 ∧ (numT l f).1 ≤ 2147483647 := by
  unfold numT; split
  · exact ofNum_bd _ _
  · split
    · exact ofNum_bd _ _
    · split
      · simp
      · exact ofNum_bd _ _
theorem fracT_bd (p q : List UInt8) : -2147483647 ≤ (fracT p q).1 ∧ (fracT p q).1 ≤ 2147483647 := by
  unfold fracT; split
  · split
    · split
      · simp
      · exact (makeT_bd _ _).1
    · simp
  · simp
theorem fracL_bd (l : List UInt8) : -2147483647 ≤ (fracL l).1 ∧ (fracL l).1 ≤ 2147483647 := by
  unfold fracL; split
  · simp
  · exact fracT_bd _ _
end Go.Proofs.YtfclmnglckikbaaGreatDoor

/- What numlib's functions answer, in plain Lean: values, arguments, actions. No program in sight. -/
namespace Go.Proofs.YtfclmnglckikbaaGreatDoor
set_option linter.unusedVariables false

theorem make_ok {p q : Int} (h : (makeT p q).2.2 = 0) : vldB (makeT p q).1 (makeT p q).2.1 = true := by
  unfold makeT at *
  by_cases hq : q = 0
  · rw [if_pos hq] at h; cases h
  · rw [if_neg hq] at h ⊢
    by_cases hr : -4611686018427387904 ≤ p ∧ p ≤ 4611686018427387904 ∧ -4611686018427387904 ≤ q ∧ q ≤ 4611686018427387904
    · rw [if_pos hr] at h ⊢
      rw [redT_out] at h ⊢
      exact (out_ok h).1
    · rw [if_neg hr] at h; cases h
theorem ofNum_ok {o : Option Nat} {u : Nat} (h : (ofNum o u).2.2 = 0) : vldB (ofNum o u).1 (ofNum o u).2.1 = true := by
  cases o with
  | none => cases h
  | some n => exact make_ok h
theorem numT_ok {l : List UInt8} {f : Find} (h : (numT l f).2.2 = 0) : vldB (numT l f).1 (numT l f).2.1 = true := by
  unfold numT at *
  by_cases h1 : f.hex = true
  · rw [if_pos h1] at h ⊢; exact ofNum_ok h
  · rw [if_neg h1] at h ⊢
    by_cases h2 : f.point < 0
    · rw [if_pos h2] at h ⊢; exact ofNum_ok h
    · rw [if_neg h2] at h ⊢
      by_cases h3 : 9 < f.end_ - (f.point.toNat + 1)
      · rw [if_pos h3] at h; cases h
      · rw [if_neg h3] at h ⊢; exact ofNum_ok h
theorem fracT_ok {p q : List UInt8} (h : (fracT p q).2.2 = 0) : vldB (fracT p q).1 (fracT p q).2.1 = true := by
  unfold fracT at *
  by_cases h1 : p ≠ [] ∧ q ≠ [] ∧ runL p 10 0 = p.length ∧ runL q 10 0 = q.length
  · rw [if_pos h1] at h ⊢
    cases ha : numL 10 p 0 with
    | none => rw [ha] at h; cases h
    | some a =>
      cases hb : numL 10 q 0 with
      | none => rw [ha, hb] at h; cases h
      | some b =>
        rw [ha, hb] at h
        dsimp only at h ⊢
        by_cases h2 : b = 0
        · rw [if_pos h2] at h; cases h
        · rw [if_neg h2] at h ⊢; exact make_ok h
  · rw [if_neg h1] at h; cases h
theorem fracL_ok {l : List UInt8} (h : (fracL l).2.2 = 0) : vldB (fracL l).1 (fracL l).2.1 = true := by
  unfold fracL at *
  by_cases h1 : Lib.indexByte l 47 = -1
  · rw [if_pos h1] at h; cases h
  · rw [if_neg h1] at h ⊢; exact fracT_ok h
theorem unsL_ok {u : List UInt8} (h : (unsL u).2.2 = 0) : vldB (unsL u).1 (unsL u).2.1 = true := by
  cases hf : findL u 0 with
  | none => rw [unsL_none hf] at h ⊢; exact fracL_ok h
  | some f =>
    by_cases he : f.end_ = u.length
    · rw [unsL_num hf he] at h ⊢; exact numT_ok h
    · rw [unsL_far hf he] at h ⊢; exact fracL_ok h
theorem minusT_ok {m : Bool} {t : Int × Int × Int} (h : (minusT m t).2.2 = 0) (ht : t.2.2 = 0 → vldB t.1 t.2.1 = true) : vldB (minusT m t).1 (minusT m t).2.1 = true := by
  unfold minusT at *
  by_cases h0 : t.2.2 = 0
  · rw [if_pos h0]
    dsimp only
    cases m
    · exact ht h0
    · exact neg_vld (ht h0)
  · rw [if_neg h0] at h; exact absurd h h0
theorem parseL_ok {l : List UInt8} (h : (parseL l).2.2 = 0) : vldB (parseL l).1 (parseL l).2.1 = true := by
  unfold parseL at *
  by_cases h1 : (Lib.trimS l blankL).head? = some 45
  · rw [if_pos h1] at h ⊢; exact minusT_ok h unsL_ok
  · rw [if_neg h1] at h ⊢; exact minusT_ok h unsL_ok

/-- A value: its kind, its number, its string, its reference. -/
structure VV where
  k : Int
  p : Int
  q : Int
  s : ByteArray
  r : Int
def nilV : VV := ⟨0, 0, 0, ⟨#[]⟩, 0⟩
def strVV (s : ByteArray) : VV := ⟨3, 0, 0, s, 0⟩
def intVV (n : Int) : VV := if -2147483647 ≤ n ∧ n ≤ 2147483647 then ⟨2, n, 1, ⟨#[]⟩, 0⟩ else nilV
def numVV (p q : Int) : VV := if vldB p q then ⟨2, p, q, ⟨#[]⟩, 0⟩ else nilV
/-- Argument number i, from 0 on; nil behind the last one. -/
def argV (l : List VV) (i : Nat) : VV := l.getD i nilV
theorem argV_lt {l : List VV} {i : Nat} (h : i < l.length) : argV l i = l[i] := by unfold argV; simp [List.getD, h]
theorem argV_ge {l : List VV} {i : Nat} (h : l.length ≤ i) : argV l i = nilV := by unfold argV; simp [List.getD, h]
end Go.Proofs.YtfclmnglckikbaaGreatDoor
