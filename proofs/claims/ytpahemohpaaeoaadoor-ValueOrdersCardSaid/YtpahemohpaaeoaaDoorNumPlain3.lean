/- The numbers of texts: what Parse and Scan answer, in plain Lean. -/
import Derived.Test.YtpahemohpaaeoaaDoorNumPlain2
import Derived.Lib.SlTrimSet
import Derived.Lib.IndexLaws
namespace Go.Proofs.YtpahemohpaaeoaaDoor
set_option linter.unusedVariables false

/-- The number of a fraction with two parts. -/
def fracT (p q : List UInt8) : Int × Int × Int :=
  if p ≠ [] ∧ q ≠ [] ∧ runL p 10 0 = p.length ∧ runL q 10 0 = q.length then
    match numL 10 p 0, numL 10 q 0 with
    | some a, some b => if b = 0 then (0, 0, 6) else makeT a b
    | _, _ => (0, 0, 6)
  else (0, 0, 4)

/-- The number of a text that is a fraction. -/
def fracL (l : List UInt8) : Int × Int × Int :=
  if Lib.indexByte l 47 = -1 then (0, 0, 4) else fracT (l.take (Lib.indexByte l 47).toNat) (l.drop ((Lib.indexByte l 47).toNat + 1))

/-- The number of a text without sign and blanks. -/
def unsL (u : List UInt8) : Int × Int × Int :=
  match findL u 0 with
  | some f => if f.end_ = u.length then numT u f else fracL u
  | none => fracL u

/-- The negative number, if there is a number. -/
def minusT (m : Bool) (t : Int × Int × Int) : Int × Int × Int := if t.2.2 = 0 then (if m then -t.1 else t.1, t.2.1, 0) else (0, 0, t.2.2)

/-- The bytes that are cut off at both ends of a text. -/
def blankL : List UInt8 := [32, 9, 10, 13]

/-- The number of a text. -/
def parseL (l : List UInt8) : Int × Int × Int :=
  if (Lib.trimS l blankL).head? = some 45 then minusT true (unsL (Lib.trimS l blankL).tail) else minusT false (unsL (Lib.trimS l blankL))

theorem unsL_none {u : List UInt8} (h : findL u 0 = none) : unsL u = fracL u := by unfold unsL; rw [h]
theorem unsL_num {u : List UInt8} {f : Find} (h : findL u 0 = some f) (he : f.end_ = u.length) : unsL u = numT u f := by unfold unsL; rw [h]; exact if_pos he
theorem unsL_far {u : List UInt8} {f : Find} (h : findL u 0 = some f) (he : ¬ f.end_ = u.length) : unsL u = fracL u := by unfold unsL; rw [h]; exact if_neg he

/-- The number at an index, and the index behind it. -/
def scanL (l : List UInt8) (at_ : Int) : Int × Int × Int × Int :=
  if at_ < 0 ∨ (l.length : Int) < at_ then (0, 0, 0, 6)
  else match findL l at_.toNat with
    | none => (0, 0, 0, 4)
    | some f => let t := numT l f; if t.2.2 = 0 then (t.1, t.2.1, f.end_, 0) else (0, 0, 0, t.2.2)

theorem digits_of_run {p : List UInt8} (h : runL p 10 0 = p.length) : ∀ c ∈ p, dvN c.toNat < 10 := by
  have := slice_run_digits p 10 0
  rw [h] at this
  unfold sliceL at this
  simpa using this

theorem makeT_bd (n u : Int) : (-2147483647 ≤ (makeT n u).1 ∧ (makeT n u).1 ≤ 2147483647) ∧ (0 ≤ (makeT n u).2.1 ∧ (makeT n u).2.1 ≤ 2147483647) := by
  unfold makeT
  split
  · simp
  · split
    · unfold redT rP rQ
      cases h : redOk n u
      · simp
      · have := redOk_true h
        have := redQ_pos n u
        simp; omega
    · simp
theorem ofNum_bd (o : Option Nat) (u : Nat) : -2147483647 ≤ (ofNum o u).1 ∧ (ofNum o u).1 ≤ 2147483647 := by
  unfold ofNum; split
  · simp
  · exact (makeT_bd _ _).1
theorem numT_bd (l : List UInt8) (f : Find) : -2147483647 ≤ (numT l f).1 ∧ (numT l f).1 ≤ 2147483647 := by
  unfold numT; split
  · exact ofNum_bd _ _
  · split
    · exact ofNum_bd _ _
    · split
      · simp
      · exact ofNum_bd _ _
theorem fracT_bd (p q : List UInt8) : -2147483647 ≤ (fracT p q).1 ∧ (fracT p q).1 ≤ 2147483647 := by
  unfold fracT; split
  · split
    · split
      · simp
      · exact (makeT_bd _ _).1
    · simp
  · simp
theorem fracL_bd (l : List UInt8) : -2147483647 ≤ (fracL l).1 ∧ (fracL l).1 ≤ 2147483647 := by
  unfold fracL; split
  · simp
  · exact fracT_bd _ _
end Go.Proofs.YtpahemohpaaeoaaDoor
