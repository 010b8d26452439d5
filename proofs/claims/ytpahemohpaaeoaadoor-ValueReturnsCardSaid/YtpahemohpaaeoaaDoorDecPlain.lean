/- Plain facts on decimals with places: no program in sight. -/
import Derived.Test.YtpahemohpaaeoaaDoorNumPlain
import Derived.Lib.ItoaNum
namespace Go.Proofs.YtpahemohpaaeoaaDoor
set_option linter.unusedVariables false

/-- A decimal digit's name. -/
def digC (d : Nat) : UInt8 := UInt8.ofNat (48 + d)
theorem digC_nat (d : Nat) (h : d < 10) : (digC d).toNat = 48 + d := by unfold digC; simp; omega

/-- The text of a whole number with places, without a sign. -/
def bodyL (whole : Int) (ds : List Nat) : List UInt8 := Lib.itoa whole ++ (if ds = [] then [] else 46 :: ds.map digC)
/-- Whether a whole number with places is zero. -/
def zeroB (whole : Int) (ds : List Nat) : Bool := (whole == 0) && ds.all fun d => d == 0
/-- The text with its sign. -/
def decL (m : Bool) (whole : Int) (ds : List Nat) : List UInt8 := if m && !zeroB whole ds then 45 :: bodyL whole ds else bodyL whole ds

theorem bodyL_first (whole : Int) (ds : List Nat) (h : 0 < ds.length) : bodyL whole (ds.take 1) = (bodyL whole (ds.take 0) ++ [(46 : UInt8)]) ++ [digC (ds[0])] := by
  cases ds with
  | nil => simp at h
  | cons d ds => simp [bodyL]
theorem bodyL_next (whole : Int) (ds : List Nat) (k : Nat) (hk : 0 < k) (h : k < ds.length) : bodyL whole (ds.take (k + 1)) = bodyL whole (ds.take k) ++ [digC (ds[k])] := by
  have h1 : ds.take (k + 1) = ds.take k ++ [ds[k]] := by rw [List.take_succ_eq_append_getElem h]
  have h2 : ds.take k ≠ [] := by
    intro e
    have := congrArg List.length e
    rw [List.length_take, List.length_nil] at this
    omega
  unfold bodyL
  rw [h1]
  generalize ds.take k = m at *
  rw [if_neg h2, if_neg (by simp)]
  simp
theorem zeroB_next (whole : Int) (ds : List Nat) (k : Nat) (h : k < ds.length) : zeroB whole (ds.take (k + 1)) = (zeroB whole (ds.take k) && (ds[k] == 0)) := by
  have h1 : ds.take (k + 1) = ds.take k ++ [ds[k]] := by rw [List.take_succ_eq_append_getElem h]
  unfold zeroB
  rw [h1, List.all_append]
  simp [Bool.and_assoc]
theorem bodyL_len (whole : Int) (ds : List Nat) : (bodyL whole ds).length ≤ (Lib.itoa whole).length + 1 + ds.length := by
  unfold bodyL; split <;> simp <;> omega
theorem itoa_ne (n : Int) : Lib.itoa n ≠ [] := by
  unfold Lib.itoa
  split
  · simp
  · rw [Lib.decDigits]; split <;> simp
theorem bodyL_ne (whole : Int) (ds : List Nat) : bodyL whole ds ≠ [] := by
  unfold bodyL
  intro h
  exact itoa_ne whole (List.append_eq_nil_iff.1 h).1
end Go.Proofs.YtpahemohpaaeoaaDoor
