/- The lexer's keywords and names; the tokens that are words. -/
import Derived.Test.YtemlijadhdejeaaGreatDoorMLxW5
namespace Go.Proofs.YtemlijadhdejeaaGreatDoor
open Go.RowKit Go.Instr
set_option linter.unusedVariables false

end Go.Proofs.YtemlijadhdejeaaGreatDoor

/- The lexer's tokens that are words. -/
namespace Go.Proofs.YtemlijadhdejeaaGreatDoor
open Go.RowKit Go.Instr
set_option linter.unusedVariables false

/-- What a token that is read leaves of the scanner. -/
def TokDid (w : World) (X : Nat) (s : ByteArray) (i ln : Nat) (l : List Tk) (t : TokR) : Prop := (t.e = 0 → Sc w X s (i + t.n) ln (l ++ [⟨t.k, t.x, ln, i⟩])) ∧ (t.e ≠ 0 → Sc w X s i ln l)
theorem TokDid.ok {w : World} {X : Nat} {s : ByteArray} {i ln en : Nat} {l : List Tk} {t : TokR} {k : Int} {x : List UInt8} (h : Sc w X s en ln (l ++ [⟨k, x, ln, i⟩])) (h1 : t.k = k) (h2 : t.x = x) (h3 : i + t.n = en) (h0 : t.e = 0) : TokDid w X s i ln l t :=
  ⟨fun _ => by rw [h1, h2, h3]; exact h, fun h => absurd h0 h⟩
theorem TokDid.err {w : World} {X : Nat} {s : ByteArray} {i ln : Nat} {l : List Tk} {t : TokR} (h : Sc w X s i ln l) (h0 : t.e ≠ 0) : TokDid w X s i ln l t :=
  ⟨fun h1 => absurd h1 h0, fun _ => h⟩
theorem ext_take (s : ByteArray) (i n : Nat) (h : i + n ≤ s.size) : (s.extract i (i + n)).data.toList = (s.data.toList.drop i).take n := by
  rw [Lib.extract_data, Nat.add_sub_cancel_left]
theorem ext_size (s : ByteArray) (i n : Nat) (h : i + n ≤ s.size) : (s.extract i (i + n)).size = n := by
  rw [ByteArray.size_extract]; omega

end Go.Proofs.YtemlijadhdejeaaGreatDoor

/- The lexer's values of digits; escapes. -/
namespace Go.Proofs.YtemlijadhdejeaaGreatDoor
open Go.RowKit Go.Instr
set_option linter.unusedVariables false

theorem hexV_bd (c : UInt8) : hexV c ≤ 168 := by
  have := UInt8.toNat_lt c
  unfold hexV
  repeat' split
  all_goals omega
theorem step_bd {n N b d : Nat} (hn : n ≤ N) (hb : b ≤ 16) (hd : d ≤ 168) : n * b + d ≤ N * 16 + 168 := by
  have := Nat.mul_le_mul hn hb
  omega
theorem valN_snoc (b : Nat) (l : List UInt8) (c : UInt8) : valN b (l ++ [c]) = valN b l * b + hexV c := by unfold valN; rw [List.foldl_append]; rfl
theorem valN_bd {b : Nat} (hb : b ≤ 16) {l : List UInt8} (h : l.length ≤ 3) : valN b l ≤ 100000 := by
  match l, h with
  | [], _ => exact Nat.zero_le _
  | [x], _ =>
    have := hexV_bd x
    show 0 * b + hexV x ≤ _
    omega
  | [x, y], _ =>
    have h1 : 0 * b + hexV x ≤ 168 := by have := hexV_bd x; omega
    have := step_bd h1 hb (hexV_bd y)
    show (0 * b + hexV x) * b + hexV y ≤ _
    omega
  | [x, y, z], _ =>
    have h1 : 0 * b + hexV x ≤ 168 := by have := hexV_bd x; omega
    have := step_bd (step_bd h1 hb (hexV_bd y)) hb (hexV_bd z)
    show ((0 * b + hexV x) * b + hexV y) * b + hexV z ≤ _
    omega
  | x :: y :: z :: u :: l, h => simp at h
theorem take_get (s : ByteArray) (k : Nat) (h : k < s.size) : s.data.toList.take (k + 1) = s.data.toList.take k ++ [s[k]'h] := by
  rw [List.take_succ_eq_append_getElem (by simpa using h)]; rfl

end Go.Proofs.YtemlijadhdejeaaGreatDoor
