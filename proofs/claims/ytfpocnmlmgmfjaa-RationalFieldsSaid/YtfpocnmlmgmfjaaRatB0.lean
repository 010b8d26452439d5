/- The operators on 32 bits: plain facts, and the shifts. -/
import Derived.Test.YtfpocnmlmgmfjaaRatR3
namespace Go.Proofs.Ytfpocnmlmgmfjaa
open Go.RowKit
set_option linter.unusedVariables false

def shU (u n : Int) : Int := if 32 ≤ n ∨ n ≤ -32 then 0 else if 0 ≤ n then u * 2 ^ n.toNat % 4294967296 else u / 2 ^ (-n).toNat
def s32 (r : Int) : Int := if 2147483648 ≤ r then r - 4294967296 else r
def opU (op u v n : Int) : Int :=
  if op = 9 then ((u.toNat &&& v.toNat : Nat) : Int) else if op = 10 then ((u.toNat ||| v.toNat : Nat) : Int) else if op = 11 then ((u.toNat ^^^ v.toNat : Nat) : Int)
  else if op = 12 then shU u n else if op = 13 then shU u (-n) else ((4294967295 ^^^ u.toNat : Nat) : Int)
def opOk (op : Int) : Bool := (decide (9 ≤ op) && decide (op ≤ 13)) || (op == 23)
def bitsE (op a b c d : Int) : Int := if opOk op then (if bothB a b c d then (if b = 1 ∧ d = 1 then 0 else 8) else 2) else 2
def bitsV (op a b c d : Int) : Int × Int × Int := if bitsE op a b c d = 0 then intT (s32 (opU op (a % 4294967296) (c % 4294967296) c)) else (0, 0, bitsE op a b c d)
def bitsT (op a b c d : Int) : Int × Int × Int := if op = 23 then bitsV 23 a b 0 1 else bitsV op a b c d

theorem wrap_s32 (x : Int) (h : 0 ≤ x) (h2 : x < 4294967296) : wrap64 (wrap32 x) = s32 x := by
  unfold wrap64 wrap32 s32; split <;> omega

theorem two_pow_pos (n : Nat) : (0 : Int) < 2 ^ n := Int.pow_pos (by omega)
theorem shU_bd (u n : Int) (h : 0 ≤ u) (h2 : u < 4294967296) : 0 ≤ shU u n ∧ shU u n < 4294967296 := by
  unfold shU
  split
  · omega
  · split
    · omega
    · have hp := two_pow_pos (-n).toNat
      have h3 := Int.ediv_nonneg h (Int.le_of_lt hp)
      have h4 : u / 2 ^ (-n).toNat ≤ u := Int.ediv_le_self _ h
      omega

theorem i64_of (x : Int) (h : 0 ≤ x) (h2 : x < 4294967296) : (BitVec.ofInt 64 x).toNat = x.toNat := by
  rw [BitVec.toNat_ofInt]; omega
theorem i64_and32 (x y : Int) (h1 : 0 ≤ x) (h2 : x < 4294967296) (h3 : 0 ≤ y) (h4 : y < 4294967296) : bits .and .i64 x y = ((x.toNat &&& y.toNat : Nat) : Int) := by
  have hx : x.toNat &&& y.toNat < 2 ^ 32 := Nat.and_lt_two_pow _ (by omega)
  show IntKind.i64.wrap ((BitVec.ofInt 64 x &&& BitVec.ofInt 64 y).toNat : Int) = _
  rw [BitVec.toNat_and, i64_of x h1 h2, i64_of y h3 h4, IntKind.wrap_i64]; omega
theorem i64_or32 (x y : Int) (h1 : 0 ≤ x) (h2 : x < 4294967296) (h3 : 0 ≤ y) (h4 : y < 4294967296) : bits .or .i64 x y = ((x.toNat ||| y.toNat : Nat) : Int) := by
  have hx : x.toNat ||| y.toNat < 2 ^ 32 := Nat.or_lt_two_pow (by omega) (by omega)
  show IntKind.i64.wrap ((BitVec.ofInt 64 x ||| BitVec.ofInt 64 y).toNat : Int) = _
  rw [BitVec.toNat_or, i64_of x h1 h2, i64_of y h3 h4, IntKind.wrap_i64]; omega
theorem i64_xor32 (x y : Int) (h1 : 0 ≤ x) (h2 : x < 4294967296) (h3 : 0 ≤ y) (h4 : y < 4294967296) : bits .xor .i64 x y = ((x.toNat ^^^ y.toNat : Nat) : Int) := by
  have hx : x.toNat ^^^ y.toNat < 2 ^ 32 := Nat.xor_lt_two_pow (by omega) (by omega)
  show IntKind.i64.wrap ((BitVec.ofInt 64 x ^^^ BitVec.ofInt 64 y).toNat : Int) = _
  rw [BitVec.toNat_xor, i64_of x h1 h2, i64_of y h3 h4, IntKind.wrap_i64]; omega
theorem i64_mask (n : Int) : bits .and .i64 n 4294967295 = n % 4294967296 := by
  have hm : (BitVec.ofInt 64 4294967295).toNat = 2 ^ 32 - 1 := by decide
  have key : (BitVec.ofInt 64 n &&& BitVec.ofInt 64 4294967295).toNat = (n % ((2 ^ 64 : Nat) : Int)).toNat % 2 ^ 32 := by
    rw [BitVec.toNat_and, BitVec.toNat_ofInt, hm, Nat.and_two_pow_sub_one_eq_mod]
  show IntKind.i64.wrap ((BitVec.ofInt 64 n &&& BitVec.ofInt 64 4294967295).toNat : Nat) = n % 4294967296
  rw [key, IntKind.wrap_i64]
  omega
theorem nat32 (x y : Nat) (hx : x < 4294967296) (hy : y < 4294967296) : x &&& y < 4294967296 ∧ x ||| y < 4294967296 ∧ x ^^^ y < 4294967296 :=
  ⟨Nat.and_lt_two_pow (n := 32) _ (by omega), Nat.or_lt_two_pow (n := 32) (by omega) (by omega), Nat.xor_lt_two_pow (n := 32) (by omega) (by omega)⟩
theorem opU_bd (op u v n : Int) (h : 0 ≤ u) (h2 : u < 4294967296) (h3 : 0 ≤ v) (h4 : v < 4294967296) : 0 ≤ opU op u v n ∧ opU op u v n < 4294967296 := by
  obtain ⟨e1, e2, e3⟩ := nat32 u.toNat v.toNat (by omega) (by omega)
  obtain ⟨_, _, e4⟩ := nat32 4294967295 u.toNat (by omega) (by omega)
  unfold opU
  repeat' split
  all_goals first | omega | exact shU_bd _ _ h h2

theorem opU_23 (u v n : Int) : opU 23 u v n = ((4294967295 ^^^ u.toNat : Nat) : Int) := by
  unfold opU
  rw [if_neg (by omega), if_neg (by omega), if_neg (by omega), if_neg (by omega), if_neg (by omega)]
theorem not_u32 (u v n : Int) (h1 : 0 ≤ u) (h2 : u < 4294967296) : opU 23 u v n = bits .xor .u32 IntKind.u32.max u := by
  have hm : (IntKind.u32.max : Int) = 4294967295 := by decide
  rw [opU_23, hm, u32_xor 4294967295 u (by omega) (by omega) h1 h2]
  rfl

set_option maxHeartbeats 400000 in
theorem shift_any (u n : Int) (w : World) (h : 0 ≤ u) (h2 : u < 4294967296) (h3 : -2147483647 ≤ n) (h4 : n ≤ 2147483647) :
    Calls Try.prog 56 #[.int .u32 u, .int .i64 n] w fun e w' => e = .returned (.int .u32 (shU u n)) ∧ Below w.heap.size w w' := by
  by_cases c1 : 32 ≤ n ∨ n ≤ -32
  · have ht : shU u n = 0 := by unfold shU; rw [if_pos c1]
    rw [ht]
    by_cases c2 : 32 ≤ n
    · clear c1 ht
      go_enter Try.func56, Try.ntmps56
      go_wp2
      go_returns
      exact ⟨rfl, by (repeat' (first | (with_reducible exact Below.refl _ _) | (with_reducible assumption) | (with_reducible refine Below.alloc ?_ ?_ _) | (with_reducible refine below_drewN ?_ _) | (with_reducible refine Below.drew ?_) | (with_reducible refine Below.setCell ?_ ?_ _) | (with_reducible refine below_via (by assumption) ?_ ?_) | (with_reducible exact Nat.le_refl _) | omega | (simp; omega) | (simp; done)))⟩
    · have c3 : n ≤ -32 := by omega
      clear c1 ht
      go_enter Try.func56, Try.ntmps56
      go_wp2
      go_returns
      exact ⟨rfl, by (repeat' (first | (with_reducible exact Below.refl _ _) | (with_reducible assumption) | (with_reducible refine Below.alloc ?_ ?_ _) | (with_reducible refine below_drewN ?_ _) | (with_reducible refine Below.drew ?_) | (with_reducible refine Below.setCell ?_ ?_ _) | (with_reducible refine below_via (by assumption) ?_ ?_) | (with_reducible exact Nat.le_refl _) | omega | (simp; omega) | (simp; done)))⟩
  · have c2 : n < 32 := by omega
    have c3 : -32 < n := by omega
    by_cases c4 : 0 ≤ n
    · have ht : shU u n = u * 2 ^ n.toNat % 4294967296 := by unfold shU; rw [if_neg c1, if_pos c4]
      rw [ht]
      have hm : min n.toNat 32 = n.toNat := by omega
      have HM := Lib.hid hm
      clear c1 ht hm
      go_enter Try.func56, Try.ntmps56
      go_wp2
      go_returns
      refine ⟨ret_int ?_, ?_⟩
      · rw [← HM.out]
      · (repeat' (first | (with_reducible exact Below.refl _ _) | (with_reducible assumption) | (with_reducible refine Below.alloc ?_ ?_ _) | (with_reducible refine below_drewN ?_ _) | (with_reducible refine Below.drew ?_) | (with_reducible refine Below.setCell ?_ ?_ _) | (with_reducible refine below_via (by assumption) ?_ ?_) | (with_reducible exact Nat.le_refl _) | omega | (simp; omega) | (simp; done)))
    · have ht : shU u n = u / 2 ^ (-n).toNat := by unfold shU; rw [if_neg c1, if_neg c4]
      rw [ht]
      have hm : min (-n).toNat 32 = (-n).toNat := by omega
      have HM := Lib.hid hm
      clear c1 ht hm
      go_enter Try.func56, Try.ntmps56
      go_wp2
      go_returns
      refine ⟨ret_int ?_, ?_⟩
      · rw [← HM.out]
      · (repeat' (first | (with_reducible exact Below.refl _ _) | (with_reducible assumption) | (with_reducible refine Below.alloc ?_ ?_ _) | (with_reducible refine below_drewN ?_ _) | (with_reducible refine Below.drew ?_) | (with_reducible refine Below.setCell ?_ ?_ _) | (with_reducible refine below_via (by assumption) ?_ ?_) | (with_reducible exact Nat.le_refl _) | omega | (simp; omega) | (simp; done)))
end Go.Proofs.Ytfpocnmlmgmfjaa
