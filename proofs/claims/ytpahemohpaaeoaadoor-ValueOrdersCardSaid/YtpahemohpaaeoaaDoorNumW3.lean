/- The contract of numeral.integer. -/
import Derived.Test.YtpahemohpaaeoaaDoorNumW2
namespace Go.Proofs.YtpahemohpaaeoaaDoor
open Go.RowKit
set_option linter.unusedVariables false

def numV (o : Option Nat) : Value := match o with | some n => .tuple #[.int .i64 n, .bool true] | none => .tuple #[.int .i64 0, .bool false]
theorem numV_some {o : Option Nat} {n : Nat} (h : o = some n) : Value.tuple #[.int .i64 (n : Int), .bool true] = numV o := by rw [h]; rfl
theorem numV_none {o : Option Nat} (h : o = none) : Value.tuple #[.int .i64 0, .bool false] = numV o := by rw [h]; rfl

theorem numL_no (b : Nat) (c : UInt8) (l : List UInt8) (n : Nat) (h : n > (4611686018427387904 - dvN c.toNat) / b) : numL b (c :: l) n = none := by rw [numL, if_pos h]
theorem numL_go (b : Nat) (c : UInt8) (l : List UInt8) (n : Nat) (h : ¬ n > (4611686018427387904 - dvN c.toNat) / b) : numL b (c :: l) n = numL b l (n * b + dvN c.toNat) := by rw [numL, if_neg h]

set_option maxHeartbeats 2000000 in
theorem integer_any (s : ByteArray) (b : Nat) (hs : s.size ≤ 9223372036854775807) (hb2 : 2 ≤ b) (hb : b ≤ 16) (hd : ∀ c ∈ s.data.toList, dvN c.toNat < b) (w : World) :
    Calls Tryd.prog 65 #[.string s, .int .i64 b] w fun e w' => e = .returned (numV (numL b s.data.toList 0)) ∧ w = w' := by
  go_enter Tryd.func65, Tryd.ntmps65
  go_wp2
  go_loop [6, 11] (fun v u => ∃ (n : Int) (m k : Nat), n = m ∧ k ≤ s.size ∧ v = .int .i64 n ∧ u = .int .i64 (k : Int) ∧ n ≤ 4611686018427387904 ∧ numL b (s.data.toList.drop k) m = numL b s.data.toList 0) (fun _ u => s.size - (Lib.intOf u).toNat)
  case atStart => exact ⟨0, 0, 0, rfl, Nat.zero_le _, rfl, rfl, by omega, rfl⟩
  case round =>
    obtain ⟨n, m, k, hnm, hk, rfl, rfl, hn, hr⟩ := hrel
    have hn0 : 0 ≤ n := by omega
    by_cases h0 : k < s.size
    · have h0' : k < s.data.toList.length := by simpa using h0
      have hmem : s[k]'h0 ∈ s.data.toList := List.getElem_mem h0'
      have hdk := hd _ hmem
      rw [List.drop_eq_getElem_cons h0'] at hr
      have hpe := pd_eq (s[k]'h0).toNat b hb hdk
      obtain ⟨d, hdd⟩ : ∃ d : Int, d = pdN (s[k]'h0).toNat := ⟨_, rfl⟩
      have hd0 : 0 ≤ d := by omega
      have hd1 : d < 16 := by omega
      have hq : (4611686018427387904 - d).tdiv (b : Int) = (((4611686018427387904 - dvN (s[k]'h0).toNat) / b : Nat) : Int) := by
        rw [Int.tdiv_eq_ediv_of_nonneg (by omega)]
        rw [hdd, hpe]
        rw [Int.natCast_ediv]
        congr 1
        omega
      obtain ⟨q, hqq⟩ : ∃ q : Int, q = (4611686018427387904 - d).tdiv (b : Int) := ⟨_, rfl⟩
      have hcon := digit_any (s[k]'h0).toNat (UInt8.toNat_lt _)
      rw [← hdd] at hcon
      have hmod := Nat.mod_lt (s[k]'h0).toNat (by decide : 0 < 256)
      have H1 := Lib.hid hq
      have H2 := Lib.hid hr
      have H3 := Lib.hid hdd
      have H4 := Lib.hid hpe
      have H5 := Lib.hid hd
      have H6 := Lib.hid hnm
      have H7 := Lib.hid hqq
      have hqe : q = (4611686018427387904 - d) / (b : Int) := by rw [hqq, Int.tdiv_eq_ediv_of_nonneg (by omega)]
      have H8 := Lib.hid hqe
      clear hq hr hdd hpe hd hnm hqq hmem
      clear hqe
      by_cases hcmp : (4611686018427387904 - d) / (b : Int) < n
      · go_wp2_with (first | (go_at_call 80; refine (hcon _).mono ?_; rintro e w' ⟨rfl, rfl⟩))
        go_returns
        refine ⟨?_, rfl⟩
        have hr := H2.out
        have h1 := H1.out
        have h6 := H6.out
        have h7 := H7.out
        have h8 := H8.out
        have e := numL_no b (s[k]'h0) (s.data.toList.drop (k + 1)) m (by omega)
        have e2 : numL b s.data.toList 0 = none := hr.symm.trans e
        rw [e2]
        rfl
      · have hqm : n * (b : Int) + d ≤ 4611686018427387904 := by
          have hbp : (0 : Int) < b := by omega
          have h1 : n ≤ (4611686018427387904 - d) / (b : Int) := by
            omega
          have := (Int.le_ediv_iff_mul_le hbp).1 h1
          omega
        have hnb0 : 0 ≤ n * (b : Int) := Int.mul_nonneg hn0 (by omega)
        go_wp2_with (first | (go_at_call 80; refine (hcon _).mono ?_; rintro e w' ⟨rfl, rfl⟩))
        have hr := H2.out
        have h1 := H1.out
        have h6 := H6.out
        have h7 := H7.out
        have h8 := H8.out
        have e := numL_go b (s[k]'h0) (s.data.toList.drop (k + 1)) m (by omega)
        have e2 : numL b s.data.toList 0 = _ := hr.symm.trans e
        have e3 : d = dvN (s[k]'h0).toNat := H3.out.trans H4.out
        refine ⟨⟨n * b + d, m * b + dvN (s[k]'h0).toNat, k + 1, by rw [h6, e3]; push_cast; rfl, by omega, rfl, by simp, hqm, e2.symm⟩, ?_⟩
        simp [Lib.intOf]; omega
    · have hke : (k : Int) = s.size := by omega
      rw [List.drop_eq_nil_of_le (by simp; omega)] at hr
      go_wp2
      go_returns
      refine ⟨?_, rfl⟩
      have e2 : numL b s.data.toList 0 = some m := hr.symm
      rw [e2]
      try rw [hnm]
      rfl
end Go.Proofs.YtpahemohpaaeoaaDoor
