/- The reference's digit, run, number, power: what each call returns. -/
import Derived.Test.YtfclmnglckikbaaGreatDoorMNumB
namespace Go.Proofs.YtfclmnglckikbaaGreatDoor
open Go.RowKit
set_option linter.unusedVariables false

set_option maxHeartbeats 1000000 in
theorem rdigit_any (c : Nat) (hc : c < 256) (w : World) :
    Calls Tryz.prog 135 #[.int .u8 c] w fun e w' => e = .returned (.int .i64 (dvN c)) ∧ w = w' := by
  go_enter Tryz.func135, Tryz.ntmps135
  go_wp2
  all_goals (go_ret; refine ⟨ret_int ?_, rfl⟩; (try dsimp only); unfold dvN; (repeat' split) <;> omega)

set_option maxHeartbeats 2000000 in
theorem rrun_any (s : ByteArray) (i b : Nat) (hi : i ≤ s.size) (hs : s.size ≤ 9223372036854775807) (hb : b ≤ 16) (w : World) :
    Calls Tryz.prog 136 #[.string s, .int .i64 i, .int .i64 b] w fun e w' => e = .returned (.int .i64 (runL s.data.toList b i)) ∧ w = w' := by
  go_enter Tryz.func136, Tryz.ntmps136
  go_wp2
  go_loop [1] (fun v => ∃ k : Nat, k ≤ s.size ∧ v = .int .i64 (k : Int) ∧ runL s.data.toList b k = runL s.data.toList b i) (fun v => s.size - (Lib.intOf v).toNat)
  case atStart => exact ⟨i, hi, rfl, rfl⟩
  case round =>
    obtain ⟨k, hk, rfl, hr⟩ := hrel
    by_cases h0 : k < s.size
    · have hbk := bat_get s k h0
      by_cases hd : dvN (bat s.data.toList k) < b
      · have hd2 := hd
        rw [hbk] at hd2
        have HR := Lib.hid hr
        have HD := Lib.hid hd
        clear hr hd hbk
        go_wp2_with (first | (go_at_call 135; refine (rdigit_any _ (UInt8.toNat_lt _) _).mono ?_; rintro e w' ⟨rfl, rfl⟩))
        refine ⟨⟨k + 1, by omega, by simp, by rw [← HR.out]; exact (runL_step _ _ _ (by simpa using h0) HD.out).symm⟩, ?_⟩
        simp [Lib.intOf]; omega
      · have hst := runL_stop s.data.toList b k (by simpa using h0) hd
        have hd2 := hd
        rw [hbk] at hd2
        have HR := Lib.hid (hst.symm.trans hr)
        clear hr hd hbk hst
        go_wp2_with (first | (go_at_call 135; refine (rdigit_any _ (UInt8.toNat_lt _) _).mono ?_; rintro e w' ⟨rfl, rfl⟩))
        all_goals (go_ret; refine ⟨ret_int ?_, rfl⟩; rw [← HR.out])
    · have hke : (k : Int) = s.size := by omega
      have HR := Lib.hid hr
      clear hr
      go_wp2
      go_ret
      refine ⟨ret_int ?_, rfl⟩
      rw [← HR.out, runL_end _ _ _ (by simp; omega)]
      omega

set_option maxHeartbeats 2000000 in
theorem rnumber_any (s : ByteArray) (b : Nat) (hs : s.size ≤ 9223372036854775807) (hb2 : 2 ≤ b) (hb : b ≤ 16) (hd : ∀ c ∈ s.data.toList, dvN c.toNat < b) (w : World) :
    Calls Tryz.prog 125 #[.string s, .int .i64 b] w fun e w' => e = .returned (numV (numL b s.data.toList 0)) ∧ w = w' := by
  go_enter Tryz.func125, Tryz.ntmps125
  go_wp2
  go_loop [6, 7] (fun v u => ∃ (n : Int) (m k : Nat), n = m ∧ k ≤ s.size ∧ v = .int .i64 n ∧ u = .int .i64 (k : Int) ∧ n ≤ 4611686018427387904 ∧ numL b (s.data.toList.drop k) m = numL b s.data.toList 0) (fun _ u => s.size - (Lib.intOf u).toNat)
  case atStart => exact ⟨0, 0, 0, rfl, Nat.zero_le _, rfl, rfl, by omega, rfl⟩
  case round =>
    obtain ⟨n, m, k, hnm, hk, rfl, rfl, hn, hr⟩ := hrel
    have hn0 : 0 ≤ n := by omega
    by_cases h0 : k < s.size
    · have h0' : k < s.data.toList.length := by simpa using h0
      have hmem : s[k]'h0 ∈ s.data.toList := List.getElem_mem h0'
      have hdk := hd _ hmem
      rw [List.drop_eq_getElem_cons h0'] at hr
      have hpe : ((dvN (s[k]'h0).toNat : Nat) : Int) = dvN (s[k]'h0).toNat := rfl
      obtain ⟨d, hdd⟩ : ∃ d : Int, d = ((dvN (s[k]'h0).toNat : Nat) : Int) := ⟨_, rfl⟩
      have hd0 : 0 ≤ d := by omega
      have hd1 : d < 16 := by omega
      have hq : (4611686018427387904 - d).tdiv (b : Int) = (((4611686018427387904 - dvN (s[k]'h0).toNat) / b : Nat) : Int) := by
        rw [Int.tdiv_eq_ediv_of_nonneg (by omega)]
        rw [hdd, hpe]
        rw [Int.natCast_ediv]
        congr 1
        omega
      obtain ⟨q, hqq⟩ : ∃ q : Int, q = (4611686018427387904 - d).tdiv (b : Int) := ⟨_, rfl⟩
      have hcon := rdigit_any (s[k]'h0).toNat (UInt8.toNat_lt _)
      rw [← hdd] at hcon
      have hmod := Nat.mod_lt (s[k]'h0).toNat (by decide : 0 < 256)
      have H1 := Lib.hid hq
      have H2 := Lib.hid hr
      have H3 := Lib.hid hdd
      have H4 := Lib.hid hpe
      have H5 := Lib.hid hd
      have H6 := Lib.hid hnm
      have H7 := Lib.hid hqq
      have hqe : q = (4611686018427387904 - d) / (b : Int) := by rw [hqq, Int.tdiv_eq_ediv_of_nonneg (by omega)]
      have H8 := Lib.hid hqe
      clear hq hr hdd hpe hd hnm hqq hmem
      clear hqe
      by_cases hcmp : (4611686018427387904 - d) / (b : Int) < n
      · go_wp2_with (first | (go_at_call 135; refine (hcon _).mono ?_; rintro e w' ⟨rfl, rfl⟩))
        go_returns
        refine ⟨?_, rfl⟩
        have hr := H2.out
        have h1 := H1.out
        have h6 := H6.out
        have h7 := H7.out
        have h8 := H8.out
        have e := numL_no b (s[k]'h0) (s.data.toList.drop (k + 1)) m (by omega)
        have e2 : numL b s.data.toList 0 = none := hr.symm.trans e
        rw [e2]
        rfl
      · have hqm : n * (b : Int) + d ≤ 4611686018427387904 := by
          have hbp : (0 : Int) < b := by omega
          have h1 : n ≤ (4611686018427387904 - d) / (b : Int) := by
            omega
          have := (Int.le_ediv_iff_mul_le hbp).1 h1
          omega
        have hnb0 : 0 ≤ n * (b : Int) := Int.mul_nonneg hn0 (by omega)
        go_wp2_with (first | (go_at_call 135; refine (hcon _).mono ?_; rintro e w' ⟨rfl, rfl⟩))
        have hr := H2.out
        have h1 := H1.out
        have h6 := H6.out
        have h7 := H7.out
        have h8 := H8.out
        have e := numL_go b (s[k]'h0) (s.data.toList.drop (k + 1)) m (by omega)
        have e2 : numL b s.data.toList 0 = _ := hr.symm.trans e
        have e3 : d = dvN (s[k]'h0).toNat := H3.out
        refine ⟨⟨n * b + d, m * b + dvN (s[k]'h0).toNat, k + 1, by rw [h6, e3]; push_cast; rfl, by omega, rfl, by simp, hqm, e2.symm⟩, ?_⟩
        simp [Lib.intOf]; omega
    · have hke : (k : Int) = s.size := by omega
      rw [List.drop_eq_nil_of_le (by simp; omega)] at hr
      go_wp2
      go_returns
      refine ⟨?_, rfl⟩
      have e2 : numL b s.data.toList 0 = some m := hr.symm
      rw [e2]
      try rw [hnm]
      rfl

set_option maxHeartbeats 1000000 in
theorem rpower_any (n : Nat) (hn : n ≤ 9) (w : World) :
    Calls Tryz.prog 137 #[.int .i64 n] w fun e w' => e = .returned (.int .i64 ((10 ^ n : Nat) : Int)) ∧ w = w' := by
  go_enter Tryz.func137, Tryz.ntmps137
  go_wp2
  go_loop [3, 4] (fun v i => ∃ (k : Nat) (u : Int), k ≤ n ∧ i = .int .i64 k ∧ v = .int .i64 u ∧ 1 ≤ u ∧ u ≤ 1000000000 ∧ Hid (u = 10 ^ k)) (fun _ i => n - (intOf i).toNat)
  case atStart => exact ⟨0, 1, Nat.zero_le _, rfl, rfl, by omega, by omega, rfl⟩
  case round =>
    obtain ⟨k, u, hk, rfl, rfl, hu1, hu2, hu⟩ := hrel
    by_cases hlt : k < n
    · have hu3 : u * 10 = 10 ^ (k + 1) := by rw [Int.pow_succ, ← hu.out]
      have hu4 := ten_pow (k + 1) (by omega)
      rw [← hu3] at hu4
      have HU := Lib.hid hu3
      obtain ⟨hu4, hu5⟩ := hu4
      clear hu3
      go_wp2_with fail
      exact ⟨⟨k + 1, u * 10, by omega, by go_num, rfl, hu4, hu5, HU⟩, by simp [intOf]; omega⟩
    · obtain rfl : k = n := by omega
      go_wp2_with fail
      go_returns
      refine ⟨ret_int ?_, rfl⟩
      first | (rw [hu.out]; done) | (rw [hu.out]; push_cast; rfl)
end Go.Proofs.YtfclmnglckikbaaGreatDoor
