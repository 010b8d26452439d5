/- The contract of numeral.run. -/
import Derived.Test.YtpahemohpaaeoaaDoorNumW1
import Derived.Lib.Walk
import Derived.Lib.Strings
namespace Go.Proofs.YtpahemohpaaeoaaDoor
open Go.RowKit
set_option linter.unusedVariables false

theorem bat_get (s : ByteArray) (k : Nat) (h : k < s.size) : bat s.data.toList k = (s[k]'h).toNat := by
  unfold bat
  have h' : k < s.data.toList.length := by simpa using h
  rw [List.getD, List.getElem?_eq_getElem h']
  rfl

set_option maxHeartbeats 2000000 in
theorem run_any (s : ByteArray) (i b : Nat) (hi : i ≤ s.size) (hs : s.size ≤ 9223372036854775807) (hb : b ≤ 16) (w : World) :
    Calls Tryd.prog 64 #[.string s, .int .i64 i, .int .i64 b] w fun e w' => e = .returned (.int .i64 (runL s.data.toList b i)) ∧ w = w' := by
  go_enter Tryd.func64, Tryd.ntmps64
  go_wp2
  go_loop [1] (fun v => ∃ k : Nat, k ≤ s.size ∧ v = .int .i64 (k : Int) ∧ runL s.data.toList b k = runL s.data.toList b i) (fun v => s.size - (Lib.intOf v).toNat)
  case atStart => exact ⟨i, hi, rfl, rfl⟩
  case round =>
    obtain ⟨k, hk, rfl, hr⟩ := hrel
    by_cases h0 : k < s.size
    · have hbk := bat_get s k h0
      have hpd := pd_dv (bat s.data.toList k) b hb
      rw [hbk] at hpd
      by_cases hd : dvN (bat s.data.toList k) < b
      · have h1 := (hpd.2 (by rw [← hbk]; exact hd)).1
        have h2 := (hpd.2 (by rw [← hbk]; exact hd)).2
        go_wp2_with (first | (go_at_call 80; refine (digit_any _ (UInt8.toNat_lt _) _).mono ?_; rintro e w' ⟨rfl, rfl⟩))
        refine ⟨⟨k + 1, by omega, by simp, by rw [← hr]; exact (runL_step _ _ _ (by simpa using h0) hd).symm⟩, ?_⟩
        simp [Lib.intOf]; omega
      · have h1 : ¬ (0 ≤ pdN (s[k]'h0).toNat ∧ pdN (s[k]'h0).toNat < (b : Int)) := fun h => hd (by rw [hbk]; exact hpd.1 h)
        have hst := runL_stop s.data.toList b k (by simpa using h0) hd
        go_wp2_with (first | (go_at_call 80; refine (digit_any _ (UInt8.toNat_lt _) _).mono ?_; rintro e w' ⟨rfl, rfl⟩))
        all_goals (go_ret; refine ⟨ret_int ?_, rfl⟩; rw [← hr, hst])
    · have hke : (k : Int) = s.size := by omega
      go_wp2
      go_ret
      refine ⟨ret_int ?_, rfl⟩
      rw [← hr, runL_end _ _ _ (by simp; omega)]
      omega
end Go.Proofs.YtpahemohpaaeoaaDoor
