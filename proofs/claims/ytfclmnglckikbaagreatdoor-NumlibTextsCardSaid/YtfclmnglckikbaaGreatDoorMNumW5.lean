/- The contract of numeral.find, where one digit stands. -/
import Derived.Test.YtfclmnglckikbaaGreatDoorMNumA
namespace Go.Proofs.YtfclmnglckikbaaGreatDoor
open Go.RowKit
set_option linter.unusedVariables false

theorem FindFacts.near0 {s : ByteArray} {i r t : Nat} (F : FindFacts s i (i + 1) r t) (hi : i ≤ s.size) (hs : s.size ≤ 9223372036854775807) (w : World) :
    Calls Tryz.prog 131 #[.string s, .int .i64 (i : Int), .int .i64 10] w fun e w' => e = .returned (.int .i64 ((i : Int) + 1)) ∧ w = w' := F.run0 hi hs w
theorem FindFacts.near16 {s : ByteArray} {i r t : Nat} (F : FindFacts s i (i + 1) r t) (hi : i + 1 + 1 ≤ s.size) (hs : s.size ≤ 9223372036854775807) (w : World) :
    Calls Tryz.prog 131 #[.string s, .int .i64 ((i : Int) + 1 + 1), .int .i64 16] w fun e w' => e = .returned (.int .i64 r) ∧ w = w' := F.run16 hi hs w
theorem FindFacts.near10 {s : ByteArray} {i r t : Nat} (F : FindFacts s i (i + 1) r t) (hi : i + 1 + 1 ≤ s.size) (hs : s.size ≤ 9223372036854775807) (w : World) :
    Calls Tryz.prog 131 #[.string s, .int .i64 ((i : Int) + 1 + 1), .int .i64 10] w fun e w' => e = .returned (.int .i64 t) ∧ w = w' := F.run10 hi hs w

set_option maxHeartbeats 2000000 in
theorem find_near (s : ByteArray) (i r t : Nat) (hi : i ≤ s.size) (hs : s.size ≤ 9223372036854775807) (w : World) (F : FindFacts s i (i + 1) r t) (hjs : i + 1 ≤ s.size) (ht : i + 1 < s.size → i + 2 ≤ t ∧ t ≤ s.size ∧ i + 2 ≤ r ∧ r ≤ s.size) :
    Calls Tryz.prog 118 #[.string s, .int .i64 i] w fun e w' => e = .returned (findV (findL s.data.toList i)) ∧ Below w.heap.size w w' := by
  have HF := Lib.hid F
  clear F
  have hb0 := bat_get s i (by omega)
  have HB0 := Lib.hid hb0
  clear hb0
  have h0s : i < s.size := by omega
  by_cases h1 : i + 1 < s.size
  · have hb := bat_get s (i + 1) h1
    obtain ⟨ht1, ht2, hr1, hr2⟩ := ht h1
    clear ht
    have HB := Lib.hid hb
    clear hb
    by_cases h4 : (s[i]'h0s).toNat = 48 ∧ ((s[i + 1]'h1).toNat = 120 ∨ (s[i + 1]'h1).toNat = 88)
    · obtain ⟨h4, h5⟩ := h4
      by_cases h6 : i + 1 + 1 < r
      all_goals
        rcases h5 with h5 | h5
        all_goals
          go_enter Tryz.func118, Tryz.ntmps118
          go_wp2_with (first | (go_at_call 131; (first | (with_reducible refine (HF.out.near0 hi hs _).mono ?_) | (with_reducible refine (HF.out.near10 (by omega) hs _).mono ?_) | (with_reducible refine (HF.out.near16 (by omega) hs _).mono ?_)); rintro e w' ⟨rfl, rfl⟩))
          ((try simp only [Exit.inBlock, Exit.then]); refine bodyPost_ret (by first | (simp [results, Tryz.results118, go_sem, *]; done) | (simp [results, Tryz.results118, go_sem, *]; rfl) | (simp [results, Tryz.results118, go_sem, ↓IntWalk.iteOmega, *]; try rfl)) rfl ?_)
          have hb := HB.out
          have hb0 := HB0.out
          have hl : s.data.toList.length = s.size := by simp
          first
            | (refine ⟨ret_find _ (findL_hex HF.out.hj HF.out.hr (by omega)) rfl, ?_⟩; (repeat' (first | (with_reducible exact Below.refl _ _) | (with_reducible assumption) | (with_reducible refine Below.alloc ?_ ?_ _) | (with_reducible refine below_drewN ?_ _) | (with_reducible refine Below.drew ?_) | (with_reducible refine Below.setCell ?_ ?_ _) | (with_reducible refine below_via (by assumption) ?_ ?_) | (with_reducible refine below_via (later_below _) ?_ ?_) | (with_reducible exact Nat.le_refl _) | omega | (simp; omega) | (simp; done))))
            | (refine ⟨ret_find _ (findL_int HF.out.hj HF.out.hr HF.out.ht (by omega) (by omega) (by omega)) rfl, ?_⟩; (repeat' (first | (with_reducible exact Below.refl _ _) | (with_reducible assumption) | (with_reducible refine Below.alloc ?_ ?_ _) | (with_reducible refine below_drewN ?_ _) | (with_reducible refine Below.drew ?_) | (with_reducible refine Below.setCell ?_ ?_ _) | (with_reducible refine below_via (by assumption) ?_ ?_) | (with_reducible refine below_via (later_below _) ?_ ?_) | (with_reducible exact Nat.le_refl _) | omega | (simp; omega) | (simp; done))))
    · by_cases h5 : (s[i]'h0s).toNat = 48
      all_goals by_cases h2 : (s[i + 1]'h1).toNat = 46
      all_goals try have h6 : ¬ (s[i + 1]'h1).toNat = 120 := by omega
      all_goals try have h7 : ¬ (s[i + 1]'h1).toNat = 88 := by omega
      all_goals try have h8 : (((s[i + 1]'h1).toNat : Int) == 120) = false := by simp; omega
      all_goals try have h9 : (((s[i + 1]'h1).toNat : Int) == 88) = false := by simp; omega
      all_goals clear h4
      all_goals by_cases h3 : i + 1 + 1 < t
      all_goals
        go_enter Tryz.func118, Tryz.ntmps118
        go_wp2_with (first | (go_at_call 131; (first | (with_reducible refine (HF.out.near0 hi hs _).mono ?_) | (with_reducible refine (HF.out.near10 (by omega) hs _).mono ?_)); rintro e w' ⟨rfl, rfl⟩))
        ((try simp only [Exit.inBlock, Exit.then]); refine bodyPost_ret (by first | (simp [results, Tryz.results118, go_sem, *]; done) | (simp [results, Tryz.results118, go_sem, *]; rfl) | (simp [results, Tryz.results118, go_sem, ↓IntWalk.iteOmega, *]; try rfl)) rfl ?_)
        have hb := HB.out
        have hb0 := HB0.out
        have hl : s.data.toList.length = s.size := by simp
        first
          | (refine ⟨ret_find _ (findL_point HF.out.hj HF.out.hr HF.out.ht (by omega) (by omega) (by omega)) rfl, ?_⟩; (repeat' (first | (with_reducible exact Below.refl _ _) | (with_reducible assumption) | (with_reducible refine Below.alloc ?_ ?_ _) | (with_reducible refine below_drewN ?_ _) | (with_reducible refine Below.drew ?_) | (with_reducible refine Below.setCell ?_ ?_ _) | (with_reducible refine below_via (by assumption) ?_ ?_) | (with_reducible refine below_via (later_below _) ?_ ?_) | (with_reducible exact Nat.le_refl _) | omega | (simp; omega) | (simp; done))))
          | (refine ⟨ret_find _ (findL_int HF.out.hj HF.out.hr HF.out.ht (by omega) (by omega) (by omega)) rfl, ?_⟩; (repeat' (first | (with_reducible exact Below.refl _ _) | (with_reducible assumption) | (with_reducible refine Below.alloc ?_ ?_ _) | (with_reducible refine below_drewN ?_ _) | (with_reducible refine Below.drew ?_) | (with_reducible refine Below.setCell ?_ ?_ _) | (with_reducible refine below_via (by assumption) ?_ ?_) | (with_reducible refine below_via (later_below _) ?_ ?_) | (with_reducible exact Nat.le_refl _) | omega | (simp; omega) | (simp; done))))
  · by_cases h5 : (s[i]'h0s).toNat = 48
    all_goals
      go_enter Tryz.func118, Tryz.ntmps118
      go_wp2_with (first | (go_at_call 131; (first | (with_reducible refine (HF.out.near0 hi hs _).mono ?_) | (with_reducible refine (HF.out.near10 (by omega) hs _).mono ?_)); rintro e w' ⟨rfl, rfl⟩))
      ((try simp only [Exit.inBlock, Exit.then]); refine bodyPost_ret (by first | (simp [results, Tryz.results118, go_sem, *]; done) | (simp [results, Tryz.results118, go_sem, *]; rfl) | (simp [results, Tryz.results118, go_sem, ↓IntWalk.iteOmega, *]; try rfl)) rfl ?_)
      have hl : s.data.toList.length = s.size := by simp
      refine ⟨ret_find _ (findL_int HF.out.hj HF.out.hr HF.out.ht (by omega) (by omega) (by omega)) rfl, ?_⟩
      (repeat' (first | (with_reducible exact Below.refl _ _) | (with_reducible assumption) | (with_reducible refine Below.alloc ?_ ?_ _) | (with_reducible refine below_drewN ?_ _) | (with_reducible refine Below.drew ?_) | (with_reducible refine Below.setCell ?_ ?_ _) | (with_reducible refine below_via (by assumption) ?_ ?_) | (with_reducible refine below_via (later_below _) ?_ ?_) | (with_reducible exact Nat.le_refl _) | omega | (simp; omega) | (simp; done)))

theorem find_any (s : ByteArray) (i : Nat) (hi : i ≤ s.size) (hs : s.size ≤ 9223372036854775807) (w : World) :
    Calls Tryz.prog 118 #[.string s, .int .i64 i] w fun e w' => e = .returned (findV (findL s.data.toList i)) ∧ Below w.heap.size w w' := by
  have hl : s.data.toList.length = s.size := by simp
  have hle := runL_le s.data.toList 10 i (by omega)
  have hge := runL_ge s.data.toList 10 i
  have F : FindFacts s i (runL s.data.toList 10 i) (runL s.data.toList 16 (runL s.data.toList 10 i + 1)) (runL s.data.toList 10 (runL s.data.toList 10 i + 1)) := ⟨rfl, rfl, rfl⟩
  by_cases h1 : runL s.data.toList 10 i = i
  · rw [h1] at F
    exact find_none s i _ _ hi hs w F
  · by_cases h2 : runL s.data.toList 10 i = i + 1
    · rw [h2] at F
      refine find_near s i _ _ hi hs w F (by omega) fun h => ⟨?_, ?_, ?_, ?_⟩
      · exact runL_ge _ _ _
      · have := runL_le s.data.toList 10 (i + 1 + 1) (by omega); omega
      · exact runL_ge _ _ _
      · have := runL_le s.data.toList 16 (i + 1 + 1) (by omega); omega
    · refine find_far s i _ _ _ hi hs w F (by omega) (by omega) fun h => ⟨?_, ?_⟩
      · exact runL_ge _ _ _
      · have := runL_le s.data.toList 10 (runL s.data.toList 10 i + 1) (by omega); omega
end Go.Proofs.YtfclmnglckikbaaGreatDoor
