/- The law NumeralRounds holds: for every input it returns true, and each argument reads as it did, where the library's tables read as its text lays them. No other conditions. -/
import Derived.Test.YtjpegcaooamhfaaDoorNumAw
import Derived.Test.YtjpegcaooamhfaaDoorNumRound
import Derived.Test.YtjpegcaooamhfaaDoorLaid
import Derived.Test.YtjpegcaooamhfaaDoorCards
import Derived.Test.YtjpegcaooamhfaaDoorTie
namespace Go.Proofs.YtjpegcaooamhfaaDoor.numeralRounds
open Go.ChangeShapes Go.WideShapes Go.ChangeAt Go.RowKit Go.Joins
open Go.ChangeMaps (open_string shut_string)
set_option linter.unusedVariables false

set_option maxHeartbeats 4000000 in
set_option maxRecDepth 100000 in
theorem walk (aP aQ : Int) (waP : (Lit.int .i64 aP).wf = true) (waQ : (Lit.int .i64 aQ).wf = true) (places : Int) (wplaces : (Lit.int .u8 places).wf = true) (w : World) (hT : Tabs w) :
    Calls Tryd.prog 11 #[.agg #[.int .i64 aP, .int .i64 aQ], .int .u8 places] w fun e w' => e = .returned (.bool true) ∧ Below w.heap.size w w' := by
  obtain ⟨p1, p2⟩ := bounds_i64 waP
  obtain ⟨n1, n2⟩ := bounds_u8 wplaces
  have HT := Lib.hid hT
  clear hT
  have HA : Hid (Below w.heap.size w w) := Below.refl _ _
  obtain ⟨k, hk, hk9⟩ : ∃ k : Nat, places % 10 = (k : Int) ∧ k ≤ 9 := ⟨(places % 10).toNat, by omega, by omega⟩
  cases hv : vldB aP aQ
  · have HX : Hid (∀ w', Tabs w' → Calls Tryd.prog 20 #[.agg #[.int .i64 aP, .int .i64 aQ], .int .i64 k] w' fun e w'' => e = .returned (.tuple #[.string ⟨#[]⟩, .int .i64 2]) ∧ Below w'.heap.size w' w'') := fun w' hT' => by
      have := fixed_any aP aQ k w' p1 p2 hT'
      unfold fixL at this
      rw [hv, Bool.false_and, if_neg (by simp)] at this
      exact this
    go_enter Tryd.func11, Tryd.ntmps11
    have H0 := Lib.hid (keep2_new w (.int .i64 aP) (.int .i64 aQ) 23)
    have HA : Hid (Below w.heap.size w (w.alloc (.cells #[.int .i64 aP, .int .i64 aQ] 23))) := (Below.refl _ _).alloc (Nat.le_refl _) _
    go_wp2_with fail -- Fixed
    refine (HX.out _ (HT.out.later ?_)).mono ?_
    · have h0 := HA.out
      have hs := h0.size
      (repeat' (first | (with_reducible exact Below.refl _ _) | (with_reducible assumption) | (with_reducible refine Below.alloc ?_ ?_ _) | (with_reducible refine below_drewN ?_ _) | (with_reducible refine Below.drew ?_) | (with_reducible refine Below.setCell ?_ ?_ _) | (with_reducible refine below_via (by assumption) ?_ ?_) | (with_reducible refine below_via (later_below _) ?_ ?_) | (with_reducible exact Nat.le_refl _) | omega | (simp; omega) | (simp; done)))
    rintro e w1 ⟨rfl, hb⟩
    have H0 := Lib.hid (keep2 hb H0.out)
    have HA : Hid (Below w.heap.size w w1) := by
      have h0 := HA.out
      have hs := h0.size
      show Below _ _ _
      (repeat' (first | (with_reducible exact Below.refl _ _) | (with_reducible assumption) | (with_reducible refine Below.alloc ?_ ?_ _) | (with_reducible refine below_drewN ?_ _) | (with_reducible refine Below.drew ?_) | (with_reducible refine Below.setCell ?_ ?_ _) | (with_reducible refine below_via (by assumption) ?_ ?_) | (with_reducible refine below_via (later_below _) ?_ ?_) | (with_reducible exact Nat.le_refl _) | omega | (simp; omega) | (simp; done)))
    clear hb
    obtain ⟨H00, H01⟩ := H0.out
    go_wp2_with fail -- Valid
    refine (rvalid_any aP aQ _ p1 p2).mono ?_
    rintro e w2 ⟨rfl, hb⟩
    have HA : Hid (Below w.heap.size w w2) := by
      have h0 := HA.out
      have hs := h0.size
      show Below _ _ _
      (repeat' (first | (with_reducible exact Below.refl _ _) | (with_reducible assumption) | (with_reducible refine Below.alloc ?_ ?_ _) | (with_reducible refine below_drewN ?_ _) | (with_reducible refine Below.drew ?_) | (with_reducible refine Below.setCell ?_ ?_ _) | (with_reducible refine below_via (by assumption) ?_ ?_) | (with_reducible refine below_via (later_below _) ?_ ?_) | (with_reducible exact Nat.le_refl _) | omega | (simp; omega) | (simp; done)))
    clear hb
    go_wp2_with fail -- awake
    refine (awake_any _ (HT.out.later ?_)).mono ?_
    · have h0 := HA.out
      have hs := h0.size
      (repeat' (first | (with_reducible exact Below.refl _ _) | (with_reducible assumption) | (with_reducible refine Below.alloc ?_ ?_ _) | (with_reducible refine below_drewN ?_ _) | (with_reducible refine Below.drew ?_) | (with_reducible refine Below.setCell ?_ ?_ _) | (with_reducible refine below_via (by assumption) ?_ ?_) | (with_reducible refine below_via (later_below _) ?_ ?_) | (with_reducible exact Nat.le_refl _) | omega | (simp; omega) | (simp; done)))
    rintro e wz ⟨rfl, hb⟩
    have HA : Hid (Below w.heap.size w wz) := by
      have h0 := HA.out
      have hs := h0.size
      show Below _ _ _
      (repeat' (first | (with_reducible exact Below.refl _ _) | (with_reducible assumption) | (with_reducible refine Below.alloc ?_ ?_ _) | (with_reducible refine below_drewN ?_ _) | (with_reducible refine Below.drew ?_) | (with_reducible refine Below.setCell ?_ ?_ _) | (with_reducible refine below_via (by assumption) ?_ ?_) | (with_reducible refine below_via (later_below _) ?_ ?_) | (with_reducible exact Nat.le_refl _) | omega | (simp; omega) | (simp; done)))
    clear hb
    go_wp2_with fail -- end
    go_returns
    exact ⟨rfl, HA.out⟩
  · obtain ⟨L, hL⟩ : ∃ L, decL (decide (aP < 0)) (fixT aP.natAbs aQ.toNat k).1 (fixT aP.natAbs aQ.toNat k).2 = L := ⟨_, rfl⟩
    have hlen := fix_len (n := k) hv hk9
    have hlaw := fun b d => round_law (n := k) hv b d
    have HX0 : ∀ w', Tabs w' → Calls Tryd.prog 20 #[.agg #[.int .i64 aP, .int .i64 aQ], .int .i64 k] w' fun e w'' => e = .returned (strE (L, 0)) ∧ Below w'.heap.size w' w'' := fun w' hT' => by
      have := fixed_any aP aQ k w' p1 p2 hT'
      unfold fixL at this
      rw [hv, if_pos (by simp; omega), Int.toNat_natCast, hL] at this
      exact this
    rw [hL] at hlen hlaw
    obtain ⟨S, hS⟩ : ∃ S, mkS L = S := ⟨_, rfl⟩
    have hsz : S.size ≤ 100 := by rw [← hS, mkS_size]; exact hlen
    have hSL : S.data.toList = L := by rw [← hS, mkS_list]
    have HX : Hid (∀ w', Tabs w' → Calls Tryd.prog 20 #[.agg #[.int .i64 aP, .int .i64 aQ], .int .i64 k] w' fun e w'' => e = .returned (.tuple #[.string S, .int .i64 0]) ∧ Below w'.heap.size w' w'') := fun w' hT' => by
      have := HX0 w' hT'
      unfold strE at this
      rw [hS] at this
      exact this
    have hpb := parse_bd L
    have c1 := fun w => parse_any S (by omega) w
    rw [hSL] at c1
    obtain ⟨⟨bP, bQ, bE⟩, hb⟩ : ∃ t, parseL L = t := ⟨_, rfl⟩
    rw [hb] at c1 hpb
    simp only [] at hpb
    have HP : Hid (∀ w', Calls Tryd.prog 16 #[.string S] w' fun e w'' => e = .returned (.tuple #[.agg #[.int .i64 bP, .int .i64 bQ], .int .i64 bE]) ∧ Below w'.heap.size w' w'') := c1
    have c2 := fun w => sub_any aP aQ bP bQ w p1 p2 (by omega) (by omega)
    obtain ⟨⟨dP, dQ, dE⟩, hd⟩ : ∃ t, subT aP aQ bP bQ = t := ⟨_, rfl⟩
    rw [hd] at c2
    have HS : Hid (∀ w', Calls Tryd.prog 27 #[.agg #[.int .i64 aP, .int .i64 aQ], .agg #[.int .i64 bP, .int .i64 bQ]] w' fun e w'' => e = .returned (.tuple #[.agg #[.int .i64 dP, .int .i64 dQ], .int .i64 dE]) ∧ Below w'.heap.size w' w'') := c2
    have hlaw2 := fun h1 h2 => hlaw (bP, bQ, bE) (dP, dQ, dE) hb h1 hd h2
    simp only [] at hlaw2
    clear HX0 hlaw c1 c2 hlen hS hSL hL hb hd
    have hp10 : ∀ j, j ≤ 9 → (10 ^ j : Nat) ≤ 1000000000 := fun j hj => Nat.pow_le_pow_right (by omega) hj
    have HP10 := Lib.hid hp10
    have HLAW := Lib.hid hlaw2
    clear hp10 hlaw2
    go_enter Tryd.func11, Tryd.ntmps11
    have H0 := Lib.hid (keep2_new w (.int .i64 aP) (.int .i64 aQ) 23)
    have HA : Hid (Below w.heap.size w (w.alloc (.cells #[.int .i64 aP, .int .i64 aQ] 23))) := (Below.refl _ _).alloc (Nat.le_refl _) _
    go_wp2_with fail -- Fixed
    refine (HX.out _ (HT.out.later ?_)).mono ?_
    · have h0 := HA.out
      have hs := h0.size
      (repeat' (first | (with_reducible exact Below.refl _ _) | (with_reducible assumption) | (with_reducible refine Below.alloc ?_ ?_ _) | (with_reducible refine below_drewN ?_ _) | (with_reducible refine Below.drew ?_) | (with_reducible refine Below.setCell ?_ ?_ _) | (with_reducible refine below_via (by assumption) ?_ ?_) | (with_reducible refine below_via (later_below _) ?_ ?_) | (with_reducible exact Nat.le_refl _) | omega | (simp; omega) | (simp; done)))
    rintro e w1 ⟨rfl, hb⟩
    have H0 := Lib.hid (keep2 hb H0.out)
    have HA : Hid (Below w.heap.size w w1) := by
      have h0 := HA.out
      have hs := h0.size
      show Below _ _ _
      (repeat' (first | (with_reducible exact Below.refl _ _) | (with_reducible assumption) | (with_reducible refine Below.alloc ?_ ?_ _) | (with_reducible refine below_drewN ?_ _) | (with_reducible refine Below.drew ?_) | (with_reducible refine Below.setCell ?_ ?_ _) | (with_reducible refine below_via (by assumption) ?_ ?_) | (with_reducible refine below_via (later_below _) ?_ ?_) | (with_reducible exact Nat.le_refl _) | omega | (simp; omega) | (simp; done)))
    clear hb
    go_wp2_with fail
    go_loop [8, 9] (fun u i => ∃ j : Nat, j ≤ k ∧ i = .int .i64 j ∧ u = .int .i64 ((10 ^ j : Nat) : Int)) (fun _ i => k - (intOf i).toNat)
    case atStart => exact ⟨0, Nat.zero_le _, rfl, rfl⟩
    case round =>
      obtain ⟨j, hj, rfl, rfl⟩ := hrel
      by_cases hlt : j < k
      · have h9 := HP10.out j (by omega)
        have h10 := HP10.out (j + 1) (by omega)
        obtain ⟨u, hu⟩ : ∃ u, (10 ^ j : Nat) = u := ⟨_, rfl⟩
        have hu2 : (10 ^ (j + 1) : Nat) = u * 10 := by rw [Nat.pow_succ, hu]
        have HU2 := Lib.hid hu2
        rw [hu2] at h10
        rw [hu] at h9 ⊢
        clear hu2 hu
        go_wp2
        refine ⟨⟨j + 1, hlt, by go_num, ?_⟩, by simp [intOf]; omega⟩
        rw [HU2.out]; push_cast; go_num
      · obtain rfl : j = k := by omega
        have h9 := HP10.out j (by omega)
        have hlaw := HLAW.out
        obtain ⟨u, hu⟩ : ∃ u, (10 ^ j : Nat) = u := ⟨_, rfl⟩
        rw [hu] at h9 hlaw ⊢
        clear hu HLAW
        go_wp2_with fail -- Parse
        refine (HP.out _).mono ?_
        rintro e w2 ⟨rfl, hb⟩
        have H0 := Lib.hid (keep2 hb H0.out)
        have H1 := Lib.hid (keep2_new w2 (.int .i64 bP) (.int .i64 bQ) 23)
        have H0 := Lib.hid (keep2_alloc (.cells #[.int .i64 bP, .int .i64 bQ] 23) H0.out)
        have HA : Hid (Below w.heap.size w w2) := by
          have h0 := HA.out
          have hs := h0.size
          show Below _ _ _
          (repeat' (first | (with_reducible exact Below.refl _ _) | (with_reducible assumption) | (with_reducible refine Below.alloc ?_ ?_ _) | (with_reducible refine below_drewN ?_ _) | (with_reducible refine Below.drew ?_) | (with_reducible refine Below.setCell ?_ ?_ _) | (with_reducible refine below_via (by assumption) ?_ ?_) | (with_reducible refine below_via (later_below _) ?_ ?_) | (with_reducible exact Nat.le_refl _) | omega | (simp; omega) | (simp; done)))
        clear hb
        obtain ⟨H00, H01⟩ := H0.out
        obtain ⟨H10, H11⟩ := H1.out
        go_wp2_with fail -- Sub
        refine (HS.out _).mono ?_
        rintro e w3 ⟨rfl, hb⟩
        have H1 := Lib.hid (keep2 hb H1.out)
        have H2 := Lib.hid (keep2_new w3 (.int .i64 dP) (.int .i64 dQ) 23)
        have H1 := Lib.hid (keep2_alloc (.cells #[.int .i64 dP, .int .i64 dQ] 23) H1.out)
        have HA : Hid (Below w.heap.size w w3) := by
          have h0 := HA.out
          have hs := h0.size
          show Below _ _ _
          (repeat' (first | (with_reducible exact Below.refl _ _) | (with_reducible assumption) | (with_reducible refine Below.alloc ?_ ?_ _) | (with_reducible refine below_drewN ?_ _) | (with_reducible refine Below.drew ?_) | (with_reducible refine Below.setCell ?_ ?_ _) | (with_reducible refine below_via (by assumption) ?_ ?_) | (with_reducible refine below_via (later_below _) ?_ ?_) | (with_reducible exact Nat.le_refl _) | omega | (simp; omega) | (simp; done)))
        clear hb
        clear H00 H01 H10 H11
        obtain ⟨H20, H21⟩ := H2.out
        by_cases hbE : bE = 0
        · subst hbE
          by_cases hdE : dE = 0
          · subst hdE
            obtain ⟨⟨q1, q2⟩, q3, q4, q5⟩ := hlaw rfl rfl
            clear hlaw
            rcases Int.lt_trichotomy dP 0 with hs | hs | hs
            · have q6 : 2 * -dP * (u : Int) ≤ dQ := by rw [Int.mul_neg, Int.neg_mul]; exact q2
              have q7 : -9223372036854775808 ≤ 2 * -dP * (u : Int) := by have h := Int.mul_nonneg (a := 2 * -dP) (b := (u : Int)) (by omega) (by omega); omega
              have hmx : max dP (-dP) = -dP := by omega
              clear q1 q2
              go_wp2_with fail -- awake
              refine (awake_any _ (HT.out.later ?_)).mono ?_
              · have h0 := HA.out
                have hs := h0.size
                (repeat' (first | (with_reducible exact Below.refl _ _) | (with_reducible assumption) | (with_reducible refine Below.alloc ?_ ?_ _) | (with_reducible refine below_drewN ?_ _) | (with_reducible refine Below.drew ?_) | (with_reducible refine Below.setCell ?_ ?_ _) | (with_reducible refine below_via (by assumption) ?_ ?_) | (with_reducible refine below_via (later_below _) ?_ ?_) | (with_reducible exact Nat.le_refl _) | omega | (simp; omega) | (simp; done)))
              rintro e wz ⟨rfl, hb⟩
              have HA : Hid (Below w.heap.size w wz) := by
                have h0 := HA.out
                have hs := h0.size
                show Below _ _ _
                (repeat' (first | (with_reducible exact Below.refl _ _) | (with_reducible assumption) | (with_reducible refine Below.alloc ?_ ?_ _) | (with_reducible refine below_drewN ?_ _) | (with_reducible refine Below.drew ?_) | (with_reducible refine Below.setCell ?_ ?_ _) | (with_reducible refine below_via (by assumption) ?_ ?_) | (with_reducible refine below_via (later_below _) ?_ ?_) | (with_reducible exact Nat.le_refl _) | omega | (simp; omega) | (simp; done)))
              clear hb
              go_wp2_with fail -- end
              go_returns
              exact ⟨rfl, HA.out⟩
            · subst hs
              clear q1 q2
              go_wp2_with fail -- awake
              refine (awake_any _ (HT.out.later ?_)).mono ?_
              · have h0 := HA.out
                have hs := h0.size
                (repeat' (first | (with_reducible exact Below.refl _ _) | (with_reducible assumption) | (with_reducible refine Below.alloc ?_ ?_ _) | (with_reducible refine below_drewN ?_ _) | (with_reducible refine Below.drew ?_) | (with_reducible refine Below.setCell ?_ ?_ _) | (with_reducible refine below_via (by assumption) ?_ ?_) | (with_reducible refine below_via (later_below _) ?_ ?_) | (with_reducible exact Nat.le_refl _) | omega | (simp; omega) | (simp; done)))
              rintro e wz ⟨rfl, hb⟩
              have HA : Hid (Below w.heap.size w wz) := by
                have h0 := HA.out
                have hs := h0.size
                show Below _ _ _
                (repeat' (first | (with_reducible exact Below.refl _ _) | (with_reducible assumption) | (with_reducible refine Below.alloc ?_ ?_ _) | (with_reducible refine below_drewN ?_ _) | (with_reducible refine Below.drew ?_) | (with_reducible refine Below.setCell ?_ ?_ _) | (with_reducible refine below_via (by assumption) ?_ ?_) | (with_reducible refine below_via (later_below _) ?_ ?_) | (with_reducible exact Nat.le_refl _) | omega | (simp; omega) | (simp; done)))
              clear hb
              go_wp2_with fail -- end
              go_returns
              exact ⟨rfl, HA.out⟩
            · have q7 : -9223372036854775808 ≤ 2 * dP * (u : Int) := by have h := Int.mul_nonneg (a := 2 * dP) (b := (u : Int)) (by omega) (by omega); omega
              have hmx : max dP (-dP) = dP := by omega
              clear q2
              go_wp2_with fail -- awake
              refine (awake_any _ (HT.out.later ?_)).mono ?_
              · have h0 := HA.out
                have hs := h0.size
                (repeat' (first | (with_reducible exact Below.refl _ _) | (with_reducible assumption) | (with_reducible refine Below.alloc ?_ ?_ _) | (with_reducible refine below_drewN ?_ _) | (with_reducible refine Below.drew ?_) | (with_reducible refine Below.setCell ?_ ?_ _) | (with_reducible refine below_via (by assumption) ?_ ?_) | (with_reducible refine below_via (later_below _) ?_ ?_) | (with_reducible exact Nat.le_refl _) | omega | (simp; omega) | (simp; done)))
              rintro e wz ⟨rfl, hb⟩
              have HA : Hid (Below w.heap.size w wz) := by
                have h0 := HA.out
                have hs := h0.size
                show Below _ _ _
                (repeat' (first | (with_reducible exact Below.refl _ _) | (with_reducible assumption) | (with_reducible refine Below.alloc ?_ ?_ _) | (with_reducible refine below_drewN ?_ _) | (with_reducible refine Below.drew ?_) | (with_reducible refine Below.setCell ?_ ?_ _) | (with_reducible refine below_via (by assumption) ?_ ?_) | (with_reducible refine below_via (later_below _) ?_ ?_) | (with_reducible exact Nat.le_refl _) | omega | (simp; omega) | (simp; done)))
              clear hb
              go_wp2_with fail -- end
              go_returns
              exact ⟨rfl, HA.out⟩
          · have hdE1 : (dE != 0) = true := by simpa using hdE
            go_wp2_with fail -- awake
            refine (awake_any _ (HT.out.later ?_)).mono ?_
            · have h0 := HA.out
              have hs := h0.size
              (repeat' (first | (with_reducible exact Below.refl _ _) | (with_reducible assumption) | (with_reducible refine Below.alloc ?_ ?_ _) | (with_reducible refine below_drewN ?_ _) | (with_reducible refine Below.drew ?_) | (with_reducible refine Below.setCell ?_ ?_ _) | (with_reducible refine below_via (by assumption) ?_ ?_) | (with_reducible refine below_via (later_below _) ?_ ?_) | (with_reducible exact Nat.le_refl _) | omega | (simp; omega) | (simp; done)))
            rintro e wz ⟨rfl, hb⟩
            have HA : Hid (Below w.heap.size w wz) := by
              have h0 := HA.out
              have hs := h0.size
              show Below _ _ _
              (repeat' (first | (with_reducible exact Below.refl _ _) | (with_reducible assumption) | (with_reducible refine Below.alloc ?_ ?_ _) | (with_reducible refine below_drewN ?_ _) | (with_reducible refine Below.drew ?_) | (with_reducible refine Below.setCell ?_ ?_ _) | (with_reducible refine below_via (by assumption) ?_ ?_) | (with_reducible refine below_via (later_below _) ?_ ?_) | (with_reducible exact Nat.le_refl _) | omega | (simp; omega) | (simp; done)))
            clear hb
            go_wp2_with fail -- end
            go_returns
            exact ⟨rfl, HA.out⟩
        · have hbE1 : (bE != 0) = true := by simpa using hbE
          go_wp2_with fail -- awake
          refine (awake_any _ (HT.out.later ?_)).mono ?_
          · have h0 := HA.out
            have hs := h0.size
            (repeat' (first | (with_reducible exact Below.refl _ _) | (with_reducible assumption) | (with_reducible refine Below.alloc ?_ ?_ _) | (with_reducible refine below_drewN ?_ _) | (with_reducible refine Below.drew ?_) | (with_reducible refine Below.setCell ?_ ?_ _) | (with_reducible refine below_via (by assumption) ?_ ?_) | (with_reducible refine below_via (later_below _) ?_ ?_) | (with_reducible exact Nat.le_refl _) | omega | (simp; omega) | (simp; done)))
          rintro e wz ⟨rfl, hb⟩
          have HA : Hid (Below w.heap.size w wz) := by
            have h0 := HA.out
            have hs := h0.size
            show Below _ _ _
            (repeat' (first | (with_reducible exact Below.refl _ _) | (with_reducible assumption) | (with_reducible refine Below.alloc ?_ ?_ _) | (with_reducible refine below_drewN ?_ _) | (with_reducible refine Below.drew ?_) | (with_reducible refine Below.setCell ?_ ?_ _) | (with_reducible refine below_via (by assumption) ?_ ?_) | (with_reducible refine below_via (later_below _) ?_ ?_) | (with_reducible exact Nat.le_refl _) | omega | (simp; omega) | (simp; done)))
          clear hb
          go_wp2_with fail -- end
          go_returns
          exact ⟨rfl, HA.out⟩

set_option maxRecDepth 100000 in
theorem lifted (os : Os) (started : os.Started) (H : Type) (enc : TypeId × Value → H) :
    ReturnsInHanded {} Tryd.checked os 11 .any (fun w args => (Rows.numeralRoundsSpec.pre enc Tryd.prog Tryd.f11 Rows.numeralRoundsRow.domain false w args ∧ laidMetH Tryd.prog laidS w) ∧ sizedMet enc Tryd.prog Tryd.f11 (OpenSpec.ofChange Rows.numeralRoundsSpec) false w args) (Rows.numeralRoundsSpec.post enc Tryd.prog Tryd.f11 false true false false) := by
  refine returnsInHanded_of_change_and (C := Tryd.checked) (X := fun w _ => laidMetH Tryd.prog laidS w) (fun _ _ _ hh h => h.of_heap hh) own started (by kernel_rfl) Tryd.func11
    (ChangeSpec.witness_shaped (enc := enc) (C := Tryd.checked) (os := os) (X := fun w _ => laidMetH Tryd.prog laidS w) false (World.laidAll Tryd.prog os laidS) #[.agg #[.int .i64 0, .int .i64 0], .int .u8 0] 8 (World.laidAll_os _ _ _) (start_shaped os) (by kernel_rfl) (by kernel_rfl) (by kernel_rfl) (start_met os _)) ?_
  intro W base args ds gs before hval0 hW hcnd _ hL _
  have hT := laid_tabs hL
  have hval : ∀ (j : Nat) t v, Tryd.f11.params[j]? = some t → args[j]? = some v → Value.okWide Tryd.prog W .any base t v := hval0
  have hW' := hW
  obtain ⟨p, q, hA0, hV, rfl, hfz, hnd⟩ := hW
  have hA : DataW.TrodAll enc Tryd.prog W 0 (fun _ => true) true Tryd.f11.params.toList args.toList ds p := hA0
  rw [Tryd.params11] at hA hval
  obtain ⟨v0, vs0, d0, ds0, p0, q0, hargs, rfl, rfl, h0, r0⟩ := trodAll_cons hA
  obtain ⟨v1, vs1, d1, ds1, p1, q1, rfl, rfl, rfl, h1, r1⟩ := trodAll_cons r0
  obtain ⟨rfl, rfl, rfl⟩ := trodAll_nil r1
  obtain rfl : args = #[v0, v1] := by cases args; simp_all
  obtain ⟨rfl, rfl⟩ := trodVars_none hV
  have k0 := h0
  have lt0 : ∀ x ∈ p0, x.block < W.heap.size := by obtain ⟨m, hm⟩ := k0; exact DataW.trod_lt m _ _ _ hm
  obtain ⟨c0, e0, y0, z0, m0, rfl, -, -, hy0, hz0⟩ := open_agg2 Tryd.underlying23 (by kernel_rfl) (by kernel_rfl) (hval 0 23 v0 rfl rfl) h0
  obtain ⟨aP, f0, -, waP⟩ := DataW.trod_int Tryd.underlying3 hy0
  obtain ⟨aQ, g0, -, waQ⟩ := DataW.trod_int Tryd.underlying3 hz0
  simp only [List.cons.injEq, and_true] at f0 g0
  subst f0 g0
  have k1 := h1
  have lt1 : ∀ x ∈ p1, x.block < W.heap.size := by obtain ⟨m, hm⟩ := k1; exact DataW.trod_lt m _ _ _ hm
  obtain ⟨places, rfl, -, -, wplaces⟩ := open_int Tryd.underlying5 (hval 1 5 v1 rfl rfl) h1
  clear hA0 hval0
  refine (walk aP aQ waP waQ places wplaces W hT).mono fun e W' ⟨he, bel⟩ => ?_
  subst he
  exact ⟨_, rfl, _, _, _, [], _, [], hW', trodAll_mk1 (shut_bool Tryd.underlying4 _), (trodAll_cons_mk (Below.trod laidOut (by kernel_rfl) (of_decide_eq_true (by kernel_rfl)) k0 bel lt0) (trodAll_cons_mk (Below.trod laidOut (by kernel_rfl) (of_decide_eq_true (by kernel_rfl)) k1 bel lt1) trodAll_mk0)), rfl, bel.frame _, fun h => by cases h⟩

theorem over : Rows.numeralRoundsRow.holds Tryd.pinned (OpenSpec.ofChange Rows.numeralRoundsSpec) :=
  OpenClaim.holds_of_wide 11 Tryd.f11 rfl rfl rfl rfl rfl rfl rfl ⟨rfl, rfl, rfl, rfl, rfl⟩ rfl rfl rfl rfl rfl (by kernel_rfl) Tryd.func11 (by kernel_rfl)
    (of_decide_eq_true (by kernel_rfl)) (by unfold Func.isWrapper; first | (rw [if_pos (by decide +kernel)]; kernel_rfl) | (rw [if_neg (by decide +kernel)]; exact ⟨rfl, rfl⟩))
    (fun os started H enc _ => lifted os started H enc)

/-- The given statement: the row, tied. -/
theorem proved : Rows.NumeralRoundsCardSaid :=
  Claim7.holds_tied_plain_at .later [] [.data, .data, .data, .data, .pinned] true _ false over (fun _ h => by cases h) (by kernel_rfl) (fun _ h => by cases h) numeralRounds_row_tie rfl ⟨rfl, rfl⟩ (by kernel_rfl) rfl
    (fun f fn hf hfn => by
      obtain rfl : f = 11 := Option.some.inj ((show Tryd.prog.funcNamed Rows.numeralRoundsRow.func = some 11 by kernel_rfl).symm.trans hf) |>.symm
      obtain rfl : fn = Tryd.f11 := (Option.some.inj (Tryd.func11.symm.trans hfn)).symm
      exact ⟨by kernel_rfl, fun j t ht => by
        rw [Tryd.params11] at ht
        have hm : t ∈ [23, 5] := by simpa using Array.mem_of_getElem? ht
        have hall : ([23, 5].all fun u => !Tryd.prog.wantsStandIn u) = true := by kernel_rfl
        exact (show Tryd.prog.wantsStandIn t = false by simpa using List.all_eq_true.1 hall t hm)⟩)
    (by kernel_rfl)
#print axioms proved
end Go.Proofs.YtjpegcaooamhfaaDoor.numeralRounds
