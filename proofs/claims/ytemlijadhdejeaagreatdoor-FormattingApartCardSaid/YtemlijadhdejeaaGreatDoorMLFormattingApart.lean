/- The law FormattingApart holds: for every input it returns true, and each argument reads as it did, where the library's tables read as its text lays them. No other conditions. -/
import Derived.Test.YtemlijadhdejeaaGreatDoorMFmLv
import Derived.Test.YtemlijadhdejeaaGreatDoorMFmVals
import Derived.Test.YtemlijadhdejeaaGreatDoorMFmLawP
import Derived.Test.YtemlijadhdejeaaGreatDoorMFmApp
import Derived.Test.YtemlijadhdejeaaGreatDoorMLaid
import Derived.Test.YtemlijadhdejeaaGreatDoorCards
import Derived.Test.YtemlijadhdejeaaGreatDoorTie
namespace Go.Proofs.YtemlijadhdejeaaGreatDoor.formattingApart
open Go.ChangeShapes Go.WideShapes Go.ChangeAt Go.RowKit Go.Joins
open Go.ChangeMaps (open_string shut_string)
set_option linter.unusedVariables false
theorem runP_out (l : List VV) : ∀ (P : List Pc) (k : Nat) (out : List UInt8), (runP fmtL l P k out).2.2 = 0 ∨ (runP fmtL l P k out).1 = []
  | [], _, _ => .inl rfl
  | p :: P, k, out => by
    rw [runP]
    split
    · exact runP_out l P k _
    · split
      · exact .inr rfl
      · split
        · exact .inr rfl
        · exact runP_out l P (k + 1) _
theorem fmtR_len (o : Option (List Pc)) (l : List VV) : (fmtR o l).1.length ≤ 4096 := by
  cases o with
  | none => exact Nat.zero_le _
  | some P =>
    show (endF _).1.length ≤ 4096
    unfold endF
    split
    · exact Nat.zero_le _
    · rename_i h
      rcases runP_out l P 0 [] with h0 | h0
      · exact Nat.le_of_not_lt (fun h2 => h ⟨h0, h2⟩)
      · rw [h0]; exact Nat.zero_le _
theorem add_list (f g : ByteArray) : (f ++ g).data.toList = f.data.toList ++ g.data.toList := by simp

set_option maxHeartbeats 8000000 in
set_option maxRecDepth 100000 in
theorem walk (f : ByteArray) (wf : f.size ≤ maxLen) (g : ByteArray) (wg : g.size ≤ maxLen) (aA : Option Addr) (aN aC : Nat) (aL : List VV) (waN : aN ≤ aC) (waC : aC ≤ 9223372036854775807) (waE : aL.length = aN) (waO : ∀ v ∈ aL, v.wide) (waZ : aA = none → aC = 0) (bA : Option Addr) (bN bC : Nat) (bL : List VV) (wbN : bN ≤ bC) (wbC : bC ≤ 9223372036854775807) (wbE : bL.length = bN) (wbO : ∀ v ∈ bL, v.wide) (wbZ : bA = none → bC = 0) (w : World) (hT : Tabs w) (ma : VsAt w aA aL) (mb : VsAt w bA bL) :
    Calls Tryz.prog 6 #[.string f, .string g, .slice aA aN aC, .slice bA bN bC] w fun e w' => e = .returned (.bool true) ∧ Below w.heap.size w w' := by
  unfold maxLen at wf wg
  subst waE wbE
  have HT := Lib.hid hT
  clear hT
  have HW : Hid (∀ w', Tabs w' → Calls Tryz.prog 11 #[] w' fun e w'' => e = .returned (.bool true) ∧ Below w'.heap.size w' w'') := fun w' h => lives_any w' h
  have hl1 := large_any f aA aC aL w (by omega) (by omega) (fun v hv => (waO v hv).2.2) ma
  have hl2 := large_any g bA bC bL w (by omega) (by omega) (fun v hv => (wbO v hv).2.2) mb
  have hsl : f.data.toList.length = f.size := by simp
  cases hB : bigB f aL
  · rw [hB] at hl1
    cases hB2 : bigB g bL
    · rw [hB2] at hl2
      obtain ⟨k1, k2, k3⟩ := big_no hB
      obtain ⟨j1, j2, j3⟩ := big_no hB2
      have hoka : ∀ v ∈ aL, v.ok := fun v hv => ⟨(waO v hv).1, (waO v hv).2.1, by have := k3 v hv; omega⟩
      have hokb : ∀ v ∈ bL, v.ok := fun v hv => ⟨(wbO v hv).1, (wbO v hv).2.1, by have := j3 v hv; omega⟩
      have HL1 := Lib.hid hl1
      have HL2 := Lib.hid hl2
      have HA := Lib.hid ma
      have HBv := Lib.hid mb
      have HZA := Lib.hid waZ
      have HZB := Lib.hid wbZ
      have hP := fun w' => fpcs_any f w' (by omega)
      cases he : evs f.data.toList with
      | none =>
        have hn : pcsT f.data.toList [] [] = none := by unfold pcsT; rw [he]; rfl
        rw [hn] at hP
        have HP := Lib.hid hP
        clear hl1 hl2 hB hB2 hoka hokb k3 j3 ma mb hP he hn waO wbO waZ wbZ
        go_enter Tryz.func6, Tryz.ntmps6
        go_wp2_with (first | (go_at_call 14; (first | ((with_reducible refine HL1.out.mono ?_); rintro e w1 ⟨rfl, rfl⟩) | ((with_reducible refine HL2.out.mono ?_); rintro e w1 ⟨rfl, rfl⟩))) | (go_at_call 12; (with_reducible refine (HP.out _).mono ?_); rintro e w2 ⟨he2, hb⟩; obtain rfl := he2; (refine mem hb ?_; intro N hN hz hc hf; (try simp at hN); subst hN)))
        go_loopw [12] (fun i wr => i = .int .i64 0 ∧ Hid (wr = w2)) (fun _ _ => 0)
        case atStart => exact ⟨rfl, rfl⟩
        case round =>
          obtain ⟨rfl, HB⟩ := hrel
          have hBw := HB.out
          clear HB
          subst hBw
          go_wp2_with (first | (go_at_call 11; (with_reducible refine (HW.out _ (HT.out.later ?_)).mono ?_); (focus ((repeat' (first | (with_reducible exact Below.refl _ _) | (with_reducible assumption) | (with_reducible refine Below.alloc ?_ ?_ _) | (with_reducible refine below_drewN ?_ _) | (with_reducible refine Below.drew ?_) | (with_reducible refine Below.setCell ?_ ?_ _) | (with_reducible refine below_via (by assumption) ?_ ?_) | (with_reducible refine below_via (later_below _) ?_ ?_) | (with_reducible exact Nat.le_refl _) | omega | (simp; omega) | (simp; done))))); rintro e w9 ⟨rfl, hb9⟩))
          go_returns
          refine ⟨rfl, ?_⟩
          (repeat' (first | (with_reducible exact Below.refl _ _) | (with_reducible assumption) | (with_reducible refine Below.alloc ?_ ?_ _) | (with_reducible refine below_drewN ?_ _) | (with_reducible refine Below.drew ?_) | (with_reducible refine Below.setCell ?_ ?_ _) | (with_reducible refine below_via (by assumption) ?_ ?_) | (with_reducible refine below_via (later_below _) ?_ ?_) | (with_reducible exact Nat.le_refl _) | omega | (simp; omega) | (simp; done)))
      | some E =>
        obtain ⟨hokp, hPn, hPt⟩ := pcs_ok he
        have hn : pcsT f.data.toList [] [] = some (grp E []) := by unfold pcsT; rw [he]; rfl
        have hcg := cnt_grp E [] (evs_dirs _ _ _ (Nat.le_refl _) he).1
        have hlaw := @apart_law f.data.toList g.data.toList E he (aL.take (cntP (grp E []))) bL
        rw [hn] at hP
        have hF1 := fun w' (h : cntP (grp E []) ≤ aL.length) h1 h2 => fformat_any f aA aC (aL.take (cntP (grp E []))) w' (by omega) (by rw [List.length_take]; omega) (fun v hv => hoka v (List.mem_of_mem_take hv)) h1 h2
        rw [hn] at hF1
        have hF2 := fun w' h1 h2 => fformat_any g bA bC bL w' (by omega) (by omega) hokb h1 h2
        have hF3 := fun (a' : Option Addr) (c' : Nat) w' h1 h2 => fformat_any (f ++ g) a' c' (aL.take (cntP (grp E [])) ++ bL) w' (by rw [ByteArray.size_append]; omega) (by rw [List.length_append, List.length_take]; omega) (fun v hv => by
          rcases List.mem_append.1 hv with h | h
          · exact hoka v (List.mem_of_mem_take h)
          · exact hokb v h) h1 h2
        rw [add_list] at hF3
        obtain ⟨R1, hR1⟩ : ∃ R, fmtR (some (grp E [])) (aL.take (cntP (grp E []))) = R := ⟨_, rfl⟩
        obtain ⟨R2, hR2⟩ : ∃ R, fmtR (pcsT g.data.toList [] []) bL = R := ⟨_, rfl⟩
        obtain ⟨R3, hR3⟩ : ∃ R, fmtR (pcsT (f.data.toList ++ g.data.toList) [] []) (aL.take (cntP (grp E [])) ++ bL) = R := ⟨_, rfl⟩
        have HLAW : Hid (cntP (grp E []) ≤ aL.length → (R1.2.2 ≠ 0 ∨ R2.2.2 ≠ 0 → R1.2.2 ≠ 0 ∨ R3.2.2 ≠ 0) ∧ (R1.2.2 = 0 → R2.2.2 = 0 → (4096 < R1.1.length + R2.1.length → R3.2.2 = 14) ∧ (¬ 4096 < R1.1.length + R2.1.length → R3 = (R1.1 ++ R2.1, 0, 0)))) := fun h => hlaw (by rw [List.length_take, hcg] at *; omega) R1 R2 R3 hR1.symm hR2.symm hR3.symm
        have hle1 : R1.1.length ≤ 4096 := by rw [← hR1]; exact fmtR_len _ _
        have hle2 : R2.1.length ≤ 4096 := by rw [← hR2]; exact fmtR_len _ _
        rw [hR1] at hF1
        rw [hR2] at hF2
        rw [hR3] at hF3
        obtain ⟨P, hPE⟩ : ∃ P, grp E [] = P := ⟨_, rfl⟩
        rw [hPE] at hP hF1 hF3 hPn HLAW
        have hPl : P.length ≤ 1000 := by omega
        have hcl := cntP_le P
        obtain ⟨r1, n1, e1⟩ := R1
        obtain ⟨r2, n2, e2⟩ := R2
        obtain ⟨r3, n3, e3⟩ := R3
        dsimp only at hF1 hF2 hF3 HLAW hle1 hle2
        have HP := Lib.hid hP
        have HF1 := Lib.hid hF1
        have HF2 := Lib.hid hF2
        have HF3 := Lib.hid hF3
        clear hl1 hl2 hB hB2 hoka hokb k3 j3 ma mb hP he hn waO wbO waZ wbZ hF1 hF2 hF3 hlaw hcg hR1 hR2 hR3 hPE hPn hPt hokp
        go_enter Tryz.func6, Tryz.ntmps6
        go_wp2_with (first | (go_at_call 14; (first | ((with_reducible refine HL1.out.mono ?_); rintro e w1 ⟨rfl, rfl⟩) | ((with_reducible refine HL2.out.mono ?_); rintro e w1 ⟨rfl, rfl⟩))) | (go_at_call 12; (with_reducible refine (HP.out _).mono ?_); rintro e w2 ⟨⟨v2, he2, hown2⟩, hb2⟩; obtain rfl := he2; obtain ⟨x2, c2, rfl⟩ := own_form hown2; have HO2 := Lib.hid hown2; have HA2 := Lib.hid (HA.out.later hb2); have HB2 := Lib.hid hb2; clear hown2 hb2))
        go_loop [11, 12] (fun m i => ∃ j k : Nat, j ≤ P.length ∧ k + cntP (P.drop j) ≤ cntP P ∧ cntP P ≤ k + cntP (P.drop j) ∧ m = .int .i64 k ∧ i = .int .i64 j) (fun _ i => P.length - (intOf i).toNat)
        case atStart => exact ⟨0, 0, Nat.zero_le _, by rw [List.drop_zero]; omega, by rw [List.drop_zero]; omega, rfl, rfl⟩
        case round =>
          obtain ⟨j, k, hj, hk1, hk2, rfl, rfl⟩ := hrel
          by_cases hlt : j < P.length
          · obtain ⟨g1, e4, hg1, -, hl1, hc1⟩ := own_pcs HO2.out (by omega)
            injection hg1 with hx1 hy1 hz1
            subst hx1
            obtain ⟨-, p1, -⟩ := hc1 j hlt
            have hcd := cntP_drop P j hlt
            obtain ⟨p, hp⟩ : ∃ p, P[j] = p := ⟨_, rfl⟩
            rw [hp] at p1 hcd
            clear hp hc1 hy1 hz1
            by_cases h0 : p.v = 0
            · have b0 : ((p.v : Int) != 0) = false := by rw [h0]; rfl
              rw [if_pos h0] at hcd
              have hk3 : k + cntP (P.drop (j + 1)) ≤ cntP P := by omega
              have hk4 : cntP P ≤ k + cntP (P.drop (j + 1)) := by omega
              clear h0 hcd hk1 hk2
              go_wp2_with fail
              go_round
              case rel => exact ⟨j + 1, k, by omega, hk3, hk4, rfl, by go_num⟩
              case measure => simp [intOf]; omega
            · have b0 : ((p.v : Int) != 0) = true := by rw [bne_iff_ne]; omega
              rw [if_neg h0] at hcd
              have hk3 : k + 1 + cntP (P.drop (j + 1)) ≤ cntP P := by omega
              have hk4 : cntP P ≤ k + 1 + cntP (P.drop (j + 1)) := by omega
              clear h0 hcd hk1 hk2
              go_wp2_with fail
              go_round
              case rel => exact ⟨j + 1, k + 1, by omega, hk3, hk4, by go_num, by go_num⟩
              case measure => simp [intOf]; omega
          · obtain rfl : j = P.length := by omega
            have hkc : k = cntP P := by
              rw [List.drop_length] at hk1 hk2
              rw [show cntP [] = 0 from rfl] at hk1 hk2
              omega
            have hd0 : decide ((P.length : Int) < (P.length : Int)) = false := by simp
            have h2b := HB2.out
            have h2z := HB2.out.size
            rw [← hkc] at HLAW HF1 HF3
            clear hlt hkc hk1 hk2
            by_cases hle : k ≤ aL.length
            · have d1 : decide ((aL.length : Int) < (k : Int)) = false := by simp; omega
              have d1' : decide (aL.length < k) = false := by simp; omega
              have hlaw := HLAW.out hle
              have HFK := Lib.hid (fun w' => HF1.out w' hle)
              have htl : (aL.take k).length = k := by rw [List.length_take]; omega
              obtain ⟨i0, hi0, hz0, hz1, hz2⟩ := info_parts aval_info
              have HTL := Lib.hid htl
              clear htl
              have HFK2 : Hid (∀ w', VsAt w' aA (aL.take k) → Tabs w' → Calls Tryz.prog 15 #[.string f, .slice aA k aC] w' fun e w'' => e = .returned (.tuple #[.string (mkS r1), .int .i64 n1, .int .i64 e1]) ∧ Below w'.heap.size w' w'') := fun w' h1 h2 => by have h := HFK.out w' h1 h2; rw [HTL.out] at h; exact h
              have HF4 : Hid (∀ (a' : Option Addr) (c' : Nat) w', VsAt w' a' (aL.take k ++ bL) → Tabs w' → Calls Tryz.prog 15 #[.string (f ++ g), .slice a' (k + bL.length) c'] w' fun e w'' => e = .returned (.tuple #[.string (mkS r3), .int .i64 n3, .int .i64 e3]) ∧ Below w'.heap.size w' w'') := fun a' c' w' h1 h2 => by have h := HF3.out a' c' w' h1 h2; rw [List.length_append, HTL.out] at h; exact h
              have hfs : (f ++ g).size ≤ 1000 := by rw [ByteArray.size_append]; omega
              have hs1 := mkS_size r1
              have hs2 := mkS_size r2
              have hrc : mkS r1 ++ mkS r2 = mkS (r1 ++ r2) := cat_mk _ _
              by_cases he1 : e1 = 0
              · subst he1
                by_cases he2 : e2 = 0
                · subst he2
                  obtain ⟨q1, q2⟩ := hlaw.2 rfl rfl
                  by_cases hlong : 4096 < r1.length + r2.length
                  · have d3 : decide (4096 < (r1.length : Int) + (r2.length : Int)) = true := by simp; omega
                    obtain rfl : e3 = 14 := q1 hlong
                    clear q1 q2 hlaw HLAW HF1 HF3 HFK hlong
                    go_wp2_with (first | (go_at_call 11; (with_reducible refine (HW.out _ (HT.out.later ?_)).mono ?_); (focus ((repeat' (first | (with_reducible exact Below.refl _ _) | (with_reducible assumption) | (with_reducible refine Below.alloc ?_ ?_ _) | (with_reducible refine below_drewN ?_ _) | (with_reducible refine Below.drew ?_) | (with_reducible refine Below.setCell ?_ ?_ _) | (with_reducible refine below_via (by assumption) ?_ ?_) | (with_reducible refine below_via (later_below _) ?_ ?_) | (with_reducible exact Nat.le_refl _) | omega | (simp; omega) | (simp; done))))); rintro e w9 ⟨rfl, hb9⟩) | (go_at_call 15; (first | ((with_reducible refine (HFK2.out _ (HA2.out.take k) (HT.out.later h2b)).mono ?_); rintro e w3 ⟨rfl, hb3⟩; have H3 := Lib.hid (h2b.trans (hb3.mono h2z)); clear hb3) | ((with_reducible refine (HF2.out _ (HBv.out.later H3.out) (HT.out.later H3.out)).mono ?_); rintro e w4 ⟨rfl, hb4⟩; have H4 := Lib.hid (H3.out.trans (hb4.mono H3.out.size)); have h4z := H4.out.size; clear hb4) | ((with_reducible refine (HF4.out _ _ _ HV6.out (HT.out.later h6b)).mono ?_); rintro e w7 ⟨rfl, hb7⟩; have h7z := hb7.size))) | (at_builtin; (first | (refine wp_vals rfl _ _ rfl w4 w4.heap.size _ [] (AV.lit w4 _ rfl) rfl aA k aC (aL.take k) rfl HTL.out HZA.out (((HA.out.later H4.out).take k).later ((Below.refl _ _).alloc (Nat.le_refl _) _)) ?_ ?_; (focus (simp; omega)); intro v5 w5 hv5; have H5 := Lib.hid hv5; clear hv5) | (refine wp_vals rfl _ _ rfl w4 w4.heap.size _ _ H5.out rfl bA bL.length bC bL rfl rfl HZB.out ((HBv.out.later H4.out).later H5.out.2.1) ?_ ?_; (focus (simp; omega)); intro v6 w6 hv6; have H6 := Lib.hid hv6; clear hv6; obtain ⟨a6, c6, rfl, hvs6⟩ := H6.out.vals; have HV6 := Lib.hid hvs6; have h6b := H4.out.trans (H6.out.2.1.mono h4z); have h6z := h6b.size; clear hvs6))))
                    go_returns
                    refine ⟨rfl, ?_⟩
                    (repeat' (first | (with_reducible exact Below.refl _ _) | (with_reducible assumption) | (with_reducible refine Below.alloc ?_ ?_ _) | (with_reducible refine below_drewN ?_ _) | (with_reducible refine Below.drew ?_) | (with_reducible refine Below.setCell ?_ ?_ _) | (with_reducible refine below_via (by assumption) ?_ ?_) | (with_reducible refine below_via (later_below _) ?_ ?_) | (with_reducible exact Nat.le_refl _) | omega | (simp; omega) | (simp; done)))
                  · have d3 : decide (4096 < (r1.length : Int) + (r2.length : Int)) = false := by simp; omega
                    have q3 := q2 hlong
                    injection q3 with z1 q4
                    injection q4 with z2 z3
                    subst z1 z2 z3
                    clear q1 q2 hlaw HLAW HF1 HF3 HFK hlong
                    go_wp2_with (first | (go_at_call 11; (with_reducible refine (HW.out _ (HT.out.later ?_)).mono ?_); (focus ((repeat' (first | (with_reducible exact Below.refl _ _) | (with_reducible assumption) | (with_reducible refine Below.alloc ?_ ?_ _) | (with_reducible refine below_drewN ?_ _) | (with_reducible refine Below.drew ?_) | (with_reducible refine Below.setCell ?_ ?_ _) | (with_reducible refine below_via (by assumption) ?_ ?_) | (with_reducible refine below_via (later_below _) ?_ ?_) | (with_reducible exact Nat.le_refl _) | omega | (simp; omega) | (simp; done))))); rintro e w9 ⟨rfl, hb9⟩) | (go_at_call 15; (first | ((with_reducible refine (HFK2.out _ (HA2.out.take k) (HT.out.later h2b)).mono ?_); rintro e w3 ⟨rfl, hb3⟩; have H3 := Lib.hid (h2b.trans (hb3.mono h2z)); clear hb3) | ((with_reducible refine (HF2.out _ (HBv.out.later H3.out) (HT.out.later H3.out)).mono ?_); rintro e w4 ⟨rfl, hb4⟩; have H4 := Lib.hid (H3.out.trans (hb4.mono H3.out.size)); have h4z := H4.out.size; clear hb4) | ((with_reducible refine (HF4.out _ _ _ HV6.out (HT.out.later h6b)).mono ?_); rintro e w7 ⟨rfl, hb7⟩; have h7z := hb7.size))) | (at_builtin; (first | (refine wp_vals rfl _ _ rfl w4 w4.heap.size _ [] (AV.lit w4 _ rfl) rfl aA k aC (aL.take k) rfl HTL.out HZA.out (((HA.out.later H4.out).take k).later ((Below.refl _ _).alloc (Nat.le_refl _) _)) ?_ ?_; (focus (simp; omega)); intro v5 w5 hv5; have H5 := Lib.hid hv5; clear hv5) | (refine wp_vals rfl _ _ rfl w4 w4.heap.size _ _ H5.out rfl bA bL.length bC bL rfl rfl HZB.out ((HBv.out.later H4.out).later H5.out.2.1) ?_ ?_; (focus (simp; omega)); intro v6 w6 hv6; have H6 := Lib.hid hv6; clear hv6; obtain ⟨a6, c6, rfl, hvs6⟩ := H6.out.vals; have HV6 := Lib.hid hvs6; have h6b := H4.out.trans (H6.out.2.1.mono h4z); have h6z := h6b.size; clear hvs6))))
                    go_returns
                    refine ⟨rfl, ?_⟩
                    (repeat' (first | (with_reducible exact Below.refl _ _) | (with_reducible assumption) | (with_reducible refine Below.alloc ?_ ?_ _) | (with_reducible refine below_drewN ?_ _) | (with_reducible refine Below.drew ?_) | (with_reducible refine Below.setCell ?_ ?_ _) | (with_reducible refine below_via (by assumption) ?_ ?_) | (with_reducible refine below_via (later_below _) ?_ ?_) | (with_reducible exact Nat.le_refl _) | omega | (simp; omega) | (simp; done)))
                · have b2 : (e2 != 0) = true := by rw [bne_iff_ne]; exact he2
                  have b3 : (e3 != 0) = true := by
                    rw [bne_iff_ne]
                    rcases hlaw.1 (.inr he2) with h | h
                    · exact absurd rfl h
                    · exact h
                  clear hlaw HLAW HF1 HF3 HFK
                  go_wp2_with (first | (go_at_call 11; (with_reducible refine (HW.out _ (HT.out.later ?_)).mono ?_); (focus ((repeat' (first | (with_reducible exact Below.refl _ _) | (with_reducible assumption) | (with_reducible refine Below.alloc ?_ ?_ _) | (with_reducible refine below_drewN ?_ _) | (with_reducible refine Below.drew ?_) | (with_reducible refine Below.setCell ?_ ?_ _) | (with_reducible refine below_via (by assumption) ?_ ?_) | (with_reducible refine below_via (later_below _) ?_ ?_) | (with_reducible exact Nat.le_refl _) | omega | (simp; omega) | (simp; done))))); rintro e w9 ⟨rfl, hb9⟩) | (go_at_call 15; (first | ((with_reducible refine (HFK2.out _ (HA2.out.take k) (HT.out.later h2b)).mono ?_); rintro e w3 ⟨rfl, hb3⟩; have H3 := Lib.hid (h2b.trans (hb3.mono h2z)); clear hb3) | ((with_reducible refine (HF2.out _ (HBv.out.later H3.out) (HT.out.later H3.out)).mono ?_); rintro e w4 ⟨rfl, hb4⟩; have H4 := Lib.hid (H3.out.trans (hb4.mono H3.out.size)); have h4z := H4.out.size; clear hb4) | ((with_reducible refine (HF4.out _ _ _ HV6.out (HT.out.later h6b)).mono ?_); rintro e w7 ⟨rfl, hb7⟩; have h7z := hb7.size))) | (at_builtin; (first | (refine wp_vals rfl _ _ rfl w4 w4.heap.size _ [] (AV.lit w4 _ rfl) rfl aA k aC (aL.take k) rfl HTL.out HZA.out (((HA.out.later H4.out).take k).later ((Below.refl _ _).alloc (Nat.le_refl _) _)) ?_ ?_; (focus (simp; omega)); intro v5 w5 hv5; have H5 := Lib.hid hv5; clear hv5) | (refine wp_vals rfl _ _ rfl w4 w4.heap.size _ _ H5.out rfl bA bL.length bC bL rfl rfl HZB.out ((HBv.out.later H4.out).later H5.out.2.1) ?_ ?_; (focus (simp; omega)); intro v6 w6 hv6; have H6 := Lib.hid hv6; clear hv6; obtain ⟨a6, c6, rfl, hvs6⟩ := H6.out.vals; have HV6 := Lib.hid hvs6; have h6b := H4.out.trans (H6.out.2.1.mono h4z); have h6z := h6b.size; clear hvs6))))
                  go_returns
                  refine ⟨rfl, ?_⟩
                  (repeat' (first | (with_reducible exact Below.refl _ _) | (with_reducible assumption) | (with_reducible refine Below.alloc ?_ ?_ _) | (with_reducible refine below_drewN ?_ _) | (with_reducible refine Below.drew ?_) | (with_reducible refine Below.setCell ?_ ?_ _) | (with_reducible refine below_via (by assumption) ?_ ?_) | (with_reducible refine below_via (later_below _) ?_ ?_) | (with_reducible exact Nat.le_refl _) | omega | (simp; omega) | (simp; done)))
              · have b1 : (e1 != 0) = true := by rw [bne_iff_ne]; exact he1
                clear hlaw HLAW HF1 HF3 HFK
                go_wp2_with (first | (go_at_call 11; (with_reducible refine (HW.out _ (HT.out.later ?_)).mono ?_); (focus ((repeat' (first | (with_reducible exact Below.refl _ _) | (with_reducible assumption) | (with_reducible refine Below.alloc ?_ ?_ _) | (with_reducible refine below_drewN ?_ _) | (with_reducible refine Below.drew ?_) | (with_reducible refine Below.setCell ?_ ?_ _) | (with_reducible refine below_via (by assumption) ?_ ?_) | (with_reducible refine below_via (later_below _) ?_ ?_) | (with_reducible exact Nat.le_refl _) | omega | (simp; omega) | (simp; done))))); rintro e w9 ⟨rfl, hb9⟩) | (go_at_call 15; (first | ((with_reducible refine (HFK2.out _ (HA2.out.take k) (HT.out.later h2b)).mono ?_); rintro e w3 ⟨rfl, hb3⟩; have H3 := Lib.hid (h2b.trans (hb3.mono h2z)); clear hb3) | ((with_reducible refine (HF2.out _ (HBv.out.later H3.out) (HT.out.later H3.out)).mono ?_); rintro e w4 ⟨rfl, hb4⟩; have H4 := Lib.hid (H3.out.trans (hb4.mono H3.out.size)); have h4z := H4.out.size; clear hb4) | ((with_reducible refine (HF4.out _ _ _ HV6.out (HT.out.later h6b)).mono ?_); rintro e w7 ⟨rfl, hb7⟩; have h7z := hb7.size))) | (at_builtin; (first | (refine wp_vals rfl _ _ rfl w4 w4.heap.size _ [] (AV.lit w4 _ rfl) rfl aA k aC (aL.take k) rfl HTL.out HZA.out (((HA.out.later H4.out).take k).later ((Below.refl _ _).alloc (Nat.le_refl _) _)) ?_ ?_; (focus (simp; omega)); intro v5 w5 hv5; have H5 := Lib.hid hv5; clear hv5) | (refine wp_vals rfl _ _ rfl w4 w4.heap.size _ _ H5.out rfl bA bL.length bC bL rfl rfl HZB.out ((HBv.out.later H4.out).later H5.out.2.1) ?_ ?_; (focus (simp; omega)); intro v6 w6 hv6; have H6 := Lib.hid hv6; clear hv6; obtain ⟨a6, c6, rfl, hvs6⟩ := H6.out.vals; have HV6 := Lib.hid hvs6; have h6b := H4.out.trans (H6.out.2.1.mono h4z); have h6z := h6b.size; clear hvs6))))
                go_returns
                refine ⟨rfl, ?_⟩
                (repeat' (first | (with_reducible exact Below.refl _ _) | (with_reducible assumption) | (with_reducible refine Below.alloc ?_ ?_ _) | (with_reducible refine below_drewN ?_ _) | (with_reducible refine Below.drew ?_) | (with_reducible refine Below.setCell ?_ ?_ _) | (with_reducible refine below_via (by assumption) ?_ ?_) | (with_reducible refine below_via (later_below _) ?_ ?_) | (with_reducible exact Nat.le_refl _) | omega | (simp; omega) | (simp; done)))
            · have d1 : decide ((aL.length : Int) < (k : Int)) = true := by simp; omega
              have d1' : decide (aL.length < k) = true := by simp; omega
              clear hle
              go_wp2_with (first | (go_at_call 11; (with_reducible refine (HW.out _ (HT.out.later ?_)).mono ?_); (focus ((repeat' (first | (with_reducible exact Below.refl _ _) | (with_reducible assumption) | (with_reducible refine Below.alloc ?_ ?_ _) | (with_reducible refine below_drewN ?_ _) | (with_reducible refine Below.drew ?_) | (with_reducible refine Below.setCell ?_ ?_ _) | (with_reducible refine below_via (by assumption) ?_ ?_) | (with_reducible refine below_via (later_below _) ?_ ?_) | (with_reducible exact Nat.le_refl _) | omega | (simp; omega) | (simp; done))))); rintro e w9 ⟨rfl, hb9⟩))
              go_returns
              refine ⟨rfl, ?_⟩
              (repeat' (first | (with_reducible exact Below.refl _ _) | (with_reducible assumption) | (with_reducible refine Below.alloc ?_ ?_ _) | (with_reducible refine below_drewN ?_ _) | (with_reducible refine Below.drew ?_) | (with_reducible refine Below.setCell ?_ ?_ _) | (with_reducible refine below_via (by assumption) ?_ ?_) | (with_reducible refine below_via (later_below _) ?_ ?_) | (with_reducible exact Nat.le_refl _) | omega | (simp; omega) | (simp; done)))
    · rw [hB2] at hl2
      have HL1 := Lib.hid hl1
      have HL2 := Lib.hid hl2
      clear hl1 hl2 hB hB2
      go_enter Tryz.func6, Tryz.ntmps6
      go_wp2_with (first | (go_at_call 11; (with_reducible refine (HW.out _ (HT.out.later ?_)).mono ?_); (focus ((repeat' (first | (with_reducible exact Below.refl _ _) | (with_reducible assumption) | (with_reducible refine Below.alloc ?_ ?_ _) | (with_reducible refine below_drewN ?_ _) | (with_reducible refine Below.drew ?_) | (with_reducible refine Below.setCell ?_ ?_ _) | (with_reducible refine below_via (by assumption) ?_ ?_) | (with_reducible refine below_via (later_below _) ?_ ?_) | (with_reducible exact Nat.le_refl _) | omega | (simp; omega) | (simp; done))))); rintro e w9 ⟨rfl, hb9⟩) | (go_at_call 14; (first | ((with_reducible refine HL1.out.mono ?_); rintro e w1 ⟨rfl, rfl⟩) | ((with_reducible refine HL2.out.mono ?_); rintro e w1 ⟨rfl, rfl⟩))))
      go_returns
      refine ⟨rfl, ?_⟩
      (repeat' (first | (with_reducible exact Below.refl _ _) | (with_reducible assumption) | (with_reducible refine Below.alloc ?_ ?_ _) | (with_reducible refine below_drewN ?_ _) | (with_reducible refine Below.drew ?_) | (with_reducible refine Below.setCell ?_ ?_ _) | (with_reducible refine below_via (by assumption) ?_ ?_) | (with_reducible refine below_via (later_below _) ?_ ?_) | (with_reducible exact Nat.le_refl _) | omega | (simp; omega) | (simp; done)))
  · rw [hB] at hl1
    have HL1 := Lib.hid hl1
    have HL2 := Lib.hid hl2
    clear hl1 hl2 hB
    go_enter Tryz.func6, Tryz.ntmps6
    go_wp2_with (first | (go_at_call 11; (with_reducible refine (HW.out _ (HT.out.later ?_)).mono ?_); (focus ((repeat' (first | (with_reducible exact Below.refl _ _) | (with_reducible assumption) | (with_reducible refine Below.alloc ?_ ?_ _) | (with_reducible refine below_drewN ?_ _) | (with_reducible refine Below.drew ?_) | (with_reducible refine Below.setCell ?_ ?_ _) | (with_reducible refine below_via (by assumption) ?_ ?_) | (with_reducible refine below_via (later_below _) ?_ ?_) | (with_reducible exact Nat.le_refl _) | omega | (simp; omega) | (simp; done))))); rintro e w9 ⟨rfl, hb9⟩) | (go_at_call 14; (first | ((with_reducible refine HL1.out.mono ?_); rintro e w1 ⟨rfl, rfl⟩) | ((with_reducible refine HL2.out.mono ?_); rintro e w1 ⟨rfl, rfl⟩))))
    go_returns
    refine ⟨rfl, ?_⟩
    (repeat' (first | (with_reducible exact Below.refl _ _) | (with_reducible assumption) | (with_reducible refine Below.alloc ?_ ?_ _) | (with_reducible refine below_drewN ?_ _) | (with_reducible refine Below.drew ?_) | (with_reducible refine Below.setCell ?_ ?_ _) | (with_reducible refine below_via (by assumption) ?_ ?_) | (with_reducible refine below_via (later_below _) ?_ ?_) | (with_reducible exact Nat.le_refl _) | omega | (simp; omega) | (simp; done)))

set_option maxHeartbeats 8000000 in
set_option maxRecDepth 100000 in
theorem lifted (os : Os) (started : os.Started) (H : Type) (enc : TypeId × Value → H) :
    ReturnsInHanded {} Tryz.checked os 6 .any (fun w args => (Rows.formattingApartSpec.pre enc Tryz.prog Tryz.f6 Rows.formattingApartRow.domain false w args ∧ laidMetH Tryz.prog laidS w) ∧ sizedMet enc Tryz.prog Tryz.f6 (OpenSpec.ofChange Rows.formattingApartSpec) false w args) (Rows.formattingApartSpec.post enc Tryz.prog Tryz.f6 false true false false) := by
  refine returnsInHanded_of_change_and (C := Tryz.checked) (X := fun w _ => laidMetH Tryz.prog laidS w) (fun _ _ _ hh h => h.of_heap hh) own started (by kernel_rfl) Tryz.func6
    (ChangeSpec.witness_shaped (enc := enc) (C := Tryz.checked) (os := os) (X := fun w _ => laidMetH Tryz.prog laidS w) false (World.laidAll Tryz.prog os laidS) #[.string ⟨#[]⟩, .string ⟨#[]⟩, .slice none 0 0, .slice none 0 0] 8 (World.laidAll_os _ _ _) (start_shaped os) (by kernel_rfl) (by kernel_rfl) (by kernel_rfl) (start_met os _)) ?_
  intro W base args ds gs before hval0 hW hcnd _ hL _
  have hT := laid_tabs hL
  have hval : ∀ (j : Nat) t v, Tryz.f6.params[j]? = some t → args[j]? = some v → Value.okWide Tryz.prog W .any base t v := hval0
  have hW' := hW
  obtain ⟨p, q, hA0, hV, rfl, hfz, hnd⟩ := hW
  have hA : DataW.TrodAll enc Tryz.prog W 0 (fun _ => true) true Tryz.f6.params.toList args.toList ds p := hA0
  rw [Tryz.params6] at hA hval
  obtain ⟨v0, vs0, d0, ds0, p0, q0, hargs, rfl, rfl, h0, r0⟩ := trodAll_cons hA
  obtain ⟨v1, vs1, d1, ds1, p1, q1, rfl, rfl, rfl, h1, r1⟩ := trodAll_cons r0
  obtain ⟨v2, vs2, d2, ds2, p2, q2, rfl, rfl, rfl, h2, r2⟩ := trodAll_cons r1
  obtain ⟨v3, vs3, d3, ds3, p3, q3, rfl, rfl, rfl, h3, r3⟩ := trodAll_cons r2
  obtain ⟨rfl, rfl, rfl⟩ := trodAll_nil r3
  obtain rfl : args = #[v0, v1, v2, v3] := by cases args; simp_all
  obtain ⟨rfl, rfl⟩ := trodVars_none hV
  have k0 := h0
  have lt0 : ∀ x ∈ p0, x.block < W.heap.size := by obtain ⟨m, hm⟩ := k0; exact DataW.trod_lt m _ _ _ hm
  obtain ⟨f, rfl, -, -, wf⟩ := open_string Tryz.underlying9 (hval 0 9 v0 rfl rfl) h0
  have k1 := h1
  have lt1 : ∀ x ∈ p1, x.block < W.heap.size := by obtain ⟨m, hm⟩ := k1; exact DataW.trod_lt m _ _ _ hm
  obtain ⟨g, rfl, -, -, wg⟩ := open_string Tryz.underlying9 (hval 1 9 v1 rfl rfl) h1
  have k2 := h2
  have lt2 : ∀ x ∈ p2, x.block < W.heap.size := by obtain ⟨m, hm⟩ := k2; exact DataW.trod_lt m _ _ _ hm
  obtain ⟨aA, aN, aC, aL, rfl, waN, waC, waE, waO, waZ, ma⟩ := open_fvals (hval 2 34 v2 rfl rfl) h2
  have k3 := h3
  have lt3 : ∀ x ∈ p3, x.block < W.heap.size := by obtain ⟨m, hm⟩ := k3; exact DataW.trod_lt m _ _ _ hm
  obtain ⟨bA, bN, bC, bL, rfl, wbN, wbC, wbE, wbO, wbZ, mb⟩ := open_fvals (hval 3 34 v3 rfl rfl) h3
  clear hA0 hval0
  refine (walk f wf g wg aA aN aC aL waN waC waE waO waZ bA bN bC bL wbN wbC wbE wbO wbZ W hT ma mb).mono fun e W' ⟨he, bel⟩ => ?_
  subst he
  exact ⟨_, rfl, _, _, _, [], _, [], hW', trodAll_mk1 (shut_bool Tryz.underlying4 _), (trodAll_cons_mk (Below.trod laidOut (by kernel_rfl) (of_decide_eq_true (by kernel_rfl)) k0 bel lt0) (trodAll_cons_mk (Below.trod laidOut (by kernel_rfl) (of_decide_eq_true (by kernel_rfl)) k1 bel lt1) (trodAll_cons_mk (Below.trod laidOut (by kernel_rfl) (of_decide_eq_true (by kernel_rfl)) k2 bel lt2) (trodAll_cons_mk (Below.trod laidOut (by kernel_rfl) (of_decide_eq_true (by kernel_rfl)) k3 bel lt3) trodAll_mk0)))), rfl, bel.frame _, fun h => by cases h⟩

theorem over : Rows.formattingApartRow.holds Tryz.pinned (OpenSpec.ofChange Rows.formattingApartSpec) :=
  OpenClaim.holds_of_wide 6 Tryz.f6 rfl rfl rfl rfl rfl rfl rfl ⟨rfl, rfl, rfl, rfl, rfl⟩ rfl rfl rfl rfl rfl (by kernel_rfl) Tryz.func6 (by kernel_rfl)
    (of_decide_eq_true (by kernel_rfl)) (by unfold Func.isWrapper; first | (rw [if_pos (by decide +kernel)]; kernel_rfl) | (rw [if_neg (by decide +kernel)]; exact ⟨rfl, rfl⟩))
    (fun os started H enc _ => lifted os started H enc)

/-- The given statement: the row, tied. -/
theorem proved : Rows.FormattingApartCardSaid :=
  Claim7.holds_tied_plain_at .later [] [.data, .data, .data, .data, .pinned, .pinned] true _ false over (fun _ h => by cases h) (by kernel_rfl) (fun _ h => by cases h) formattingApart_row_tie rfl ⟨rfl, rfl⟩ (by kernel_rfl) rfl
    (fun f fn hf hfn => by
      obtain rfl : f = 6 := Option.some.inj ((show Tryz.prog.funcNamed Rows.formattingApartRow.func = some 6 by kernel_rfl).symm.trans hf) |>.symm
      obtain rfl : fn = Tryz.f6 := (Option.some.inj (Tryz.func6.symm.trans hfn)).symm
      exact ⟨by kernel_rfl, fun j t ht => by
        rw [Tryz.params6] at ht
        have hm : t ∈ [9, 9, 34, 34] := by simpa using Array.mem_of_getElem? ht
        have hall : ([9, 9, 34, 34].all fun u => !Tryz.prog.wantsStandIn u) = true := by kernel_rfl
        exact (show Tryz.prog.wantsStandIn t = false by simpa using List.all_eq_true.1 hall t hm)⟩)
    (by kernel_rfl)
#print axioms proved
end Go.Proofs.YtemlijadhdejeaaGreatDoor.formattingApart
