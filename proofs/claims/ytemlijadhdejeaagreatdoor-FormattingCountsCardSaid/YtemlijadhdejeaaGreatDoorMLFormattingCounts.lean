/- The law FormattingCounts holds: for every input it returns true, and each argument reads as it did, where the library's tables read as its text lays them. No other conditions. -/
import Derived.Test.YtemlijadhdejeaaGreatDoorMFmLv
import Derived.Test.YtemlijadhdejeaaGreatDoorMFmVals
import Derived.Test.YtemlijadhdejeaaGreatDoorMFmLawP
import Derived.Test.YtemlijadhdejeaaGreatDoorMLaid
import Derived.Test.YtemlijadhdejeaaGreatDoorCards
import Derived.Test.YtemlijadhdejeaaGreatDoorTie
namespace Go.Proofs.YtemlijadhdejeaaGreatDoor.formattingCounts
open Go.ChangeShapes Go.WideShapes Go.ChangeAt Go.RowKit Go.Joins
open Go.ChangeMaps (open_string shut_string)
set_option linter.unusedVariables false

set_option maxHeartbeats 8000000 in
set_option maxRecDepth 100000 in
theorem walk (s : ByteArray) (ws : s.size ≤ maxLen) (lA : Option Addr) (lN lC : Nat) (lL : List VV) (wlN : lN ≤ lC) (wlC : lC ≤ 9223372036854775807) (wlE : lL.length = lN) (wlO : ∀ v ∈ lL, v.wide) (w : World) (hT : Tabs w) (ml : VsAt w lA lL) :
    Calls Tryz.prog 5 #[.string s, .slice lA lN lC] w fun e w' => e = .returned (.bool true) ∧ Below w.heap.size w w' := by
  unfold maxLen at ws
  subst wlE
  have HT := Lib.hid hT
  clear hT
  have HW : Hid (∀ w', Tabs w' → Calls Tryz.prog 11 #[] w' fun e w'' => e = .returned (.bool true) ∧ Below w'.heap.size w' w'') := fun w' h => lives_any w' h
  have hbig := large_any s lA lC lL w (by omega) (by omega) (fun v hv => (wlO v hv).2.2) ml
  have hsl : s.data.toList.length = s.size := by simp
  cases hB : bigB s lL
  · rw [hB] at hbig
    obtain ⟨k1, k2, k3⟩ := big_no hB
    have hok : ∀ v ∈ lL, v.ok := fun v hv => ⟨(wlO v hv).1, (wlO v hv).2.1, by have := k3 v hv; omega⟩
    have HB := Lib.hid hbig
    have HA := Lib.hid ml
    have hP := fun w' => fpcs_any s w' (by omega)
    have hFm := fun w' h1 h2 => fformat_any s lA lC lL w' (by omega) (by omega) hok h1 h2
    cases he : evs s.data.toList with
    | none =>
      have hn : pcsT s.data.toList [] [] = none := by unfold pcsT; rw [he]; rfl
      rw [hn] at hP hFm
      have HP := Lib.hid hP
      have HF : Hid (∀ w', VsAt w' lA lL → Tabs w' → Calls Tryz.prog 15 #[.string s, .slice lA lL.length lC] w' fun e w'' => e = .returned (.tuple #[.string (mkS []), .int .i64 0, .int .i64 4]) ∧ Below w'.heap.size w' w'') := hFm
      clear hbig hB hok k3 ml hP hFm he hn
      go_enter Tryz.func5, Tryz.ntmps5
      go_wp2_with (first | (go_at_call 11; (with_reducible refine (HW.out _ (HT.out.later ?_)).mono ?_); (focus ((repeat' (first | (with_reducible exact Below.refl _ _) | (with_reducible assumption) | (with_reducible refine Below.alloc ?_ ?_ _) | (with_reducible refine below_drewN ?_ _) | (with_reducible refine Below.drew ?_) | (with_reducible refine Below.setCell ?_ ?_ _) | (with_reducible refine below_via (by assumption) ?_ ?_) | (with_reducible refine below_via (later_below _) ?_ ?_) | (with_reducible exact Nat.le_refl _) | omega | (simp; omega) | (simp; done))))); rintro e w9 ⟨rfl, hb9⟩) | (go_at_call 14; (with_reducible refine HB.out.mono ?_); rintro e w1 ⟨rfl, rfl⟩) | (go_at_call 12; (with_reducible refine (HP.out _).mono ?_); rintro e w2 ⟨he2, hb2⟩; have hz2 := hb2.size; obtain rfl := he2; have HA2 := Lib.hid (HA.out.later hb2)) | (go_at_call 15; (with_reducible refine (HF.out _ HA2.out (HT.out.later ?_)).mono ?_); (focus ((repeat' (first | (with_reducible exact Below.refl _ _) | (with_reducible assumption) | (with_reducible refine Below.alloc ?_ ?_ _) | (with_reducible refine below_drewN ?_ _) | (with_reducible refine Below.drew ?_) | (with_reducible refine Below.setCell ?_ ?_ _) | (with_reducible refine below_via (by assumption) ?_ ?_) | (with_reducible refine below_via (later_below _) ?_ ?_) | (with_reducible exact Nat.le_refl _) | omega | (simp; omega) | (simp; done))))); rintro e w3 ⟨rfl, hb3⟩; have hz3 := hb3.size))
      go_returns
      refine ⟨rfl, ?_⟩
      (repeat' (first | (with_reducible exact Below.refl _ _) | (with_reducible assumption) | (with_reducible refine Below.alloc ?_ ?_ _) | (with_reducible refine below_drewN ?_ _) | (with_reducible refine Below.drew ?_) | (with_reducible refine Below.setCell ?_ ?_ _) | (with_reducible refine below_via (by assumption) ?_ ?_) | (with_reducible refine below_via (later_below _) ?_ ?_) | (with_reducible exact Nat.le_refl _) | omega | (simp; omega) | (simp; done)))
    | some E =>
      obtain ⟨hokp, hPn, hPt⟩ := pcs_ok he
      have hn : pcsT s.data.toList [] [] = some (grp E []) := by unfold pcsT; rw [he]; rfl
      rw [hn] at hP hFm
      obtain ⟨P, hPE⟩ : ∃ P, grp E [] = P := ⟨_, rfl⟩
      rw [hPE] at hP hFm hPn
      have hPl : P.length ≤ 1000 := by omega
      have hcl := cntP_le P
      have HCY := Lib.hid (counts_yes lL P)
      have HCN := Lib.hid (counts_no lL P)
      obtain ⟨R1, R2, R3, hR⟩ : ∃ R1 R2 R3, fmtR (some P) lL = (R1, R2, R3) := ⟨_, _, _, rfl⟩
      rw [hR] at hFm HCY HCN
      dsimp only at hFm HCY HCN
      have HP := Lib.hid hP
      have HF := Lib.hid hFm
      clear hbig hB hok k3 ml hP hFm he hn hokp hPt hPE hPn hR
      go_enter Tryz.func5, Tryz.ntmps5
      go_wp2_with (first | (go_at_call 14; (with_reducible refine HB.out.mono ?_); rintro e w1 ⟨rfl, rfl⟩) | (go_at_call 12; (with_reducible refine (HP.out _).mono ?_); rintro e w2 ⟨⟨v2, he2, hown2⟩, hb2⟩; have hz2 := hb2.size; obtain rfl := he2; obtain ⟨x2, c2, rfl⟩ := own_form hown2; have HO2 := Lib.hid hown2; have HA2 := Lib.hid (HA.out.later hb2); have HB2 := Lib.hid hb2; clear hown2 hb2))
      go_loop [10, 11] (fun m i => ∃ j k : Nat, j ≤ P.length ∧ k + cntP (P.drop j) ≤ cntP P ∧ cntP P ≤ k + cntP (P.drop j) ∧ m = .int .i64 k ∧ i = .int .i64 j) (fun _ i => P.length - (intOf i).toNat)
      case atStart => exact ⟨0, 0, Nat.zero_le _, by rw [List.drop_zero]; omega, by rw [List.drop_zero]; omega, rfl, rfl⟩
      case round =>
        obtain ⟨j, k, hj, hk1, hk2, rfl, rfl⟩ := hrel
        by_cases hlt : j < P.length
        · obtain ⟨g1, e1, hg1, -, hl1, hc1⟩ := own_pcs HO2.out (by omega)
          injection hg1 with hx1 hy1 hz1
          subst hx1
          obtain ⟨-, p1, -⟩ := hc1 j hlt
          have hcd := cntP_drop P j hlt
          obtain ⟨p, hp⟩ : ∃ p, P[j] = p := ⟨_, rfl⟩
          rw [hp] at p1 hcd
          clear hp hc1 hy1 hz1
          by_cases h0 : p.v = 0
          · have b0 : ((p.v : Int) != 0) = false := by rw [h0]; rfl
            rw [if_pos h0] at hcd
            have hk3 : k + cntP (P.drop (j + 1)) ≤ cntP P := by omega
            have hk4 : cntP P ≤ k + cntP (P.drop (j + 1)) := by omega
            clear h0 hcd hk1 hk2
            go_wp2_with fail
            go_round
            case rel => exact ⟨j + 1, k, by omega, hk3, hk4, rfl, by go_num⟩
            case measure => simp [intOf]; omega
          · have b0 : ((p.v : Int) != 0) = true := by rw [bne_iff_ne]; omega
            rw [if_neg h0] at hcd
            have hk3 : k + 1 + cntP (P.drop (j + 1)) ≤ cntP P := by omega
            have hk4 : cntP P ≤ k + 1 + cntP (P.drop (j + 1)) := by omega
            clear h0 hcd hk1 hk2
            go_wp2_with fail
            go_round
            case rel => exact ⟨j + 1, k + 1, by omega, hk3, hk4, by go_num, by go_num⟩
            case measure => simp [intOf]; omega
        · obtain rfl : j = P.length := by omega
          have hkc : k = cntP P := by
            rw [List.drop_length] at hk1 hk2
            rw [show cntP [] = 0 from rfl] at hk1 hk2
            omega
          have hd0 : decide ((P.length : Int) < (P.length : Int)) = false := by simp
          have HKC := Lib.hid hkc
          have h2z := HB2.out.size
          clear hlt hkc hk1 hk2
          by_cases hle : k ≤ lL.length
          · have d1 : decide ((k : Int) ≤ (lL.length : Int)) = true := by simp; omega
            have d1' : decide (k ≤ lL.length) = true := by simp; omega
            have hR3 : ¬ R3 = 18 := HCY.out (by rw [← HKC.out]; exact hle)
            have b3 : (R3 != 18) = true := by rw [bne_iff_ne]; exact hR3
            have b4 : (R3 == 18) = false := by rw [beq_eq_false_iff_ne]; exact hR3
            have hb2 := HB2.out
            clear hle hR3
            go_wp2_with (first | (go_at_call 11; (with_reducible refine (HW.out _ (HT.out.later ?_)).mono ?_); (focus ((repeat' (first | (with_reducible exact Below.refl _ _) | (with_reducible assumption) | (with_reducible refine Below.alloc ?_ ?_ _) | (with_reducible refine below_drewN ?_ _) | (with_reducible refine Below.drew ?_) | (with_reducible refine Below.setCell ?_ ?_ _) | (with_reducible refine below_via (by assumption) ?_ ?_) | (with_reducible refine below_via (later_below _) ?_ ?_) | (with_reducible exact Nat.le_refl _) | omega | (simp; omega) | (simp; done))))); rintro e w9 ⟨rfl, hb9⟩) | (go_at_call 15; (with_reducible refine (HF.out _ HA2.out (HT.out.later hb2)).mono ?_); rintro e w3 ⟨rfl, hb3⟩; have hz3 := hb3.size))
            go_returns
            refine ⟨rfl, ?_⟩
            (repeat' (first | (with_reducible exact Below.refl _ _) | (with_reducible assumption) | (with_reducible refine Below.alloc ?_ ?_ _) | (with_reducible refine below_drewN ?_ _) | (with_reducible refine Below.drew ?_) | (with_reducible refine Below.setCell ?_ ?_ _) | (with_reducible refine below_via (by assumption) ?_ ?_) | (with_reducible refine below_via (later_below _) ?_ ?_) | (with_reducible exact Nat.le_refl _) | omega | (simp; omega) | (simp; done)))
          · have d1 : decide ((k : Int) ≤ (lL.length : Int)) = false := by simp; omega
            have d1' : decide (k ≤ lL.length) = false := by simp; omega
            have hb2 := HB2.out
            rcases HCN.out (by rw [← HKC.out]; omega) with ⟨h18, hn⟩ | ⟨h8, hn⟩
            · subst h18 hn
              clear hle
              go_wp2_with (first | (go_at_call 11; (with_reducible refine (HW.out _ (HT.out.later ?_)).mono ?_); (focus ((repeat' (first | (with_reducible exact Below.refl _ _) | (with_reducible assumption) | (with_reducible refine Below.alloc ?_ ?_ _) | (with_reducible refine below_drewN ?_ _) | (with_reducible refine Below.drew ?_) | (with_reducible refine Below.setCell ?_ ?_ _) | (with_reducible refine below_via (by assumption) ?_ ?_) | (with_reducible refine below_via (later_below _) ?_ ?_) | (with_reducible exact Nat.le_refl _) | omega | (simp; omega) | (simp; done))))); rintro e w9 ⟨rfl, hb9⟩) | (go_at_call 15; (with_reducible refine (HF.out _ HA2.out (HT.out.later hb2)).mono ?_); rintro e w3 ⟨rfl, hb3⟩; have hz3 := hb3.size))
              go_returns
              refine ⟨rfl, ?_⟩
              (repeat' (first | (with_reducible exact Below.refl _ _) | (with_reducible assumption) | (with_reducible refine Below.alloc ?_ ?_ _) | (with_reducible refine below_drewN ?_ _) | (with_reducible refine Below.drew ?_) | (with_reducible refine Below.setCell ?_ ?_ _) | (with_reducible refine below_via (by assumption) ?_ ?_) | (with_reducible refine below_via (later_below _) ?_ ?_) | (with_reducible exact Nat.le_refl _) | omega | (simp; omega) | (simp; done)))
            · subst h8
              have dn : decide ((R2 : Int) ≤ (lL.length : Int)) = true := by simp; omega
              have dn' : decide (R2 ≤ lL.length) = true := by simp; omega
              clear hle
              go_wp2_with (first | (go_at_call 11; (with_reducible refine (HW.out _ (HT.out.later ?_)).mono ?_); (focus ((repeat' (first | (with_reducible exact Below.refl _ _) | (with_reducible assumption) | (with_reducible refine Below.alloc ?_ ?_ _) | (with_reducible refine below_drewN ?_ _) | (with_reducible refine Below.drew ?_) | (with_reducible refine Below.setCell ?_ ?_ _) | (with_reducible refine below_via (by assumption) ?_ ?_) | (with_reducible refine below_via (later_below _) ?_ ?_) | (with_reducible exact Nat.le_refl _) | omega | (simp; omega) | (simp; done))))); rintro e w9 ⟨rfl, hb9⟩) | (go_at_call 15; (with_reducible refine (HF.out _ HA2.out (HT.out.later hb2)).mono ?_); rintro e w3 ⟨rfl, hb3⟩; have hz3 := hb3.size))
              go_returns
              refine ⟨rfl, ?_⟩
              (repeat' (first | (with_reducible exact Below.refl _ _) | (with_reducible assumption) | (with_reducible refine Below.alloc ?_ ?_ _) | (with_reducible refine below_drewN ?_ _) | (with_reducible refine Below.drew ?_) | (with_reducible refine Below.setCell ?_ ?_ _) | (with_reducible refine below_via (by assumption) ?_ ?_) | (with_reducible refine below_via (later_below _) ?_ ?_) | (with_reducible exact Nat.le_refl _) | omega | (simp; omega) | (simp; done)))
  · rw [hB] at hbig
    have HB := Lib.hid hbig
    clear hbig hB
    go_enter Tryz.func5, Tryz.ntmps5
    go_wp2_with (first | (go_at_call 11; (with_reducible refine (HW.out _ (HT.out.later ?_)).mono ?_); (focus ((repeat' (first | (with_reducible exact Below.refl _ _) | (with_reducible assumption) | (with_reducible refine Below.alloc ?_ ?_ _) | (with_reducible refine below_drewN ?_ _) | (with_reducible refine Below.drew ?_) | (with_reducible refine Below.setCell ?_ ?_ _) | (with_reducible refine below_via (by assumption) ?_ ?_) | (with_reducible refine below_via (later_below _) ?_ ?_) | (with_reducible exact Nat.le_refl _) | omega | (simp; omega) | (simp; done))))); rintro e w9 ⟨rfl, hb9⟩) | (go_at_call 14; (with_reducible refine HB.out.mono ?_); rintro e w1 ⟨rfl, rfl⟩))
    go_returns
    refine ⟨rfl, ?_⟩
    (repeat' (first | (with_reducible exact Below.refl _ _) | (with_reducible assumption) | (with_reducible refine Below.alloc ?_ ?_ _) | (with_reducible refine below_drewN ?_ _) | (with_reducible refine Below.drew ?_) | (with_reducible refine Below.setCell ?_ ?_ _) | (with_reducible refine below_via (by assumption) ?_ ?_) | (with_reducible refine below_via (later_below _) ?_ ?_) | (with_reducible exact Nat.le_refl _) | omega | (simp; omega) | (simp; done)))

set_option maxHeartbeats 8000000 in
set_option maxRecDepth 100000 in
theorem lifted (os : Os) (started : os.Started) (H : Type) (enc : TypeId × Value → H) :
    ReturnsInHanded {} Tryz.checked os 5 .any (fun w args => (Rows.formattingCountsSpec.pre enc Tryz.prog Tryz.f5 Rows.formattingCountsRow.domain false w args ∧ laidMetH Tryz.prog laidS w) ∧ sizedMet enc Tryz.prog Tryz.f5 (OpenSpec.ofChange Rows.formattingCountsSpec) false w args) (Rows.formattingCountsSpec.post enc Tryz.prog Tryz.f5 false true false false) := by
  refine returnsInHanded_of_change_and (C := Tryz.checked) (X := fun w _ => laidMetH Tryz.prog laidS w) (fun _ _ _ hh h => h.of_heap hh) own started (by kernel_rfl) Tryz.func5
    (ChangeSpec.witness_shaped (enc := enc) (C := Tryz.checked) (os := os) (X := fun w _ => laidMetH Tryz.prog laidS w) false (World.laidAll Tryz.prog os laidS) #[.string ⟨#[]⟩, .slice none 0 0] 8 (World.laidAll_os _ _ _) (start_shaped os) (by kernel_rfl) (by kernel_rfl) (by kernel_rfl) (start_met os _)) ?_
  intro W base args ds gs before hval0 hW hcnd _ hL _
  have hT := laid_tabs hL
  have hval : ∀ (j : Nat) t v, Tryz.f5.params[j]? = some t → args[j]? = some v → Value.okWide Tryz.prog W .any base t v := hval0
  have hW' := hW
  obtain ⟨p, q, hA0, hV, rfl, hfz, hnd⟩ := hW
  have hA : DataW.TrodAll enc Tryz.prog W 0 (fun _ => true) true Tryz.f5.params.toList args.toList ds p := hA0
  rw [Tryz.params5] at hA hval
  obtain ⟨v0, vs0, d0, ds0, p0, q0, hargs, rfl, rfl, h0, r0⟩ := trodAll_cons hA
  obtain ⟨v1, vs1, d1, ds1, p1, q1, rfl, rfl, rfl, h1, r1⟩ := trodAll_cons r0
  obtain ⟨rfl, rfl, rfl⟩ := trodAll_nil r1
  obtain rfl : args = #[v0, v1] := by cases args; simp_all
  obtain ⟨rfl, rfl⟩ := trodVars_none hV
  have k0 := h0
  have lt0 : ∀ x ∈ p0, x.block < W.heap.size := by obtain ⟨m, hm⟩ := k0; exact DataW.trod_lt m _ _ _ hm
  obtain ⟨s, rfl, -, -, ws⟩ := open_string Tryz.underlying9 (hval 0 9 v0 rfl rfl) h0
  have k1 := h1
  have lt1 : ∀ x ∈ p1, x.block < W.heap.size := by obtain ⟨m, hm⟩ := k1; exact DataW.trod_lt m _ _ _ hm
  obtain ⟨lA, lN, lC, lL, rfl, wlN, wlC, wlE, wlO, ml⟩ := open_fvals (hval 1 34 v1 rfl rfl) h1
  clear hA0 hval0
  refine (walk s ws lA lN lC lL wlN wlC wlE wlO W hT ml).mono fun e W' ⟨he, bel⟩ => ?_
  subst he
  exact ⟨_, rfl, _, _, _, [], _, [], hW', trodAll_mk1 (shut_bool Tryz.underlying4 _), (trodAll_cons_mk (Below.trod laidOut (by kernel_rfl) (of_decide_eq_true (by kernel_rfl)) k0 bel lt0) (trodAll_cons_mk (Below.trod laidOut (by kernel_rfl) (of_decide_eq_true (by kernel_rfl)) k1 bel lt1) trodAll_mk0)), rfl, bel.frame _, fun h => by cases h⟩

theorem over : Rows.formattingCountsRow.holds Tryz.pinned (OpenSpec.ofChange Rows.formattingCountsSpec) :=
  OpenClaim.holds_of_wide 5 Tryz.f5 rfl rfl rfl rfl rfl rfl rfl ⟨rfl, rfl, rfl, rfl, rfl⟩ rfl rfl rfl rfl rfl (by kernel_rfl) Tryz.func5 (by kernel_rfl)
    (of_decide_eq_true (by kernel_rfl)) (by unfold Func.isWrapper; first | (rw [if_pos (by decide +kernel)]; kernel_rfl) | (rw [if_neg (by decide +kernel)]; exact ⟨rfl, rfl⟩))
    (fun os started H enc _ => lifted os started H enc)

/-- The given statement: the row, tied. -/
theorem proved : Rows.FormattingCountsCardSaid :=
  Claim7.holds_tied_plain_at .later [] [.data, .data, .data, .data, .pinned, .pinned] true _ false over (fun _ h => by cases h) (by kernel_rfl) (fun _ h => by cases h) formattingCounts_row_tie rfl ⟨rfl, rfl⟩ (by kernel_rfl) rfl
    (fun f fn hf hfn => by
      obtain rfl : f = 5 := Option.some.inj ((show Tryz.prog.funcNamed Rows.formattingCountsRow.func = some 5 by kernel_rfl).symm.trans hf) |>.symm
      obtain rfl : fn = Tryz.f5 := (Option.some.inj (Tryz.func5.symm.trans hfn)).symm
      exact ⟨by kernel_rfl, fun j t ht => by
        rw [Tryz.params5] at ht
        have hm : t ∈ [9, 34] := by simpa using Array.mem_of_getElem? ht
        have hall : ([9, 34].all fun u => !Tryz.prog.wantsStandIn u) = true := by kernel_rfl
        exact (show Tryz.prog.wantsStandIn t = false by simpa using List.all_eq_true.1 hall t hm)⟩)
    (by kernel_rfl)
#print axioms proved
end Go.Proofs.YtemlijadhdejeaaGreatDoor.formattingCounts
