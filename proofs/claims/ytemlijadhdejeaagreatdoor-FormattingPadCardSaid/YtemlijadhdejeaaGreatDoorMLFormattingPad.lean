/- The law FormattingPad holds: for every input it returns true, and each argument reads as it did, where the library's tables read as its text lays them. No other conditions. -/
import Derived.Test.YtemlijadhdejeaaGreatDoorMFmLv
import Derived.Test.YtemlijadhdejeaaGreatDoorMFmR5
import Derived.Test.YtemlijadhdejeaaGreatDoorMLaid
import Derived.Test.YtemlijadhdejeaaGreatDoorCards
import Derived.Test.YtemlijadhdejeaaGreatDoorTie
namespace Go.Proofs.YtemlijadhdejeaaGreatDoor.formattingPad
open Go.ChangeShapes Go.WideShapes Go.ChangeAt Go.RowKit Go.Joins
open Go.ChangeMaps (open_string shut_string)
set_option linter.unusedVariables false

set_option maxHeartbeats 8000000 in
set_option maxRecDepth 100000 in
theorem walk (s : ByteArray) (ws : s.size ≤ maxLen) (width : Int) (wwidth : (Lit.int .i64 width).wf = true) (minus : Bool) (w : World) (hT : Tabs w) :
    Calls Tryz.prog 9 #[.string s, .int .i64 width, .bool minus] w fun e w' => e = .returned (.bool true) ∧ Below w.heap.size w w' := by
  unfold maxLen at ws
  obtain ⟨b1, b2⟩ := bounds_i64 wwidth
  have HT := Lib.hid hT
  clear hT
  have HW : Hid (∀ w', Tabs w' → Calls Tryz.prog 11 #[] w' fun e w'' => e = .returned (.bool true) ∧ Below w'.heap.size w' w'') := fun w' h => lives_any w' h
  by_cases hl : 1000 < s.size
  · have h1 : decide (1000 < (s.size : Int)) = true := by simp; omega
    clear hl
    go_enter Tryz.func9, Tryz.ntmps9
    go_wp2_with (first | (go_at_call 11; (with_reducible refine (HW.out _ (HT.out.later ?_)).mono ?_); (focus ((repeat' (first | (with_reducible exact Below.refl _ _) | (with_reducible assumption) | (with_reducible refine Below.alloc ?_ ?_ _) | (with_reducible refine below_drewN ?_ _) | (with_reducible refine Below.drew ?_) | (with_reducible refine Below.setCell ?_ ?_ _) | (with_reducible refine below_via (by assumption) ?_ ?_) | (with_reducible refine below_via (later_below _) ?_ ?_) | (with_reducible exact Nat.le_refl _) | omega | (simp; omega) | (simp; done))))); rintro e w9 ⟨rfl, hb9⟩))
    go_returns
    refine ⟨rfl, ?_⟩
    (repeat' (first | (with_reducible exact Below.refl _ _) | (with_reducible assumption) | (with_reducible refine Below.alloc ?_ ?_ _) | (with_reducible refine below_drewN ?_ _) | (with_reducible refine Below.drew ?_) | (with_reducible refine Below.setCell ?_ ?_ _) | (with_reducible refine below_via (by assumption) ?_ ?_) | (with_reducible refine below_via (later_below _) ?_ ?_) | (with_reducible exact Nat.le_refl _) | omega | (simp; omega) | (simp; done)))
  · have h1 : decide (1000 < (s.size : Int)) = false := by simp; omega
    have hsl : s.data.toList.length = s.size := by simp
    have HP : Hid (∀ w', Calls Tryz.prog 21 #[.string s, .int .i64 width, .bool minus] w' fun e w'' => e = .returned (.string (mkS (padL s.data.toList width minus))) ∧ Below w'.heap.size w' w'') := fun w' => by
      have h := fpad_any s.data.toList width minus w' (by omega) b1 b2
      rw [mkS_of] at h; exact h
    have HR : Hid (∀ w', Calls Tryz.prog 22 #[.string s, .int .i64 width, .bool minus] w' fun e w'' => e = .returned (.string (mkS (padL s.data.toList width minus))) ∧ Below w'.heap.size w' w'') := fun w' => by
      have h := rpad_any s.data.toList width minus w' (by omega) b1 b2
      rw [mkS_of] at h; exact h
    have hlen : (((mkS (padL s.data.toList width minus)).size : Int) != max (s.size : Int) (min (max width 0) 99)) = false := by
      rw [bne_eq_false_iff_eq, mkS_size, ← hsl]
      unfold padL padN
      cases minus <;> simp <;> omega
    have HPF : Hid (minus = true → ∀ w', Calls Tryz.prog 23 #[.string (mkS (padL s.data.toList width minus)), .string s] w' fun e w'' => e = .returned (.bool true) ∧ w' = w'') := fun hm w' =>
      (Tryz.strings_HasPrefix _ _ w').mono fun _ _ ⟨he, hw⟩ => ⟨by
        rw [he, mkS_list, hm]
        unfold padL Lib.hasPrefix
        simp, hw.symm⟩
    have HSF : Hid (minus = false → ∀ w', Calls Tryz.prog 24 #[.string (mkS (padL s.data.toList width minus)), .string s] w' fun e w'' => e = .returned (.bool true) ∧ w' = w'') := fun hm w' =>
      (Tryz.strings_HasSuffix _ _ w' (by
        rw [mkS_size]
        have := padL_len s.data.toList width minus
        omega)).mono fun _ _ ⟨he, hw⟩ => ⟨by
        rw [he, mkS_list, hm]
        unfold padL Lib.hasSuffix
        simp, hw.symm⟩
    obtain ⟨T, hTT⟩ : ∃ T, mkS (padL s.data.toList width minus) = T := ⟨_, rfl⟩
    rw [hTT] at HP HR hlen HPF HSF
    clear hTT hl hsl
    cases minus
    · have HS2 := Lib.hid (HSF.out rfl)
      clear HSF HPF
      go_enter Tryz.func9, Tryz.ntmps9
      go_wp2_with (first | (go_at_call 11; (with_reducible refine (HW.out _ (HT.out.later ?_)).mono ?_); (focus ((repeat' (first | (with_reducible exact Below.refl _ _) | (with_reducible assumption) | (with_reducible refine Below.alloc ?_ ?_ _) | (with_reducible refine below_drewN ?_ _) | (with_reducible refine Below.drew ?_) | (with_reducible refine Below.setCell ?_ ?_ _) | (with_reducible refine below_via (by assumption) ?_ ?_) | (with_reducible refine below_via (later_below _) ?_ ?_) | (with_reducible exact Nat.le_refl _) | omega | (simp; omega) | (simp; done))))); rintro e w9 ⟨rfl, hb9⟩) | (go_at_call 21; (with_reducible refine (HP.out _).mono ?_); rintro e w1 ⟨rfl, hb1⟩; have hz1 := hb1.size) | (go_at_call 22; (with_reducible refine (HR.out _).mono ?_); rintro e w2 ⟨rfl, hb2⟩; have hz2 := hb2.size) | (go_at_call 24; (with_reducible refine (HS2.out _).mono ?_); rintro e w3 ⟨rfl, rfl⟩))
      go_returns
      refine ⟨rfl, ?_⟩
      (repeat' (first | (with_reducible exact Below.refl _ _) | (with_reducible assumption) | (with_reducible refine Below.alloc ?_ ?_ _) | (with_reducible refine below_drewN ?_ _) | (with_reducible refine Below.drew ?_) | (with_reducible refine Below.setCell ?_ ?_ _) | (with_reducible refine below_via (by assumption) ?_ ?_) | (with_reducible refine below_via (later_below _) ?_ ?_) | (with_reducible exact Nat.le_refl _) | omega | (simp; omega) | (simp; done)))
    · have HP2 := Lib.hid (HPF.out rfl)
      clear HSF HPF
      go_enter Tryz.func9, Tryz.ntmps9
      go_wp2_with (first | (go_at_call 11; (with_reducible refine (HW.out _ (HT.out.later ?_)).mono ?_); (focus ((repeat' (first | (with_reducible exact Below.refl _ _) | (with_reducible assumption) | (with_reducible refine Below.alloc ?_ ?_ _) | (with_reducible refine below_drewN ?_ _) | (with_reducible refine Below.drew ?_) | (with_reducible refine Below.setCell ?_ ?_ _) | (with_reducible refine below_via (by assumption) ?_ ?_) | (with_reducible refine below_via (later_below _) ?_ ?_) | (with_reducible exact Nat.le_refl _) | omega | (simp; omega) | (simp; done))))); rintro e w9 ⟨rfl, hb9⟩) | (go_at_call 21; (with_reducible refine (HP.out _).mono ?_); rintro e w1 ⟨rfl, hb1⟩; have hz1 := hb1.size) | (go_at_call 22; (with_reducible refine (HR.out _).mono ?_); rintro e w2 ⟨rfl, hb2⟩; have hz2 := hb2.size) | (go_at_call 23; (with_reducible refine (HP2.out _).mono ?_); rintro e w3 ⟨rfl, rfl⟩))
      go_returns
      refine ⟨rfl, ?_⟩
      (repeat' (first | (with_reducible exact Below.refl _ _) | (with_reducible assumption) | (with_reducible refine Below.alloc ?_ ?_ _) | (with_reducible refine below_drewN ?_ _) | (with_reducible refine Below.drew ?_) | (with_reducible refine Below.setCell ?_ ?_ _) | (with_reducible refine below_via (by assumption) ?_ ?_) | (with_reducible refine below_via (later_below _) ?_ ?_) | (with_reducible exact Nat.le_refl _) | omega | (simp; omega) | (simp; done)))

set_option maxHeartbeats 8000000 in
set_option maxRecDepth 100000 in
theorem lifted (os : Os) (started : os.Started) (H : Type) (enc : TypeId × Value → H) :
    ReturnsInHanded {} Tryz.checked os 9 .any (fun w args => (Rows.formattingPadSpec.pre enc Tryz.prog Tryz.f9 Rows.formattingPadRow.domain false w args ∧ laidMetH Tryz.prog laidS w) ∧ sizedMet enc Tryz.prog Tryz.f9 (OpenSpec.ofChange Rows.formattingPadSpec) false w args) (Rows.formattingPadSpec.post enc Tryz.prog Tryz.f9 false true false false) := by
  refine returnsInHanded_of_change_and (C := Tryz.checked) (X := fun w _ => laidMetH Tryz.prog laidS w) (fun _ _ _ hh h => h.of_heap hh) own started (by kernel_rfl) Tryz.func9
    (ChangeSpec.witness_shaped (enc := enc) (C := Tryz.checked) (os := os) (X := fun w _ => laidMetH Tryz.prog laidS w) false (World.laidAll Tryz.prog os laidS) #[.string ⟨#[]⟩, .int .i64 0, .bool false] 8 (World.laidAll_os _ _ _) (start_shaped os) (by kernel_rfl) (by kernel_rfl) (by kernel_rfl) (start_met os _)) ?_
  intro W base args ds gs before hval0 hW hcnd _ hL _
  have hT := laid_tabs hL
  have hval : ∀ (j : Nat) t v, Tryz.f9.params[j]? = some t → args[j]? = some v → Value.okWide Tryz.prog W .any base t v := hval0
  have hW' := hW
  obtain ⟨p, q, hA0, hV, rfl, hfz, hnd⟩ := hW
  have hA : DataW.TrodAll enc Tryz.prog W 0 (fun _ => true) true Tryz.f9.params.toList args.toList ds p := hA0
  rw [Tryz.params9] at hA hval
  obtain ⟨v0, vs0, d0, ds0, p0, q0, hargs, rfl, rfl, h0, r0⟩ := trodAll_cons hA
  obtain ⟨v1, vs1, d1, ds1, p1, q1, rfl, rfl, rfl, h1, r1⟩ := trodAll_cons r0
  obtain ⟨v2, vs2, d2, ds2, p2, q2, rfl, rfl, rfl, h2, r2⟩ := trodAll_cons r1
  obtain ⟨rfl, rfl, rfl⟩ := trodAll_nil r2
  obtain rfl : args = #[v0, v1, v2] := by cases args; simp_all
  obtain ⟨rfl, rfl⟩ := trodVars_none hV
  have k0 := h0
  have lt0 : ∀ x ∈ p0, x.block < W.heap.size := by obtain ⟨m, hm⟩ := k0; exact DataW.trod_lt m _ _ _ hm
  obtain ⟨s, rfl, -, -, ws⟩ := open_string Tryz.underlying9 (hval 0 9 v0 rfl rfl) h0
  have k1 := h1
  have lt1 : ∀ x ∈ p1, x.block < W.heap.size := by obtain ⟨m, hm⟩ := k1; exact DataW.trod_lt m _ _ _ hm
  obtain ⟨width, rfl, -, -, wwidth⟩ := open_int Tryz.underlying3 (hval 1 3 v1 rfl rfl) h1
  have k2 := h2
  have lt2 : ∀ x ∈ p2, x.block < W.heap.size := by obtain ⟨m, hm⟩ := k2; exact DataW.trod_lt m _ _ _ hm
  obtain ⟨minus, rfl, -, -⟩ := open_bool Tryz.underlying4 (hval 2 4 v2 rfl rfl) h2
  clear hA0 hval0
  refine (walk s ws width wwidth minus W hT).mono fun e W' ⟨he, bel⟩ => ?_
  subst he
  exact ⟨_, rfl, _, _, _, [], _, [], hW', trodAll_mk1 (shut_bool Tryz.underlying4 _), (trodAll_cons_mk (Below.trod laidOut (by kernel_rfl) (of_decide_eq_true (by kernel_rfl)) k0 bel lt0) (trodAll_cons_mk (Below.trod laidOut (by kernel_rfl) (of_decide_eq_true (by kernel_rfl)) k1 bel lt1) (trodAll_cons_mk (Below.trod laidOut (by kernel_rfl) (of_decide_eq_true (by kernel_rfl)) k2 bel lt2) trodAll_mk0))), rfl, bel.frame _, fun h => by cases h⟩

theorem over : Rows.formattingPadRow.holds Tryz.pinned (OpenSpec.ofChange Rows.formattingPadSpec) :=
  OpenClaim.holds_of_wide 9 Tryz.f9 rfl rfl rfl rfl rfl rfl rfl ⟨rfl, rfl, rfl, rfl, rfl⟩ rfl rfl rfl rfl rfl (by kernel_rfl) Tryz.func9 (by kernel_rfl)
    (of_decide_eq_true (by kernel_rfl)) (by unfold Func.isWrapper; first | (rw [if_pos (by decide +kernel)]; kernel_rfl) | (rw [if_neg (by decide +kernel)]; exact ⟨rfl, rfl⟩))
    (fun os started H enc _ => lifted os started H enc)

/-- The given statement: the row, tied. -/
theorem proved : Rows.FormattingPadCardSaid :=
  Claim7.holds_tied_plain_at .later [] [.data, .data, .data, .data, .pinned, .pinned] true _ false over (fun _ h => by cases h) (by kernel_rfl) (fun _ h => by cases h) formattingPad_row_tie rfl ⟨rfl, rfl⟩ (by kernel_rfl) rfl
    (fun f fn hf hfn => by
      obtain rfl : f = 9 := Option.some.inj ((show Tryz.prog.funcNamed Rows.formattingPadRow.func = some 9 by kernel_rfl).symm.trans hf) |>.symm
      obtain rfl : fn = Tryz.f9 := (Option.some.inj (Tryz.func9.symm.trans hfn)).symm
      exact ⟨by kernel_rfl, fun j t ht => by
        rw [Tryz.params9] at ht
        have hm : t ∈ [9, 3, 4] := by simpa using Array.mem_of_getElem? ht
        have hall : ([9, 3, 4].all fun u => !Tryz.prog.wantsStandIn u) = true := by kernel_rfl
        exact (show Tryz.prog.wantsStandIn t = false by simpa using List.all_eq_true.1 hall t hm)⟩)
    (by kernel_rfl)
#print axioms proved
end Go.Proofs.YtemlijadhdejeaaGreatDoor.formattingPad
