/- The law ValueKinds holds: for every input it returns true, and each argument reads as it did, where the library's tables read as its text lays them. No other conditions. -/
import Derived.Test.YtpahemohpaaeoaaDoorValAw
import Derived.Test.YtpahemohpaaeoaaDoorValW5
import Derived.Test.YtpahemohpaaeoaaDoorValLaw
import Derived.Test.YtpahemohpaaeoaaDoorLaid
import Derived.Test.YtpahemohpaaeoaaDoorCards
import Derived.Test.YtpahemohpaaeoaaDoorTie
namespace Go.Proofs.YtpahemohpaaeoaaDoor.valueKinds
open Go.ChangeShapes Go.WideShapes Go.ChangeAt Go.RowKit Go.Joins
open Go.ChangeMaps (open_string shut_string)
set_option linter.unusedVariables false

theorem long_v (k p q : Int) (s : ByteArray) (r : Int) (w : World) : Calls Tryd.prog 9 #[vV k p q s r] w fun e w' => e = .returned (.bool (decide (4106 < (s.size : Int)))) ∧ Below w.heap.size w w' := by
  go_enter Tryd.func9, Tryd.ntmps9
  go_wp2_with fail
  ((try simp only [Exit.inBlock, Exit.then]); refine bodyPost_ret (by first | (simp [results, Tryd.results9, go_sem, *]; done) | (simp [results, Tryd.results9, go_sem, *]; rfl) | (simp [results, Tryd.results9, go_sem, ↓IntWalk.iteOmega, *]; try rfl)) rfl ?_)
  refine ⟨rfl, ?_⟩
  (repeat' (first | (with_reducible exact Below.refl _ _) | (with_reducible assumption) | (with_reducible refine Below.alloc ?_ ?_ _) | (with_reducible refine below_drewN ?_ _) | (with_reducible refine Below.drew ?_) | (with_reducible refine Below.setCell ?_ ?_ _) | (with_reducible refine below_via (by assumption) ?_ ?_) | (with_reducible refine below_via (later_below _) ?_ ?_) | (with_reducible exact Nat.le_refl _) | omega | (simp; omega) | (simp; done)))

set_option maxHeartbeats 4000000 in
set_option maxRecDepth 100000 in
theorem walk (vK vP vQ : Int) (vS : ByteArray) (vR : Int) (wvK : (Lit.int .i64 vK).wf = true) (wvP : (Lit.int .i64 vP).wf = true) (wvQ : (Lit.int .i64 vQ).wf = true) (wvS : vS.size ≤ maxLen) (wvR : (Lit.int .i64 vR).wf = true) (w : World) (hT : Tabs w) :
    Calls Tryd.prog 3 #[vV vK vP vQ vS vR] w fun e w' => e = .returned (.bool true) ∧ Below w.heap.size w w' := by
  obtain ⟨vk1, vk2⟩ := bounds_i64 wvK
  obtain ⟨vp1, vp2⟩ := bounds_i64 wvP
  obtain ⟨vr1, vr2⟩ := bounds_i64 wvR
  have vsz : vS.size ≤ 9223372036854775807 := by unfold maxLen at wvS; omega
  have HT := Lib.hid hT
  clear hT
  have HW : Hid (∀ w', Tabs w' → Calls Tryd.prog 10 #[] w' fun e w'' => e = .returned (.bool true) ∧ Below w'.heap.size w' w'') := fun w' hT' => awake_any w' hT'
  have HLO : Hid (∀ w', Calls Tryd.prog 9 #[vV vK vP vQ vS vR] w' fun e w'' => e = .returned (.bool (decide (4106 < (vS.size : Int)))) ∧ Below w'.heap.size w' w'') := fun w' => long_v _ _ _ _ _ w'
  by_cases hl : 4106 < vS.size
  · go_enter Tryd.func3, Tryd.ntmps3
    go_wp2_with (first | (go_at_call 9; refine (HLO.out _).mono ?_; rintro e w9 ⟨rfl, hb⟩; (refine mem hb ?_; intro N hN hz hc hf; (try simp at hN); subst hN)) | (go_at_call 10; refine (HW.out _ (HT.out.later ?_)).mono ?_; (focus ((repeat' (first | (with_reducible exact Below.refl _ _) | (with_reducible assumption) | (with_reducible refine Below.alloc ?_ ?_ _) | (with_reducible refine below_drewN ?_ _) | (with_reducible refine Below.drew ?_) | (with_reducible refine Below.setCell ?_ ?_ _) | (with_reducible refine below_via (by assumption) ?_ ?_) | (with_reducible refine below_via (later_below _) ?_ ?_) | (with_reducible exact Nat.le_refl _) | omega | (simp; omega) | (simp; done))))); rintro e w9 ⟨rfl, hb⟩; (refine mem hb ?_; intro N hN hz hc hf; (try simp at hN); subst hN)))
    ((try simp only [Exit.inBlock, Exit.then]); refine bodyPost_ret (by first | (simp [results, Tryd.results3, go_sem, *]; done) | (simp [results, Tryd.results3, go_sem, *]; rfl) | (simp [results, Tryd.results3, go_sem, ↓IntWalk.iteOmega, *]; try rfl)) rfl ?_)
    refine ⟨rfl, ?_⟩
    (repeat' (first | (with_reducible exact Below.refl _ _) | (with_reducible assumption) | (with_reducible refine Below.alloc ?_ ?_ _) | (with_reducible refine below_drewN ?_ _) | (with_reducible refine Below.drew ?_) | (with_reducible refine Below.setCell ?_ ?_ _) | (with_reducible refine below_via (by assumption) ?_ ?_) | (with_reducible refine below_via (later_below _) ?_ ?_) | (with_reducible exact Nat.le_refl _) | omega | (simp; omega) | (simp; done)))
  · have hl2 : vS.size ≤ 4106 := by omega
    have H1 : Hid (∀ w', Calls Tryd.prog 11 #[vV vK vP vQ vS vR] w' fun e w'' => e = .returned (.bool (validV vK vP vQ vS vR)) ∧ Below w'.heap.size w' w'') := fun w' => valid_v _ _ _ _ _ w' vsz vp1 vp2
    have H2 : Hid (∀ w', Calls Tryd.prog 12 #[vV vK vP vQ vS vR] w' fun e w'' => e = .returned (.bool (validV vK vP vQ vS vR)) ∧ Below w'.heap.size w' w'') := fun w' => rvv_v _ _ _ _ _ w' vsz vp1 vp2
    have H3 : Hid (∀ w', Calls Tryd.prog 13 #[vV vK vP vQ vS vR] w' fun e w'' => e = .returned (.bool (trueV vK vR)) ∧ Below w'.heap.size w' w'') := fun w' => true_v _ _ _ _ _ w'
    have H4 : Hid (∀ w', Calls Tryd.prog 14 #[vV vK vP vQ vS vR] w' fun e w'' => e = .returned (.bool (trueV vK vR)) ∧ Below w'.heap.size w' w'') := fun w' => rtrue_v _ _ _ _ _ w'
    have H5 : Hid (∀ w', Calls Tryd.prog 15 #[vV vK vP vQ vS vR] w' fun e w'' => e = .returned (.string (typeN vK)) ∧ Below w'.heap.size w' w'') := fun w' => type_any _ _ _ _ _ w'
    have H6 : Hid (∀ w', Calls Tryd.prog 16 #[vV vK vP vQ vS vR] w' fun e w'' => e = .returned (.string (typeN vK)) ∧ Below w'.heap.size w' w'') := fun w' => rtype_v _ _ _ _ _ w'
    have H7 : Hid (∀ w', Tabs w' → Calls Tryd.prog 17 #[vV vK vP vQ vS vR] w' fun e w'' => e = .returned (.string (textV vK vP vQ vS vR)) ∧ Below w'.heap.size w' w'') := fun w' hT' => text_v _ _ _ _ _ w' hl2 vp1 vp2 vr1 vr2 hT'
    have H8 : Hid (∀ w', Calls Tryd.prog 18 #[vV vK vP vQ vS vR] w' fun e w'' => e = .returned (.string (textV vK vP vQ vS vR)) ∧ Below w'.heap.size w' w'') := fun w' => rtext_v _ _ _ _ _ w' hl2 vp1 vp2 vr1 vr2
    generalize validV vK vP vQ vS vR = V at H1 H2
    generalize trueV vK vR = T at H3 H4
    generalize typeN vK = Y at H5 H6
    generalize textV vK vP vQ vS vR = X at H7 H8
    go_enter Tryd.func3, Tryd.ntmps3
    go_wp2_with (first | (go_at_call 9; refine (HLO.out _).mono ?_; rintro e w9 ⟨rfl, hb⟩; (refine mem hb ?_; intro N hN hz hc hf; (try simp at hN); subst hN)))
    (refine wp_region_calm (by kernel_rfl) (by kernel_rfl) ?_; refine calm_mem ?_; intro N hN hne hcu; (try simp at hN); subst hN; (repeat ((refine wpQuiet_step (fun K hK => ?_)); go_simp; (repeat (simp only [↓IntWalk.iteOmega]; go_simp)); (first | (refine hK _ ?_; clear hK K) | (apply Exists.intro; refine ⟨fun _ => ?_, hK _ ?_⟩; (first | (go_at_call 11; exact calm_of (H1.out _)) | (go_at_call 12; exact calm_of (H2.out _)) | (go_at_call 13; exact calm_of (H3.out _)) | (go_at_call 14; exact calm_of (H4.out _)) | (go_at_call 15; exact calm_of (H5.out _)) | (go_at_call 16; exact calm_of (H6.out _)) | (go_at_call 17; refine calm_of (H7.out _ (HT.out.later ?_)); (repeat' (first | (with_reducible exact Below.refl _ _) | (with_reducible assumption) | (with_reducible refine Below.alloc ?_ ?_ _) | (with_reducible refine below_drewN ?_ _) | (with_reducible refine Below.drew ?_) | (with_reducible refine Below.setCell ?_ ?_ _) | (with_reducible refine below_via (by assumption) ?_ ?_) | (with_reducible refine below_via (later_below _) ?_ ?_) | (with_reducible exact Nat.le_refl _) | omega | (simp; omega) | (simp; done)))) | (go_at_call 18; exact calm_of (H8.out _)) | (go_at_call 10; refine calm_of (HW.out _ (HT.out.later ?_)); (repeat' (first | (with_reducible exact Below.refl _ _) | (with_reducible assumption) | (with_reducible refine Below.alloc ?_ ?_ _) | (with_reducible refine below_drewN ?_ _) | (with_reducible refine Below.drew ?_) | (with_reducible refine Below.setCell ?_ ?_ _) | (with_reducible refine below_via (by assumption) ?_ ?_) | (with_reducible refine below_via (later_below _) ?_ ?_) | (with_reducible exact Nat.le_refl _) | omega | (simp; omega) | (simp; done))))); clear hK K)))); refine wpQuiet_nil ?_; intro _ hw'; obtain ⟨⟨w1, hb⟩, hw''⟩ := hw'; subst hw''; clear hcu hne; (try dsimp only); (refine mem hb ?_; intro N hN hz hc hf; (try simp at hN); subst hN))
    go_wp2
    ((try simp only [Exit.inBlock, Exit.then]); refine bodyPost_ret (by first | (simp [results, Tryd.results3, go_sem, *]; done) | (simp [results, Tryd.results3, go_sem, *]; rfl) | (simp [results, Tryd.results3, go_sem, ↓IntWalk.iteOmega, *]; try rfl)) rfl ?_)
    refine ⟨rfl, ?_⟩
    (repeat' (first | (with_reducible exact Below.refl _ _) | (with_reducible assumption) | (with_reducible refine Below.alloc ?_ ?_ _) | (with_reducible refine below_drewN ?_ _) | (with_reducible refine Below.drew ?_) | (with_reducible refine Below.setCell ?_ ?_ _) | (with_reducible refine below_via (by assumption) ?_ ?_) | (with_reducible refine below_via (later_below _) ?_ ?_) | (with_reducible exact Nat.le_refl _) | omega | (simp; omega) | (simp; done)))

set_option maxRecDepth 100000 in
theorem lifted (os : Os) (started : os.Started) (H : Type) (enc : TypeId × Value → H) :
    ReturnsInHanded {} Tryd.checked os 3 .any (fun w args => (Rows.valueKindsSpec.pre enc Tryd.prog Tryd.f3 Rows.valueKindsRow.domain false w args ∧ laidMetH Tryd.prog laidS w) ∧ sizedMet enc Tryd.prog Tryd.f3 (OpenSpec.ofChange Rows.valueKindsSpec) false w args) (Rows.valueKindsSpec.post enc Tryd.prog Tryd.f3 false true false false) := by
  refine returnsInHanded_of_change_and (C := Tryd.checked) (X := fun w _ => laidMetH Tryd.prog laidS w) (fun _ _ _ hh h => h.of_heap hh) own started (by kernel_rfl) Tryd.func3
    (ChangeSpec.witness_shaped (enc := enc) (C := Tryd.checked) (os := os) (X := fun w _ => laidMetH Tryd.prog laidS w) false (World.laidAll Tryd.prog os laidS) #[.agg #[.int .i64 0, .int .i64 0, .int .i64 0, .string ⟨#[]⟩, .int .i64 0]] 8 (World.laidAll_os _ _ _) (start_shaped os) (by kernel_rfl) (by kernel_rfl) (by kernel_rfl) (start_met os _)) ?_
  intro W base args ds gs before hval0 hW hcnd _ hL _
  have hT := laid_tabs hL
  have hval : ∀ (j : Nat) t v, Tryd.f3.params[j]? = some t → args[j]? = some v → Value.okWide Tryd.prog W .any base t v := hval0
  have hW' := hW
  obtain ⟨p, q, hA0, hV, rfl, hfz, hnd⟩ := hW
  have hA : DataW.TrodAll enc Tryd.prog W 0 (fun _ => true) true Tryd.f3.params.toList args.toList ds p := hA0
  rw [Tryd.params3] at hA hval
  obtain ⟨v0, vs0, d0, ds0, p0, q0, hargs, rfl, rfl, h0, r0⟩ := trodAll_cons hA
  obtain ⟨rfl, rfl, rfl⟩ := trodAll_nil r0
  obtain rfl : args = #[v0] := by cases args; simp_all
  obtain ⟨rfl, rfl⟩ := trodVars_none hV
  have k0 := h0
  have lt0 : ∀ x ∈ p0, x.block < W.heap.size := by obtain ⟨m, hm⟩ := k0; exact DataW.trod_lt m _ _ _ hm
  obtain ⟨vK, vP, vQ, vS, vR, rfl, wvK, wvP, wvQ, wvS, wvR⟩ := open_val (hval 0 25 v0 rfl rfl) h0
  clear hA0 hval0
  refine (walk vK vP vQ vS vR wvK wvP wvQ wvS wvR W hT).mono fun e W' ⟨he, bel⟩ => ?_
  subst he
  exact ⟨_, rfl, _, _, _, [], _, [], hW', trodAll_mk1 (shut_bool Tryd.underlying4 _), (trodAll_cons_mk (Below.trod laidOut (by kernel_rfl) (of_decide_eq_true (by kernel_rfl)) k0 bel lt0) trodAll_mk0), rfl, bel.frame _, fun h => by cases h⟩

theorem over : Rows.valueKindsRow.holds Tryd.pinned (OpenSpec.ofChange Rows.valueKindsSpec) :=
  OpenClaim.holds_of_wide 3 Tryd.f3 rfl rfl rfl rfl rfl rfl rfl ⟨rfl, rfl, rfl, rfl, rfl⟩ rfl rfl rfl rfl rfl (by kernel_rfl) Tryd.func3 (by kernel_rfl)
    (of_decide_eq_true (by kernel_rfl)) (by unfold Func.isWrapper; first | (rw [if_pos (by decide +kernel)]; kernel_rfl) | (rw [if_neg (by decide +kernel)]; exact ⟨rfl, rfl⟩))
    (fun os started H enc _ => lifted os started H enc)

/-- The given statement: the row, tied. -/
theorem proved : Rows.ValueKindsCardSaid :=
  Claim7.holds_tied_plain_at .later [] [.data, .data, .data, .data, .pinned] true _ false over (fun _ h => by cases h) (by kernel_rfl) (fun _ h => by cases h) valueKinds_row_tie rfl ⟨rfl, rfl⟩ (by kernel_rfl) rfl
    (fun f fn hf hfn => by
      obtain rfl : f = 3 := Option.some.inj ((show Tryd.prog.funcNamed Rows.valueKindsRow.func = some 3 by kernel_rfl).symm.trans hf) |>.symm
      obtain rfl : fn = Tryd.f3 := (Option.some.inj (Tryd.func3.symm.trans hfn)).symm
      exact ⟨by kernel_rfl, fun j t ht => by
        rw [Tryd.params3] at ht
        have hm : t ∈ [25] := by simpa using Array.mem_of_getElem? ht
        have hall : ([25].all fun u => !Tryd.prog.wantsStandIn u) = true := by kernel_rfl
        exact (show Tryd.prog.wantsStandIn t = false by simpa using List.all_eq_true.1 hall t hm)⟩)
    (by kernel_rfl)
#print axioms proved
end Go.Proofs.YtpahemohpaaeoaaDoor.valueKinds
