/- The law ValueMakes holds: for every input it returns true, and each argument reads as it did, where the library's tables read as its text lays them. No other conditions. -/
import Derived.Test.YtpahemohpaaeoaaDoorValAw
import Derived.Test.YtpahemohpaaeoaaDoorValLaw
import Derived.Test.YtpahemohpaaeoaaDoorNumPlain5
import Derived.Test.YtpahemohpaaeoaaDoorLaid
import Derived.Test.YtpahemohpaaeoaaDoorCards
import Derived.Test.YtpahemohpaaeoaaDoorTie
namespace Go.Proofs.YtpahemohpaaeoaaDoor.valueMakes
open Go.ChangeShapes Go.WideShapes Go.ChangeAt Go.RowKit Go.Joins
open Go.ChangeMaps (open_string shut_string)
set_option linter.unusedVariables false

theorem ofInt_is (n : Int) : ∃ k p q : Int, ofInt n = vV k p q ⟨#[]⟩ 0 ∧ validV k p q ⟨#[]⟩ 0 = true ∧ -9223372036854775808 ≤ p ∧ p ≤ 9223372036854775807 := by
  by_cases h : -2147483647 ≤ n ∧ n ≤ 2147483647
  · refine ⟨2, n, 1, ?_, ?_, by omega, by omega⟩
    · unfold ofInt inB; rw [if_pos (by simp [h])]
    · have hv := vld_int n h.1 h.2
      unfold validV
      rw [if_neg (by omega), if_neg (by omega), if_pos rfl, hv]; decide +kernel
  · refine ⟨0, 0, 0, ?_, by decide +kernel, by omega, by omega⟩
    unfold ofInt inB; rw [if_neg (by simpa using h)]
theorem ofNum_is (p q : Int) : ∃ k P Q : Int, ofNumV p q = vV k P Q ⟨#[]⟩ 0 ∧ validV k P Q ⟨#[]⟩ 0 = true ∧ -9223372036854775808 ≤ P ∧ P ≤ 9223372036854775807 := by
  unfold ofNumV
  cases hv : vldB p q
  · exact ⟨0, 0, 0, rfl, by decide +kernel, by omega, by omega⟩
  · obtain ⟨b1, b2, b3, b4⟩ := vld_bd hv
    refine ⟨2, p, q, rfl, ?_, by omega, by omega⟩
    unfold validV
    rw [if_neg (by omega), if_neg (by omega), if_pos rfl, hv]; decide +kernel

set_option maxHeartbeats 4000000 in
set_option maxRecDepth 100000 in
theorem walk (b : Bool) (n : Int) (wn : (Lit.int .i64 n).wf = true) (aP aQ : Int) (waP : (Lit.int .i64 aP).wf = true) (waQ : (Lit.int .i64 aQ).wf = true) (s : ByteArray) (ws : s.size ≤ maxLen) (w : World) (hT : Tabs w) :
    Calls Tryd.prog 7 #[.bool b, .int .i64 n, .agg #[.int .i64 aP, .int .i64 aQ], .string s] w fun e w' => e = .returned (.bool true) ∧ Below w.heap.size w w' := by
  obtain ⟨n1, n2⟩ := bounds_i64 wn
  obtain ⟨p1, p2⟩ := bounds_i64 waP
  have ssz : s.size ≤ 9223372036854775807 := by unfold maxLen at ws; omega
  have HT := Lib.hid hT
  clear hT
  have HW : Hid (∀ w', Tabs w' → Calls Tryd.prog 10 #[] w' fun e w'' => e = .returned (.bool true) ∧ Below w'.heap.size w' w'') := fun w' hT' => awake_any w' hT'
  by_cases hl : 4106 < s.size
  · go_enter Tryd.func7, Tryd.ntmps7
    go_wp2_with (first | (go_at_call 10; refine (HW.out _ (HT.out.later ?_)).mono ?_; (focus ((repeat' (first | (with_reducible exact Below.refl _ _) | (with_reducible assumption) | (with_reducible refine Below.alloc ?_ ?_ _) | (with_reducible refine below_drewN ?_ _) | (with_reducible refine Below.drew ?_) | (with_reducible refine Below.setCell ?_ ?_ _) | (with_reducible refine below_via (by assumption) ?_ ?_) | (with_reducible refine below_via (later_below _) ?_ ?_) | (with_reducible exact Nat.le_refl _) | omega | (simp; omega) | (simp; done))))); rintro e w9 ⟨rfl, hb⟩; (refine mem hb ?_; intro N hN hz hc hf; (try simp at hN); subst hN)))
    ((try simp only [Exit.inBlock, Exit.then]); refine bodyPost_ret (by first | (simp [results, Tryd.results7, go_sem, *]; done) | (simp [results, Tryd.results7, go_sem, *]; rfl) | (simp [results, Tryd.results7, go_sem, ↓IntWalk.iteOmega, *]; try rfl)) rfl ?_)
    refine ⟨rfl, ?_⟩
    (repeat' (first | (with_reducible exact Below.refl _ _) | (with_reducible assumption) | (with_reducible refine Below.alloc ?_ ?_ _) | (with_reducible refine below_drewN ?_ _) | (with_reducible refine Below.drew ?_) | (with_reducible refine Below.setCell ?_ ?_ _) | (with_reducible refine below_via (by assumption) ?_ ?_) | (with_reducible refine below_via (later_below _) ?_ ?_) | (with_reducible exact Nat.le_refl _) | omega | (simp; omega) | (simp; done)))
  · obtain ⟨ik, ip, iq, hi, hiv, hib1, hib2⟩ := ofInt_is n
    obtain ⟨nk, np, nq, hn, hnv, hnb1, hnb2⟩ := ofNum_is aP aQ
    have htb : trueV 1 (boolI b) = b := by cases b <;> rfl
    have hsv : validV 3 0 0 s 0 = decide (s.size ≤ 4096) := by unfold validV; simp
    have H1 : Hid (∀ w', Calls Tryd.prog 30 #[.bool b] w' fun e w'' => e = .returned (vV 1 0 0 ⟨#[]⟩ (boolI b)) ∧ Below w'.heap.size w' w'') := fun w' => ofbool_v _ w'
    have H2 : Hid (∀ w', Calls Tryd.prog 31 #[.bool b] w' fun e w'' => e = .returned (vV 1 0 0 ⟨#[]⟩ (boolI b)) ∧ Below w'.heap.size w' w'') := fun w' => rofbool_v _ w'
    have H3 : Hid (∀ w', Calls Tryd.prog 32 #[.int .i64 n] w' fun e w'' => e = .returned (vV ik ip iq ⟨#[]⟩ 0) ∧ Below w'.heap.size w' w'') := fun w' => by have h := ofint_v n w'; rw [hi] at h; exact h
    have H4 : Hid (∀ w', Calls Tryd.prog 33 #[.int .i64 n] w' fun e w'' => e = .returned (vV ik ip iq ⟨#[]⟩ 0) ∧ Below w'.heap.size w' w'') := fun w' => by have h := rofint_v n w'; rw [hi] at h; exact h
    have H5 : Hid (∀ w', Calls Tryd.prog 24 #[.agg #[.int .i64 aP, .int .i64 aQ]] w' fun e w'' => e = .returned (vV nk np nq ⟨#[]⟩ 0) ∧ Below w'.heap.size w' w'') := fun w' => by have h := ofnum_v aP aQ w' p1 p2; rw [hn] at h; exact h
    have H6 : Hid (∀ w', Calls Tryd.prog 34 #[.agg #[.int .i64 aP, .int .i64 aQ]] w' fun e w'' => e = .returned (vV nk np nq ⟨#[]⟩ 0) ∧ Below w'.heap.size w' w'') := fun w' => by have h := rofnum_v aP aQ w' p1 p2; rw [hn] at h; exact h
    have H7 : Hid (∀ w', Calls Tryd.prog 27 #[.string s] w' fun e w'' => e = .returned (vV 3 0 0 s 0) ∧ Below w'.heap.size w' w'') := fun w' => ofstr_v _ w'
    have H8 : Hid (∀ w', Calls Tryd.prog 35 #[.string s] w' fun e w'' => e = .returned (vV 3 0 0 s 0) ∧ Below w'.heap.size w' w'') := fun w' => rofstr_v _ w'
    have H9 : Hid (∀ w', Calls Tryd.prog 13 #[vV 1 0 0 ⟨#[]⟩ (boolI b)] w' fun e w'' => e = .returned (.bool b) ∧ Below w'.heap.size w' w'') := fun w' => by have h := true_v 1 0 0 ⟨#[]⟩ (boolI b) w'; rw [htb] at h; exact h
    have HV1 : Hid (∀ w', Calls Tryd.prog 11 #[vV ik ip iq ⟨#[]⟩ 0] w' fun e w'' => e = .returned (.bool true) ∧ Below w'.heap.size w' w'') := fun w' => by have h := valid_v ik ip iq ⟨#[]⟩ 0 w' (by decide) hib1 hib2; rw [hiv] at h; exact h
    have HV2 : Hid (∀ w', Calls Tryd.prog 11 #[vV nk np nq ⟨#[]⟩ 0] w' fun e w'' => e = .returned (.bool true) ∧ Below w'.heap.size w' w'') := fun w' => by have h := valid_v nk np nq ⟨#[]⟩ 0 w' (by decide) hnb1 hnb2; rw [hnv] at h; exact h
    have HV3 : Hid (∀ w', Calls Tryd.prog 11 #[vV 3 0 0 s 0] w' fun e w'' => e = .returned (.bool (decide (s.size ≤ 4096))) ∧ Below w'.heap.size w' w'') := fun w' => by have h := valid_v 3 0 0 s 0 w' ssz (by omega) (by omega); rw [hsv] at h; exact h
    clear hi hn hiv hnv htb hsv hib1 hib2 hnb1 hnb2
    generalize boolI b = B at H1 H2 H9
    by_cases hl2 : s.size ≤ 4096
    all_goals
      go_enter Tryd.func7, Tryd.ntmps7
      go_wp2_with fail
      (refine wp_region_calm (by kernel_rfl) (by kernel_rfl) ?_; refine calm_mem ?_; intro N hN hne hcu; (try simp at hN); subst hN; (repeat ((refine wpQuiet_step (fun K hK => ?_)); go_simp; (repeat (simp only [↓IntWalk.iteOmega]; go_simp)); (first | (refine hK _ ?_; clear hK K) | (apply Exists.intro; refine ⟨fun _ => ?_, hK _ ?_⟩; (first | (go_at_call 30; exact calm_of (H1.out _)) | (go_at_call 31; exact calm_of (H2.out _)) | (go_at_call 32; exact calm_of (H3.out _)) | (go_at_call 33; exact calm_of (H4.out _)) | (go_at_call 24; exact calm_of (H5.out _)) | (go_at_call 34; exact calm_of (H6.out _)) | (go_at_call 27; exact calm_of (H7.out _)) | (go_at_call 35; exact calm_of (H8.out _))); clear hK K)))); refine wpQuiet_nil ?_; intro _ hw'; obtain ⟨⟨w1, hb⟩, hw''⟩ := hw'; subst hw''; clear hcu hne; (try dsimp only); (refine mem hb ?_; intro N hN hz hc hf; (try simp at hN); subst hN))
      go_wp2_with (first | (go_at_call 30; refine (H1.out _).mono ?_; rintro e w9 ⟨rfl, hb⟩; (refine mem hb ?_; intro N hN hz hc hf; (try simp at hN); subst hN)) | (go_at_call 32; refine (H3.out _).mono ?_; rintro e w9 ⟨rfl, hb⟩; (refine mem hb ?_; intro N hN hz hc hf; (try simp at hN); subst hN)) | (go_at_call 24; refine (H5.out _).mono ?_; rintro e w9 ⟨rfl, hb⟩; (refine mem hb ?_; intro N hN hz hc hf; (try simp at hN); subst hN)) | (go_at_call 27; refine (H7.out _).mono ?_; rintro e w9 ⟨rfl, hb⟩; (refine mem hb ?_; intro N hN hz hc hf; (try simp at hN); subst hN)) | (go_at_call 13; refine (H9.out _).mono ?_; rintro e w9 ⟨rfl, hb⟩; (refine mem hb ?_; intro N hN hz hc hf; (try simp at hN); subst hN)) | (go_at_call 11; (first | (with_reducible refine (HV1.out _).mono ?_) | (with_reducible refine (HV2.out _).mono ?_) | (with_reducible refine (HV3.out _).mono ?_)); (rintro e w9 ⟨rfl, hb⟩); (refine mem hb ?_; intro N hN hz hc hf; (try simp at hN); subst hN)) | (go_at_call 10; refine (HW.out _ (HT.out.later ?_)).mono ?_; (focus ((repeat' (first | (with_reducible exact Below.refl _ _) | (with_reducible assumption) | (with_reducible refine Below.alloc ?_ ?_ _) | (with_reducible refine below_drewN ?_ _) | (with_reducible refine Below.drew ?_) | (with_reducible refine Below.setCell ?_ ?_ _) | (with_reducible refine below_via (by assumption) ?_ ?_) | (with_reducible refine below_via (later_below _) ?_ ?_) | (with_reducible exact Nat.le_refl _) | omega | (simp; omega) | (simp; done))))); rintro e w9 ⟨rfl, hb⟩; (refine mem hb ?_; intro N hN hz hc hf; (try simp at hN); subst hN)))
      ((try simp only [Exit.inBlock, Exit.then]); refine bodyPost_ret (by first | (simp [results, Tryd.results7, go_sem, *]; done) | (simp [results, Tryd.results7, go_sem, *]; rfl) | (simp [results, Tryd.results7, go_sem, ↓IntWalk.iteOmega, *]; try rfl)) rfl ?_)
      refine ⟨?_, ?_⟩
      · first | rfl | (simp; omega)
      (repeat' (first | (with_reducible exact Below.refl _ _) | (with_reducible assumption) | (with_reducible refine Below.alloc ?_ ?_ _) | (with_reducible refine below_drewN ?_ _) | (with_reducible refine Below.drew ?_) | (with_reducible refine Below.setCell ?_ ?_ _) | (with_reducible refine below_via (by assumption) ?_ ?_) | (with_reducible refine below_via (later_below _) ?_ ?_) | (with_reducible exact Nat.le_refl _) | omega | (simp; omega) | (simp; done)))

set_option maxRecDepth 100000 in
theorem lifted (os : Os) (started : os.Started) (H : Type) (enc : TypeId × Value → H) :
    ReturnsInHanded {} Tryd.checked os 7 .any (fun w args => (Rows.valueMakesSpec.pre enc Tryd.prog Tryd.f7 Rows.valueMakesRow.domain false w args ∧ laidMetH Tryd.prog laidS w) ∧ sizedMet enc Tryd.prog Tryd.f7 (OpenSpec.ofChange Rows.valueMakesSpec) false w args) (Rows.valueMakesSpec.post enc Tryd.prog Tryd.f7 false true false false) := by
  refine returnsInHanded_of_change_and (C := Tryd.checked) (X := fun w _ => laidMetH Tryd.prog laidS w) (fun _ _ _ hh h => h.of_heap hh) own started (by kernel_rfl) Tryd.func7
    (ChangeSpec.witness_shaped (enc := enc) (C := Tryd.checked) (os := os) (X := fun w _ => laidMetH Tryd.prog laidS w) false (World.laidAll Tryd.prog os laidS) #[.bool false, .int .i64 0, .agg #[.int .i64 0, .int .i64 0], .string ⟨#[]⟩] 8 (World.laidAll_os _ _ _) (start_shaped os) (by kernel_rfl) (by kernel_rfl) (by kernel_rfl) (start_met os _)) ?_
  intro W base args ds gs before hval0 hW hcnd _ hL _
  have hT := laid_tabs hL
  have hval : ∀ (j : Nat) t v, Tryd.f7.params[j]? = some t → args[j]? = some v → Value.okWide Tryd.prog W .any base t v := hval0
  have hW' := hW
  obtain ⟨p, q, hA0, hV, rfl, hfz, hnd⟩ := hW
  have hA : DataW.TrodAll enc Tryd.prog W 0 (fun _ => true) true Tryd.f7.params.toList args.toList ds p := hA0
  rw [Tryd.params7] at hA hval
  obtain ⟨v0, vs0, d0, ds0, p0, q0, hargs, rfl, rfl, h0, r0⟩ := trodAll_cons hA
  obtain ⟨v1, vs1, d1, ds1, p1, q1, rfl, rfl, rfl, h1, r1⟩ := trodAll_cons r0
  obtain ⟨v2, vs2, d2, ds2, p2, q2, rfl, rfl, rfl, h2, r2⟩ := trodAll_cons r1
  obtain ⟨v3, vs3, d3, ds3, p3, q3, rfl, rfl, rfl, h3, r3⟩ := trodAll_cons r2
  obtain ⟨rfl, rfl, rfl⟩ := trodAll_nil r3
  obtain rfl : args = #[v0, v1, v2, v3] := by cases args; simp_all
  obtain ⟨rfl, rfl⟩ := trodVars_none hV
  have k0 := h0
  have lt0 : ∀ x ∈ p0, x.block < W.heap.size := by obtain ⟨m, hm⟩ := k0; exact DataW.trod_lt m _ _ _ hm
  obtain ⟨b, rfl, -, -⟩ := open_bool Tryd.underlying4 (hval 0 4 v0 rfl rfl) h0
  have k1 := h1
  have lt1 : ∀ x ∈ p1, x.block < W.heap.size := by obtain ⟨m, hm⟩ := k1; exact DataW.trod_lt m _ _ _ hm
  obtain ⟨n, rfl, -, -, wn⟩ := open_int Tryd.underlying3 (hval 1 3 v1 rfl rfl) h1
  have k2 := h2
  have lt2 : ∀ x ∈ p2, x.block < W.heap.size := by obtain ⟨m, hm⟩ := k2; exact DataW.trod_lt m _ _ _ hm
  obtain ⟨c2, e2, y2, z2, m2, rfl, -, -, hy2, hz2⟩ := open_agg2 Tryd.underlying23 (by kernel_rfl) (by kernel_rfl) (hval 2 23 v2 rfl rfl) h2
  obtain ⟨aP, f2, -, waP⟩ := DataW.trod_int Tryd.underlying3 hy2
  obtain ⟨aQ, g2, -, waQ⟩ := DataW.trod_int Tryd.underlying3 hz2
  simp only [List.cons.injEq, and_true] at f2 g2
  subst f2 g2
  have k3 := h3
  have lt3 : ∀ x ∈ p3, x.block < W.heap.size := by obtain ⟨m, hm⟩ := k3; exact DataW.trod_lt m _ _ _ hm
  obtain ⟨s, rfl, -, -, ws⟩ := open_string Tryd.underlying9 (hval 3 9 v3 rfl rfl) h3
  clear hA0 hval0
  refine (walk b n wn aP aQ waP waQ s ws W hT).mono fun e W' ⟨he, bel⟩ => ?_
  subst he
  exact ⟨_, rfl, _, _, _, [], _, [], hW', trodAll_mk1 (shut_bool Tryd.underlying4 _), (trodAll_cons_mk (Below.trod laidOut (by kernel_rfl) (of_decide_eq_true (by kernel_rfl)) k0 bel lt0) (trodAll_cons_mk (Below.trod laidOut (by kernel_rfl) (of_decide_eq_true (by kernel_rfl)) k1 bel lt1) (trodAll_cons_mk (Below.trod laidOut (by kernel_rfl) (of_decide_eq_true (by kernel_rfl)) k2 bel lt2) (trodAll_cons_mk (Below.trod laidOut (by kernel_rfl) (of_decide_eq_true (by kernel_rfl)) k3 bel lt3) trodAll_mk0)))), rfl, bel.frame _, fun h => by cases h⟩

theorem over : Rows.valueMakesRow.holds Tryd.pinned (OpenSpec.ofChange Rows.valueMakesSpec) :=
  OpenClaim.holds_of_wide 7 Tryd.f7 rfl rfl rfl rfl rfl rfl rfl ⟨rfl, rfl, rfl, rfl, rfl⟩ rfl rfl rfl rfl rfl (by kernel_rfl) Tryd.func7 (by kernel_rfl)
    (of_decide_eq_true (by kernel_rfl)) (by unfold Func.isWrapper; first | (rw [if_pos (by decide +kernel)]; kernel_rfl) | (rw [if_neg (by decide +kernel)]; exact ⟨rfl, rfl⟩))
    (fun os started H enc _ => lifted os started H enc)

/-- The given statement: the row, tied. -/
theorem proved : Rows.ValueMakesCardSaid :=
  Claim7.holds_tied_plain_at .later [] [.data, .data, .data, .data, .pinned] true _ false over (fun _ h => by cases h) (by kernel_rfl) (fun _ h => by cases h) valueMakes_row_tie rfl ⟨rfl, rfl⟩ (by kernel_rfl) rfl
    (fun f fn hf hfn => by
      obtain rfl : f = 7 := Option.some.inj ((show Tryd.prog.funcNamed Rows.valueMakesRow.func = some 7 by kernel_rfl).symm.trans hf) |>.symm
      obtain rfl : fn = Tryd.f7 := (Option.some.inj (Tryd.func7.symm.trans hfn)).symm
      exact ⟨by kernel_rfl, fun j t ht => by
        rw [Tryd.params7] at ht
        have hm : t ∈ [4, 3, 23, 9] := by simpa using Array.mem_of_getElem? ht
        have hall : ([4, 3, 23, 9].all fun u => !Tryd.prog.wantsStandIn u) = true := by kernel_rfl
        exact (show Tryd.prog.wantsStandIn t = false by simpa using List.all_eq_true.1 hall t hm)⟩)
    (by kernel_rfl)
#print axioms proved
end Go.Proofs.YtpahemohpaaeoaaDoor.valueMakes
