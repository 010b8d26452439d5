/- The law ValueCompares holds: for every input it returns true, and each argument reads as it did, where the library's tables read as its text lays them. No other conditions. -/
import Derived.Test.YtpahemohpaaeoaaDoorValAw
import Derived.Test.YtpahemohpaaeoaaDoorValW5
import Derived.Test.YtpahemohpaaeoaaDoorValLaw
import Derived.Test.YtpahemohpaaeoaaDoorLaid
import Derived.Test.YtpahemohpaaeoaaDoorCards
import Derived.Test.YtpahemohpaaeoaaDoorTie
namespace Go.Proofs.YtpahemohpaaeoaaDoor.valueCompares
open Go.ChangeShapes Go.WideShapes Go.ChangeAt Go.RowKit Go.Joins
open Go.ChangeMaps (open_string shut_string)
set_option linter.unusedVariables false

theorem long_v (k p q : Int) (s : ByteArray) (r : Int) (w : World) : Calls Tryd.prog 9 #[vV k p q s r] w fun e w' => e = .returned (.bool (decide (4106 < (s.size : Int)))) ∧ Below w.heap.size w w' := by
  go_enter Tryd.func9, Tryd.ntmps9
  go_wp2_with fail
  ((try simp only [Exit.inBlock, Exit.then]); refine bodyPost_ret (by first | (simp [results, Tryd.results9, go_sem, *]; done) | (simp [results, Tryd.results9, go_sem, *]; rfl) | (simp [results, Tryd.results9, go_sem, ↓IntWalk.iteOmega, *]; try rfl)) rfl ?_)
  refine ⟨rfl, ?_⟩
  (repeat' (first | (with_reducible exact Below.refl _ _) | (with_reducible assumption) | (with_reducible refine Below.alloc ?_ ?_ _) | (with_reducible refine below_drewN ?_ _) | (with_reducible refine Below.drew ?_) | (with_reducible refine Below.setCell ?_ ?_ _) | (with_reducible refine below_via (by assumption) ?_ ?_) | (with_reducible refine below_via (later_below _) ?_ ?_) | (with_reducible exact Nat.le_refl _) | omega | (simp; omega) | (simp; done)))

set_option maxHeartbeats 4000000 in
set_option maxRecDepth 100000 in
theorem walk (aK aP aQ : Int) (aS : ByteArray) (aR : Int) (waK : (Lit.int .i64 aK).wf = true) (waP : (Lit.int .i64 aP).wf = true) (waQ : (Lit.int .i64 aQ).wf = true) (waS : aS.size ≤ maxLen) (waR : (Lit.int .i64 aR).wf = true) (bK bP bQ : Int) (bS : ByteArray) (bR : Int) (wbK : (Lit.int .i64 bK).wf = true) (wbP : (Lit.int .i64 bP).wf = true) (wbQ : (Lit.int .i64 bQ).wf = true) (wbS : bS.size ≤ maxLen) (wbR : (Lit.int .i64 bR).wf = true) (w : World) (hT : Tabs w) :
    Calls Tryd.prog 4 #[vV aK aP aQ aS aR, vV bK bP bQ bS bR] w fun e w' => e = .returned (.bool true) ∧ Below w.heap.size w w' := by
  obtain ⟨ak1, ak2⟩ := bounds_i64 waK
  obtain ⟨ap1, ap2⟩ := bounds_i64 waP
  obtain ⟨ar1, ar2⟩ := bounds_i64 waR
  have asz : aS.size ≤ 9223372036854775807 := by unfold maxLen at waS; omega
  obtain ⟨bk1, bk2⟩ := bounds_i64 wbK
  obtain ⟨bp1, bp2⟩ := bounds_i64 wbP
  obtain ⟨br1, br2⟩ := bounds_i64 wbR
  have bsz : bS.size ≤ 9223372036854775807 := by unfold maxLen at wbS; omega
  have HT := Lib.hid hT
  clear hT
  have HW : Hid (∀ w', Tabs w' → Calls Tryd.prog 10 #[] w' fun e w'' => e = .returned (.bool true) ∧ Below w'.heap.size w' w'') := fun w' hT' => awake_any w' hT'
  have HLOa : Hid (∀ w', Calls Tryd.prog 9 #[vV aK aP aQ aS aR] w' fun e w'' => e = .returned (.bool (decide (4106 < (aS.size : Int)))) ∧ Below w'.heap.size w' w'') := fun w' => long_v _ _ _ _ _ w'
  have HLOb : Hid (∀ w', Calls Tryd.prog 9 #[vV bK bP bQ bS bR] w' fun e w'' => e = .returned (.bool (decide (4106 < (bS.size : Int)))) ∧ Below w'.heap.size w' w'') := fun w' => long_v _ _ _ _ _ w'
  by_cases hl : 4106 < aS.size ∨ 4106 < bS.size
  · have hl2 : 4106 < aS.size ∨ (¬ 4106 < aS.size ∧ 4106 < bS.size) := by omega
    clear hl
    rcases hl2 with hl | ⟨hl, hl2⟩
    all_goals
      go_enter Tryd.func4, Tryd.ntmps4
      go_wp2_with (first | (go_at_call 9; (first | (with_reducible refine (HLOa.out _).mono ?_) | (with_reducible refine (HLOb.out _).mono ?_)); (rintro e w9 ⟨rfl, hb⟩); (refine mem hb ?_; intro N hN hz hc hf; (try simp at hN); subst hN)) | (go_at_call 10; refine (HW.out _ (HT.out.later ?_)).mono ?_; (focus ((repeat' (first | (with_reducible exact Below.refl _ _) | (with_reducible assumption) | (with_reducible refine Below.alloc ?_ ?_ _) | (with_reducible refine below_drewN ?_ _) | (with_reducible refine Below.drew ?_) | (with_reducible refine Below.setCell ?_ ?_ _) | (with_reducible refine below_via (by assumption) ?_ ?_) | (with_reducible refine below_via (later_below _) ?_ ?_) | (with_reducible exact Nat.le_refl _) | omega | (simp; omega) | (simp; done))))); rintro e w9 ⟨rfl, hb⟩; (refine mem hb ?_; intro N hN hz hc hf; (try simp at hN); subst hN)))
      ((try simp only [Exit.inBlock, Exit.then]); refine bodyPost_ret (by first | (simp [results, Tryd.results4, go_sem, *]; done) | (simp [results, Tryd.results4, go_sem, *]; rfl) | (simp [results, Tryd.results4, go_sem, ↓IntWalk.iteOmega, *]; try rfl)) rfl ?_)
      refine ⟨rfl, ?_⟩
      (repeat' (first | (with_reducible exact Below.refl _ _) | (with_reducible assumption) | (with_reducible refine Below.alloc ?_ ?_ _) | (with_reducible refine below_drewN ?_ _) | (with_reducible refine Below.drew ?_) | (with_reducible refine Below.setCell ?_ ?_ _) | (with_reducible refine below_via (by assumption) ?_ ?_) | (with_reducible refine below_via (later_below _) ?_ ?_) | (with_reducible exact Nat.le_refl _) | omega | (simp; omega) | (simp; done)))
  · obtain ⟨hla, hlb⟩ : aS.size ≤ 4106 ∧ bS.size ≤ 4106 := by omega
    clear hl
    have H1 : Hid (∀ w', Calls Tryd.prog 19 #[vV aK aP aQ aS aR, vV bK bP bQ bS bR] w' fun e w'' => e = .returned (.tuple #[.bool (lessV aK aP aQ aS bK bP bQ bS).1, .int .i64 (lessV aK aP aQ aS bK bP bQ bS).2]) ∧ Below w'.heap.size w' w'') := fun w' => less_v _ _ _ _ _ _ _ _ _ _ w' ap1 ap2 bp1 bp2
    have H2 : Hid (∀ w', Calls Tryd.prog 20 #[vV aK aP aQ aS aR, vV bK bP bQ bS bR] w' fun e w'' => e = .returned (.tuple #[.bool (lessV aK aP aQ aS bK bP bQ bS).1, .int .i64 (lessV aK aP aQ aS bK bP bQ bS).2]) ∧ Below w'.heap.size w' w'') := fun w' => rless_v _ _ _ _ _ _ _ _ _ _ w' ap1 ap2 bp1 bp2 asz bsz
    have H3 : Hid (∀ w', Calls Tryd.prog 21 #[vV aK aP aQ aS aR, vV bK bP bQ bS bR] w' fun e w'' => e = .returned (.bool (sameV aK aP aQ aS aR bK bP bQ bS bR)) ∧ Below w'.heap.size w' w'') := fun w' => same_v _ _ _ _ _ _ _ _ _ _ w'
    have H4 : Hid (∀ w', Calls Tryd.prog 22 #[vV aK aP aQ aS aR, vV bK bP bQ bS bR] w' fun e w'' => e = .returned (.bool (sameV aK aP aQ aS aR bK bP bQ bS bR)) ∧ Below w'.heap.size w' w'') := fun w' => rsame_v _ _ _ _ _ _ _ _ _ _ w'
    generalize (lessV aK aP aQ aS bK bP bQ bS).1 = L at H1 H2
    generalize (lessV aK aP aQ aS bK bP bQ bS).2 = E at H1 H2
    generalize sameV aK aP aQ aS aR bK bP bQ bS bR = M at H3 H4
    go_enter Tryd.func4, Tryd.ntmps4
    go_wp2_with (first | (go_at_call 9; (first | (with_reducible refine (HLOa.out _).mono ?_) | (with_reducible refine (HLOb.out _).mono ?_)); (rintro e w9 ⟨rfl, hb⟩); (refine mem hb ?_; intro N hN hz hc hf; (try simp at hN); subst hN)) | (go_at_call 19; refine (H1.out _).mono ?_; rintro e w9 ⟨rfl, hb⟩; (refine mem hb ?_; intro N hN hz hc hf; (try simp at hN); subst hN)) | (go_at_call 20; refine (H2.out _).mono ?_; rintro e w9 ⟨rfl, hb⟩; (refine mem hb ?_; intro N hN hz hc hf; (try simp at hN); subst hN)))
    (refine wp_region_calm (by kernel_rfl) (by kernel_rfl) ?_; refine calm_mem ?_; intro N hN hne hcu; (try simp at hN); subst hN; (repeat ((refine wpQuiet_step (fun K hK => ?_)); go_simp; (repeat (simp only [↓IntWalk.iteOmega]; go_simp)); (first | (refine hK _ ?_; clear hK K) | (apply Exists.intro; refine ⟨fun _ => ?_, hK _ ?_⟩; (first | (go_at_call 21; exact calm_of (H3.out _)) | (go_at_call 22; exact calm_of (H4.out _)) | (go_at_call 10; refine calm_of (HW.out _ (HT.out.later ?_)); (repeat' (first | (with_reducible exact Below.refl _ _) | (with_reducible assumption) | (with_reducible refine Below.alloc ?_ ?_ _) | (with_reducible refine below_drewN ?_ _) | (with_reducible refine Below.drew ?_) | (with_reducible refine Below.setCell ?_ ?_ _) | (with_reducible refine below_via (by assumption) ?_ ?_) | (with_reducible refine below_via (later_below _) ?_ ?_) | (with_reducible exact Nat.le_refl _) | omega | (simp; omega) | (simp; done))))); clear hK K)))); refine wpQuiet_nil ?_; intro _ hw'; obtain ⟨⟨w1, hb⟩, hw''⟩ := hw'; subst hw''; clear hcu hne; (try dsimp only); (refine mem hb ?_; intro N hN hz hc hf; (try simp at hN); subst hN))
    go_wp2
    ((try simp only [Exit.inBlock, Exit.then]); refine bodyPost_ret (by first | (simp [results, Tryd.results4, go_sem, *]; done) | (simp [results, Tryd.results4, go_sem, *]; rfl) | (simp [results, Tryd.results4, go_sem, ↓IntWalk.iteOmega, *]; try rfl)) rfl ?_)
    refine ⟨rfl, ?_⟩
    (repeat' (first | (with_reducible exact Below.refl _ _) | (with_reducible assumption) | (with_reducible refine Below.alloc ?_ ?_ _) | (with_reducible refine below_drewN ?_ _) | (with_reducible refine Below.drew ?_) | (with_reducible refine Below.setCell ?_ ?_ _) | (with_reducible refine below_via (by assumption) ?_ ?_) | (with_reducible refine below_via (later_below _) ?_ ?_) | (with_reducible exact Nat.le_refl _) | omega | (simp; omega) | (simp; done)))

set_option maxRecDepth 100000 in
theorem lifted (os : Os) (started : os.Started) (H : Type) (enc : TypeId × Value → H) :
    ReturnsInHanded {} Tryd.checked os 4 .any (fun w args => (Rows.valueComparesSpec.pre enc Tryd.prog Tryd.f4 Rows.valueComparesRow.domain false w args ∧ laidMetH Tryd.prog laidS w) ∧ sizedMet enc Tryd.prog Tryd.f4 (OpenSpec.ofChange Rows.valueComparesSpec) false w args) (Rows.valueComparesSpec.post enc Tryd.prog Tryd.f4 false true false false) := by
  refine returnsInHanded_of_change_and (C := Tryd.checked) (X := fun w _ => laidMetH Tryd.prog laidS w) (fun _ _ _ hh h => h.of_heap hh) own started (by kernel_rfl) Tryd.func4
    (ChangeSpec.witness_shaped (enc := enc) (C := Tryd.checked) (os := os) (X := fun w _ => laidMetH Tryd.prog laidS w) false (World.laidAll Tryd.prog os laidS) #[.agg #[.int .i64 0, .int .i64 0, .int .i64 0, .string ⟨#[]⟩, .int .i64 0], .agg #[.int .i64 0, .int .i64 0, .int .i64 0, .string ⟨#[]⟩, .int .i64 0]] 8 (World.laidAll_os _ _ _) (start_shaped os) (by kernel_rfl) (by kernel_rfl) (by kernel_rfl) (start_met os _)) ?_
  intro W base args ds gs before hval0 hW hcnd _ hL _
  have hT := laid_tabs hL
  have hval : ∀ (j : Nat) t v, Tryd.f4.params[j]? = some t → args[j]? = some v → Value.okWide Tryd.prog W .any base t v := hval0
  have hW' := hW
  obtain ⟨p, q, hA0, hV, rfl, hfz, hnd⟩ := hW
  have hA : DataW.TrodAll enc Tryd.prog W 0 (fun _ => true) true Tryd.f4.params.toList args.toList ds p := hA0
  rw [Tryd.params4] at hA hval
  obtain ⟨v0, vs0, d0, ds0, p0, q0, hargs, rfl, rfl, h0, r0⟩ := trodAll_cons hA
  obtain ⟨v1, vs1, d1, ds1, p1, q1, rfl, rfl, rfl, h1, r1⟩ := trodAll_cons r0
  obtain ⟨rfl, rfl, rfl⟩ := trodAll_nil r1
  obtain rfl : args = #[v0, v1] := by cases args; simp_all
  obtain ⟨rfl, rfl⟩ := trodVars_none hV
  have k0 := h0
  have lt0 : ∀ x ∈ p0, x.block < W.heap.size := by obtain ⟨m, hm⟩ := k0; exact DataW.trod_lt m _ _ _ hm
  obtain ⟨aK, aP, aQ, aS, aR, rfl, waK, waP, waQ, waS, waR⟩ := open_val (hval 0 25 v0 rfl rfl) h0
  have k1 := h1
  have lt1 : ∀ x ∈ p1, x.block < W.heap.size := by obtain ⟨m, hm⟩ := k1; exact DataW.trod_lt m _ _ _ hm
  obtain ⟨bK, bP, bQ, bS, bR, rfl, wbK, wbP, wbQ, wbS, wbR⟩ := open_val (hval 1 25 v1 rfl rfl) h1
  clear hA0 hval0
  refine (walk aK aP aQ aS aR waK waP waQ waS waR bK bP bQ bS bR wbK wbP wbQ wbS wbR W hT).mono fun e W' ⟨he, bel⟩ => ?_
  subst he
  exact ⟨_, rfl, _, _, _, [], _, [], hW', trodAll_mk1 (shut_bool Tryd.underlying4 _), (trodAll_cons_mk (Below.trod laidOut (by kernel_rfl) (of_decide_eq_true (by kernel_rfl)) k0 bel lt0) (trodAll_cons_mk (Below.trod laidOut (by kernel_rfl) (of_decide_eq_true (by kernel_rfl)) k1 bel lt1) trodAll_mk0)), rfl, bel.frame _, fun h => by cases h⟩

theorem over : Rows.valueComparesRow.holds Tryd.pinned (OpenSpec.ofChange Rows.valueComparesSpec) :=
  OpenClaim.holds_of_wide 4 Tryd.f4 rfl rfl rfl rfl rfl rfl rfl ⟨rfl, rfl, rfl, rfl, rfl⟩ rfl rfl rfl rfl rfl (by kernel_rfl) Tryd.func4 (by kernel_rfl)
    (of_decide_eq_true (by kernel_rfl)) (by unfold Func.isWrapper; first | (rw [if_pos (by decide +kernel)]; kernel_rfl) | (rw [if_neg (by decide +kernel)]; exact ⟨rfl, rfl⟩))
    (fun os started H enc _ => lifted os started H enc)

/-- The given statement: the row, tied. -/
theorem proved : Rows.ValueComparesCardSaid :=
  Claim7.holds_tied_plain_at .later [] [.data, .data, .data, .data, .pinned] true _ false over (fun _ h => by cases h) (by kernel_rfl) (fun _ h => by cases h) valueCompares_row_tie rfl ⟨rfl, rfl⟩ (by kernel_rfl) rfl
    (fun f fn hf hfn => by
      obtain rfl : f = 4 := Option.some.inj ((show Tryd.prog.funcNamed Rows.valueComparesRow.func = some 4 by kernel_rfl).symm.trans hf) |>.symm
      obtain rfl : fn = Tryd.f4 := (Option.some.inj (Tryd.func4.symm.trans hfn)).symm
      exact ⟨by kernel_rfl, fun j t ht => by
        rw [Tryd.params4] at ht
        have hm : t ∈ [25, 25] := by simpa using Array.mem_of_getElem? ht
        have hall : ([25, 25].all fun u => !Tryd.prog.wantsStandIn u) = true := by kernel_rfl
        exact (show Tryd.prog.wantsStandIn t = false by simpa using List.all_eq_true.1 hall t hm)⟩)
    (by kernel_rfl)
#print axioms proved
end Go.Proofs.YtpahemohpaaeoaaDoor.valueCompares
