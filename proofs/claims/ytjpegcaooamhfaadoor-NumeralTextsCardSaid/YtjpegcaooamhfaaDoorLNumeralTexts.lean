/- The law NumeralTexts holds: for every input it returns true, and each argument reads as it did, where the library's tables read as its text lays them. No other conditions. -/
import Derived.Test.YtjpegcaooamhfaaDoorNumAw
import Derived.Test.YtjpegcaooamhfaaDoorRefN5
import Derived.Test.YtjpegcaooamhfaaDoorLaid
import Derived.Test.YtjpegcaooamhfaaDoorCards
import Derived.Test.YtjpegcaooamhfaaDoorTie
namespace Go.Proofs.YtjpegcaooamhfaaDoor.numeralTexts
open Go.ChangeShapes Go.WideShapes Go.ChangeAt Go.RowKit Go.Joins
open Go.ChangeMaps (open_string shut_string)
set_option linter.unusedVariables false

set_option maxHeartbeats 4000000 in
set_option maxRecDepth 100000 in
theorem walk (aP aQ : Int) (waP : (Lit.int .i64 aP).wf = true) (waQ : (Lit.int .i64 aQ).wf = true) (w : World) (hT : Tabs w) :
    Calls Tryd.prog 3 #[.agg #[.int .i64 aP, .int .i64 aQ]] w fun e w' => e = .returned (.bool true) ∧ Below w.heap.size w w' := by
  obtain ⟨p1, p2⟩ := bounds_i64 waP
  have HT := Lib.hid hT
  clear hT
  have HA : Hid (Below w.heap.size w w) := Below.refl _ _
  obtain ⟨S, hS⟩ : ∃ S, mkS (textL aP aQ) = S := ⟨_, rfl⟩
  have HX : Hid (∀ w', Tabs w' → Calls Tryd.prog 12 #[.agg #[.int .i64 aP, .int .i64 aQ]] w' fun e w'' => e = .returned (.string S) ∧ Below w'.heap.size w' w'') := fun w' hT' => by
    have := text_any aP aQ w' p1 p2 hT'
    rw [hS] at this
    exact this
  have HY : Hid (∀ w', Calls Tryd.prog 13 #[.agg #[.int .i64 aP, .int .i64 aQ]] w' fun e w'' => e = .returned (.string S) ∧ Below w'.heap.size w' w'') := fun w' => by
    have := rtext_any aP aQ w' p1 p2
    rw [hS] at this
    exact this
  clear hS
  go_enter Tryd.func3, Tryd.ntmps3
  have H0 := Lib.hid (keep2_new w (.int .i64 aP) (.int .i64 aQ) 23)
  have HA : Hid (Below w.heap.size w (w.alloc (.cells #[.int .i64 aP, .int .i64 aQ] 23))) := (Below.refl _ _).alloc (Nat.le_refl _) _
  go_wp2_with fail
  (refine wp_region_calm (by kernel_rfl) (by kernel_rfl) ?_; refine calm_mem ?_; intro N hN hne hcu; (try simp at hN); subst hN; (repeat ((refine wpQuiet_step (fun K hK => ?_)); go_simp; (repeat (simp only [↓IntWalk.iteOmega]; go_simp)); (first | (refine hK _ ?_; clear hK K) | (apply Exists.intro; refine ⟨fun _ => ?_, hK _ ?_⟩; (first | (go_at_call 12; refine calm_of (HX.out _ (HT.out.later ?_)); (repeat' (first | (with_reducible exact Below.refl _ _) | (with_reducible assumption) | (with_reducible refine Below.alloc ?_ ?_ _) | (with_reducible refine below_drewN ?_ _) | (with_reducible refine Below.drew ?_) | (with_reducible refine Below.setCell ?_ ?_ _) | (with_reducible refine below_via (by assumption) ?_ ?_) | (with_reducible refine below_via (later_below _) ?_ ?_) | (with_reducible exact Nat.le_refl _) | omega | (simp; omega) | (simp; done)))) | (go_at_call 13; exact calm_of (HY.out _)) | (go_at_call 14; refine calm_of (awake_any _ (HT.out.later ?_)); (repeat' (first | (with_reducible exact Below.refl _ _) | (with_reducible assumption) | (with_reducible refine Below.alloc ?_ ?_ _) | (with_reducible refine below_drewN ?_ _) | (with_reducible refine Below.drew ?_) | (with_reducible refine Below.setCell ?_ ?_ _) | (with_reducible refine below_via (by assumption) ?_ ?_) | (with_reducible refine below_via (later_below _) ?_ ?_) | (with_reducible exact Nat.le_refl _) | omega | (simp; omega) | (simp; done))))); clear hK K)))); refine wpQuiet_nil ?_; intro _ hw'; obtain ⟨⟨w1, hb⟩, hw''⟩ := hw'; subst hw''; clear hcu hne; (try dsimp only); (refine mem hb ?_; intro N hN hz hc hf; (try simp at hN); subst hN))
  go_wp2
  go_returns
  refine ⟨rfl, ?_⟩
  (repeat' (first | (with_reducible exact Below.refl _ _) | (with_reducible assumption) | (with_reducible refine Below.alloc ?_ ?_ _) | (with_reducible refine below_drewN ?_ _) | (with_reducible refine Below.drew ?_) | (with_reducible refine Below.setCell ?_ ?_ _) | (with_reducible refine below_via (by assumption) ?_ ?_) | (with_reducible refine below_via (later_below _) ?_ ?_) | (with_reducible exact Nat.le_refl _) | omega | (simp; omega) | (simp; done)))

set_option maxRecDepth 100000 in
theorem lifted (os : Os) (started : os.Started) (H : Type) (enc : TypeId × Value → H) :
    ReturnsInHanded {} Tryd.checked os 3 .any (fun w args => (Rows.numeralTextsSpec.pre enc Tryd.prog Tryd.f3 Rows.numeralTextsRow.domain false w args ∧ laidMetH Tryd.prog laidS w) ∧ sizedMet enc Tryd.prog Tryd.f3 (OpenSpec.ofChange Rows.numeralTextsSpec) false w args) (Rows.numeralTextsSpec.post enc Tryd.prog Tryd.f3 false true false false) := by
  refine returnsInHanded_of_change_and (C := Tryd.checked) (X := fun w _ => laidMetH Tryd.prog laidS w) (fun _ _ _ hh h => h.of_heap hh) own started (by kernel_rfl) Tryd.func3
    (ChangeSpec.witness_shaped (enc := enc) (C := Tryd.checked) (os := os) (X := fun w _ => laidMetH Tryd.prog laidS w) false (World.laidAll Tryd.prog os laidS) #[.agg #[.int .i64 0, .int .i64 0]] 8 (World.laidAll_os _ _ _) (start_shaped os) (by kernel_rfl) (by kernel_rfl) (by kernel_rfl) (start_met os _)) ?_
  intro W base args ds gs before hval0 hW hcnd _ hL _
  have hT := laid_tabs hL
  have hval : ∀ (j : Nat) t v, Tryd.f3.params[j]? = some t → args[j]? = some v → Value.okWide Tryd.prog W .any base t v := hval0
  have hW' := hW
  obtain ⟨p, q, hA0, hV, rfl, hfz, hnd⟩ := hW
  have hA : DataW.TrodAll enc Tryd.prog W 0 (fun _ => true) true Tryd.f3.params.toList args.toList ds p := hA0
  rw [Tryd.params3] at hA hval
  obtain ⟨v0, vs0, d0, ds0, p0, q0, hargs, rfl, rfl, h0, r0⟩ := trodAll_cons hA
  obtain ⟨rfl, rfl, rfl⟩ := trodAll_nil r0
  obtain rfl : args = #[v0] := by cases args; simp_all
  obtain ⟨rfl, rfl⟩ := trodVars_none hV
  have k0 := h0
  have lt0 : ∀ x ∈ p0, x.block < W.heap.size := by obtain ⟨m, hm⟩ := k0; exact DataW.trod_lt m _ _ _ hm
  obtain ⟨c0, e0, y0, z0, m0, rfl, -, -, hy0, hz0⟩ := open_agg2 Tryd.underlying23 (by kernel_rfl) (by kernel_rfl) (hval 0 23 v0 rfl rfl) h0
  obtain ⟨aP, f0, -, waP⟩ := DataW.trod_int Tryd.underlying3 hy0
  obtain ⟨aQ, g0, -, waQ⟩ := DataW.trod_int Tryd.underlying3 hz0
  simp only [List.cons.injEq, and_true] at f0 g0
  subst f0 g0
  clear hA0 hval0
  refine (walk aP aQ waP waQ W hT).mono fun e W' ⟨he, bel⟩ => ?_
  subst he
  exact ⟨_, rfl, _, _, _, [], _, [], hW', trodAll_mk1 (shut_bool Tryd.underlying4 _), (trodAll_cons_mk (Below.trod laidOut (by kernel_rfl) (of_decide_eq_true (by kernel_rfl)) k0 bel lt0) trodAll_mk0), rfl, bel.frame _, fun h => by cases h⟩

theorem over : Rows.numeralTextsRow.holds Tryd.pinned (OpenSpec.ofChange Rows.numeralTextsSpec) :=
  OpenClaim.holds_of_wide 3 Tryd.f3 rfl rfl rfl rfl rfl rfl rfl ⟨rfl, rfl, rfl, rfl, rfl⟩ rfl rfl rfl rfl rfl (by kernel_rfl) Tryd.func3 (by kernel_rfl)
    (of_decide_eq_true (by kernel_rfl)) (by unfold Func.isWrapper; first | (rw [if_pos (by decide +kernel)]; kernel_rfl) | (rw [if_neg (by decide +kernel)]; exact ⟨rfl, rfl⟩))
    (fun os started H enc _ => lifted os started H enc)

/-- The given statement: the row, tied. -/
theorem proved : Rows.NumeralTextsCardSaid :=
  Claim7.holds_tied_plain_at .later [] [.data, .data, .data, .data, .pinned] true _ false over (fun _ h => by cases h) (by kernel_rfl) (fun _ h => by cases h) numeralTexts_row_tie rfl ⟨rfl, rfl⟩ (by kernel_rfl) rfl
    (fun f fn hf hfn => by
      obtain rfl : f = 3 := Option.some.inj ((show Tryd.prog.funcNamed Rows.numeralTextsRow.func = some 3 by kernel_rfl).symm.trans hf) |>.symm
      obtain rfl : fn = Tryd.f3 := (Option.some.inj (Tryd.func3.symm.trans hfn)).symm
      exact ⟨by kernel_rfl, fun j t ht => by
        rw [Tryd.params3] at ht
        have hm : t ∈ [23] := by simpa using Array.mem_of_getElem? ht
        have hall : ([23].all fun u => !Tryd.prog.wantsStandIn u) = true := by kernel_rfl
        exact (show Tryd.prog.wantsStandIn t = false by simpa using List.all_eq_true.1 hall t hm)⟩)
    (by kernel_rfl)
#print axioms proved
end Go.Proofs.YtjpegcaooamhfaaDoor.numeralTexts
