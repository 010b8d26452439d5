/- The law ValueReturns holds: for every input it returns true, and each argument reads as it did, where the library's tables read as its text lays them. No other conditions. -/
import Derived.Test.YtpahemohpaaeoaaDoorValAw
import Derived.Test.YtpahemohpaaeoaaDoorValLaw
import Derived.Test.YtpahemohpaaeoaaDoorNumPlain5
import Derived.Test.YtpahemohpaaeoaaDoorLaid
import Derived.Test.YtpahemohpaaeoaaDoorCards
import Derived.Test.YtpahemohpaaeoaaDoorTie
namespace Go.Proofs.YtpahemohpaaeoaaDoor.valueReturns
open Go.ChangeShapes Go.WideShapes Go.ChangeAt Go.RowKit Go.Joins
open Go.ChangeMaps (open_string shut_string)
set_option linter.unusedVariables false

theorem parse_txt {p q : Int} (h : vldB p q = true) : parseL (txtL p q) = (p, q, 0) := by
  obtain ⟨b1, b2, b3, b4⟩ := vld_bd h
  obtain ⟨a1, a2, a3⟩ := abs_bytes p q
  have hu := uns_abs h
  rw [txt_abs b1]
  unfold parseL
  by_cases hp : p < 0
  · rw [if_pos hp, trim_none (by
      intro c hc
      rcases List.mem_cons.1 hc with rfl | hc
      · decide
      · exact blank_of (a1 c hc)), if_pos (by rfl)]
    show minusT true (unsL (absL p q)) = _
    rw [hu]
    show (-(p.natAbs : Int), q, (0 : Int)) = _
    congr 1; omega
  · rw [if_neg hp, trim_none (fun c hc => blank_of (a1 c hc)), if_neg a3, hu]
    show ((p.natAbs : Int), q, (0 : Int)) = _
    congr 1; omega

set_option maxHeartbeats 4000000 in
set_option maxRecDepth 100000 in
theorem walk (aP aQ : Int) (waP : (Lit.int .i64 aP).wf = true) (waQ : (Lit.int .i64 aQ).wf = true) (w : World) (hT : Tabs w) :
    Calls Tryd.prog 6 #[.agg #[.int .i64 aP, .int .i64 aQ]] w fun e w' => e = .returned (.bool true) ∧ Below w.heap.size w w' := by
  obtain ⟨p1, p2⟩ := bounds_i64 waP
  have HT := Lib.hid hT
  clear hT
  have HW : Hid (∀ w', Tabs w' → Calls Tryd.prog 10 #[] w' fun e w'' => e = .returned (.bool true) ∧ Below w'.heap.size w' w'') := fun w' hT' => awake_any w' hT'
  have HV : Hid (∀ w', Calls Tryd.prog 25 #[.agg #[.int .i64 aP, .int .i64 aQ]] w' fun e w'' => e = .returned (.bool (vldB aP aQ)) ∧ Below w'.heap.size w' w'') := fun w' => rvalid_any _ _ w' p1 p2
  have HN : Hid (∀ w', Calls Tryd.prog 24 #[.agg #[.int .i64 aP, .int .i64 aQ]] w' fun e w'' => e = .returned (ofNumV aP aQ) ∧ Below w'.heap.size w' w'') := fun w' => ofnum_v _ _ w' p1 p2
  cases hv : vldB aP aQ
  · have e : ofNumV aP aQ = vV 0 0 0 ⟨#[]⟩ 0 := by unfold ofNumV; rw [hv]; rfl
    rw [e] at HN
    rw [hv] at HV
    clear e
    go_enter Tryd.func6, Tryd.ntmps6
    go_wp2_with (first | (go_at_call 25; refine (HV.out _).mono ?_; rintro e w9 ⟨rfl, hb⟩; (refine mem hb ?_; intro N hN hz hc hf; (try simp at hN); subst hN)) | (go_at_call 24; refine (HN.out _).mono ?_; rintro e w9 ⟨rfl, hb⟩; (refine mem hb ?_; intro N hN hz hc hf; (try simp at hN); subst hN)) | (go_at_call 10; refine (HW.out _ (HT.out.later ?_)).mono ?_; (focus ((repeat' (first | (with_reducible exact Below.refl _ _) | (with_reducible assumption) | (with_reducible refine Below.alloc ?_ ?_ _) | (with_reducible refine below_drewN ?_ _) | (with_reducible refine Below.drew ?_) | (with_reducible refine Below.setCell ?_ ?_ _) | (with_reducible refine below_via (by assumption) ?_ ?_) | (with_reducible refine below_via (later_below _) ?_ ?_) | (with_reducible exact Nat.le_refl _) | omega | (simp; omega) | (simp; done))))); rintro e w9 ⟨rfl, hb⟩; (refine mem hb ?_; intro N hN hz hc hf; (try simp at hN); subst hN)))
    ((try simp only [Exit.inBlock, Exit.then]); refine bodyPost_ret (by first | (simp [results, Tryd.results6, go_sem, *]; done) | (simp [results, Tryd.results6, go_sem, *]; rfl) | (simp [results, Tryd.results6, go_sem, ↓IntWalk.iteOmega, *]; try rfl)) rfl ?_)
    refine ⟨rfl, ?_⟩
    (repeat' (first | (with_reducible exact Below.refl _ _) | (with_reducible assumption) | (with_reducible refine Below.alloc ?_ ?_ _) | (with_reducible refine below_drewN ?_ _) | (with_reducible refine Below.drew ?_) | (with_reducible refine Below.setCell ?_ ?_ _) | (with_reducible refine below_via (by assumption) ?_ ?_) | (with_reducible refine below_via (later_below _) ?_ ?_) | (with_reducible exact Nat.le_refl _) | omega | (simp; omega) | (simp; done)))
  · have e : ofNumV aP aQ = vV 2 aP aQ ⟨#[]⟩ 0 := by unfold ofNumV; rw [hv]; rfl
    rw [e] at HN
    rw [hv] at HV
    clear e
    obtain ⟨b1, b2, b3, b4⟩ := vld_bd hv
    have htx : textL aP aQ = txtL aP aQ := by unfold textL txtL; rw [if_pos hv]
    have hlen : (txtL aP aQ).length ≤ 50 := by
      have l1 := Lib.itoa_length_le aP p1 p2
      have l2 := Lib.itoa_length_le aQ (by omega) (by omega)
      unfold txtL; split <;> simp <;> omega
    have hps := parse_txt hv
    have e1 : textV 2 aP aQ ⟨#[]⟩ 0 = mkS (textL aP aQ) := rfl
    obtain ⟨S, hS⟩ : ∃ S, mkS (textL aP aQ) = S := ⟨_, rfl⟩
    have hsz : S.size ≤ 50 := by rw [← hS, mkS_size, htx]; exact hlen
    have e2 : numV3 3 0 0 S = (aP, aQ, 0) := by
      have hd : S.data.toList = txtL aP aQ := by rw [← hS, mkS_list, htx]
      unfold numV3
      rw [if_neg (by omega), if_pos rfl, hd, hps]
      rfl
    have e3 : strV 2 aP aQ ⟨#[]⟩ = (S, 0) := by unfold strV; rw [if_neg (by omega), if_pos ⟨rfl, hv⟩, hS]
    rw [hS] at e1
    have H1 : Hid (∀ w', Tabs w' → Calls Tryd.prog 17 #[vV 2 aP aQ ⟨#[]⟩ 0] w' fun e w'' => e = .returned (.string S) ∧ Below w'.heap.size w' w'') := fun w' hT' => by have h := text_v 2 aP aQ ⟨#[]⟩ 0 w' (by decide) p1 p2 (by omega) (by omega) hT'; rw [e1] at h; exact h
    have H2 : Hid (∀ w', Calls Tryd.prog 27 #[.string S] w' fun e w'' => e = .returned (vV 3 0 0 S 0) ∧ Below w'.heap.size w' w'') := fun w' => ofstr_v _ w'
    have H3 : Hid (∀ w', Calls Tryd.prog 26 #[vV 3 0 0 S 0] w' fun e w'' => e = .returned (.tuple #[.agg #[.int .i64 aP, .int .i64 aQ], .int .i64 0]) ∧ Below w'.heap.size w' w'') := fun w' => by have h := number_v 3 0 0 S 0 (by omega) (by omega) (by omega) w'; rw [e2] at h; exact h
    have H4 : Hid (∀ w', Tabs w' → Calls Tryd.prog 28 #[vV 2 aP aQ ⟨#[]⟩ 0] w' fun e w'' => e = .returned (.tuple #[.string S, .int .i64 0]) ∧ Below w'.heap.size w' w'') := fun w' hT' => by have h := str_v 2 aP aQ ⟨#[]⟩ 0 w' p1 p2 hT'; rw [e3] at h; exact h
    have H5 : Hid (∀ w', Tabs w' → Calls Tryd.prog 29 #[.agg #[.int .i64 aP, .int .i64 aQ]] w' fun e w'' => e = .returned (.string S) ∧ Below w'.heap.size w' w'') := fun w' hT' => by have h := text_any aP aQ w' p1 p2 hT'; rw [hS] at h; exact h
    clear e1 e2 e3 hS htx hlen hps
    go_enter Tryd.func6, Tryd.ntmps6
    go_wp2_with (first | (go_at_call 25; refine (HV.out _).mono ?_; rintro e w9 ⟨rfl, hb⟩; (refine mem hb ?_; intro N hN hz hc hf; (try simp at hN); subst hN)) | (go_at_call 24; refine (HN.out _).mono ?_; rintro e w9 ⟨rfl, hb⟩; (refine mem hb ?_; intro N hN hz hc hf; (try simp at hN); subst hN)) | (go_at_call 17; refine (H1.out _ (HT.out.later ?_)).mono ?_; (focus ((repeat' (first | (with_reducible exact Below.refl _ _) | (with_reducible assumption) | (with_reducible refine Below.alloc ?_ ?_ _) | (with_reducible refine below_drewN ?_ _) | (with_reducible refine Below.drew ?_) | (with_reducible refine Below.setCell ?_ ?_ _) | (with_reducible refine below_via (by assumption) ?_ ?_) | (with_reducible refine below_via (later_below _) ?_ ?_) | (with_reducible exact Nat.le_refl _) | omega | (simp; omega) | (simp; done))))); rintro e w9 ⟨rfl, hb⟩; (refine mem hb ?_; intro N hN hz hc hf; (try simp at hN); subst hN)) | (go_at_call 27; refine (H2.out _).mono ?_; rintro e w9 ⟨rfl, hb⟩; (refine mem hb ?_; intro N hN hz hc hf; (try simp at hN); subst hN)) | (go_at_call 26; refine (H3.out _).mono ?_; rintro e w9 ⟨rfl, hb⟩; (refine mem hb ?_; intro N hN hz hc hf; (try simp at hN); subst hN)) | (go_at_call 28; refine (H4.out _ (HT.out.later ?_)).mono ?_; (focus ((repeat' (first | (with_reducible exact Below.refl _ _) | (with_reducible assumption) | (with_reducible refine Below.alloc ?_ ?_ _) | (with_reducible refine below_drewN ?_ _) | (with_reducible refine Below.drew ?_) | (with_reducible refine Below.setCell ?_ ?_ _) | (with_reducible refine below_via (by assumption) ?_ ?_) | (with_reducible refine below_via (later_below _) ?_ ?_) | (with_reducible exact Nat.le_refl _) | omega | (simp; omega) | (simp; done))))); rintro e w9 ⟨rfl, hb⟩; (refine mem hb ?_; intro N hN hz hc hf; (try simp at hN); subst hN)) | (go_at_call 29; refine (H5.out _ (HT.out.later ?_)).mono ?_; (focus ((repeat' (first | (with_reducible exact Below.refl _ _) | (with_reducible assumption) | (with_reducible refine Below.alloc ?_ ?_ _) | (with_reducible refine below_drewN ?_ _) | (with_reducible refine Below.drew ?_) | (with_reducible refine Below.setCell ?_ ?_ _) | (with_reducible refine below_via (by assumption) ?_ ?_) | (with_reducible refine below_via (later_below _) ?_ ?_) | (with_reducible exact Nat.le_refl _) | omega | (simp; omega) | (simp; done))))); rintro e w9 ⟨rfl, hb⟩; (refine mem hb ?_; intro N hN hz hc hf; (try simp at hN); subst hN)) | (go_at_call 10; refine (HW.out _ (HT.out.later ?_)).mono ?_; (focus ((repeat' (first | (with_reducible exact Below.refl _ _) | (with_reducible assumption) | (with_reducible refine Below.alloc ?_ ?_ _) | (with_reducible refine below_drewN ?_ _) | (with_reducible refine Below.drew ?_) | (with_reducible refine Below.setCell ?_ ?_ _) | (with_reducible refine below_via (by assumption) ?_ ?_) | (with_reducible refine below_via (later_below _) ?_ ?_) | (with_reducible exact Nat.le_refl _) | omega | (simp; omega) | (simp; done))))); rintro e w9 ⟨rfl, hb⟩; (refine mem hb ?_; intro N hN hz hc hf; (try simp at hN); subst hN)))
    ((try simp only [Exit.inBlock, Exit.then]); refine bodyPost_ret (by first | (simp [results, Tryd.results6, go_sem, *]; done) | (simp [results, Tryd.results6, go_sem, *]; rfl) | (simp [results, Tryd.results6, go_sem, ↓IntWalk.iteOmega, *]; try rfl)) rfl ?_)
    refine ⟨rfl, ?_⟩
    (repeat' (first | (with_reducible exact Below.refl _ _) | (with_reducible assumption) | (with_reducible refine Below.alloc ?_ ?_ _) | (with_reducible refine below_drewN ?_ _) | (with_reducible refine Below.drew ?_) | (with_reducible refine Below.setCell ?_ ?_ _) | (with_reducible refine below_via (by assumption) ?_ ?_) | (with_reducible refine below_via (later_below _) ?_ ?_) | (with_reducible exact Nat.le_refl _) | omega | (simp; omega) | (simp; done)))

set_option maxRecDepth 100000 in
theorem lifted (os : Os) (started : os.Started) (H : Type) (enc : TypeId × Value → H) :
    ReturnsInHanded {} Tryd.checked os 6 .any (fun w args => (Rows.valueReturnsSpec.pre enc Tryd.prog Tryd.f6 Rows.valueReturnsRow.domain false w args ∧ laidMetH Tryd.prog laidS w) ∧ sizedMet enc Tryd.prog Tryd.f6 (OpenSpec.ofChange Rows.valueReturnsSpec) false w args) (Rows.valueReturnsSpec.post enc Tryd.prog Tryd.f6 false true false false) := by
  refine returnsInHanded_of_change_and (C := Tryd.checked) (X := fun w _ => laidMetH Tryd.prog laidS w) (fun _ _ _ hh h => h.of_heap hh) own started (by kernel_rfl) Tryd.func6
    (ChangeSpec.witness_shaped (enc := enc) (C := Tryd.checked) (os := os) (X := fun w _ => laidMetH Tryd.prog laidS w) false (World.laidAll Tryd.prog os laidS) #[.agg #[.int .i64 0, .int .i64 0]] 8 (World.laidAll_os _ _ _) (start_shaped os) (by kernel_rfl) (by kernel_rfl) (by kernel_rfl) (start_met os _)) ?_
  intro W base args ds gs before hval0 hW hcnd _ hL _
  have hT := laid_tabs hL
  have hval : ∀ (j : Nat) t v, Tryd.f6.params[j]? = some t → args[j]? = some v → Value.okWide Tryd.prog W .any base t v := hval0
  have hW' := hW
  obtain ⟨p, q, hA0, hV, rfl, hfz, hnd⟩ := hW
  have hA : DataW.TrodAll enc Tryd.prog W 0 (fun _ => true) true Tryd.f6.params.toList args.toList ds p := hA0
  rw [Tryd.params6] at hA hval
  obtain ⟨v0, vs0, d0, ds0, p0, q0, hargs, rfl, rfl, h0, r0⟩ := trodAll_cons hA
  obtain ⟨rfl, rfl, rfl⟩ := trodAll_nil r0
  obtain rfl : args = #[v0] := by cases args; simp_all
  obtain ⟨rfl, rfl⟩ := trodVars_none hV
  have k0 := h0
  have lt0 : ∀ x ∈ p0, x.block < W.heap.size := by obtain ⟨m, hm⟩ := k0; exact DataW.trod_lt m _ _ _ hm
  obtain ⟨c0, e0, y0, z0, m0, rfl, -, -, hy0, hz0⟩ := open_agg2 Tryd.underlying23 (by kernel_rfl) (by kernel_rfl) (hval 0 23 v0 rfl rfl) h0
  obtain ⟨aP, f0, -, waP⟩ := DataW.trod_int Tryd.underlying3 hy0
  obtain ⟨aQ, g0, -, waQ⟩ := DataW.trod_int Tryd.underlying3 hz0
  simp only [List.cons.injEq, and_true] at f0 g0
  subst f0 g0
  clear hA0 hval0
  refine (walk aP aQ waP waQ W hT).mono fun e W' ⟨he, bel⟩ => ?_
  subst he
  exact ⟨_, rfl, _, _, _, [], _, [], hW', trodAll_mk1 (shut_bool Tryd.underlying4 _), (trodAll_cons_mk (Below.trod laidOut (by kernel_rfl) (of_decide_eq_true (by kernel_rfl)) k0 bel lt0) trodAll_mk0), rfl, bel.frame _, fun h => by cases h⟩

theorem over : Rows.valueReturnsRow.holds Tryd.pinned (OpenSpec.ofChange Rows.valueReturnsSpec) :=
  OpenClaim.holds_of_wide 6 Tryd.f6 rfl rfl rfl rfl rfl rfl rfl ⟨rfl, rfl, rfl, rfl, rfl⟩ rfl rfl rfl rfl rfl (by kernel_rfl) Tryd.func6 (by kernel_rfl)
    (of_decide_eq_true (by kernel_rfl)) (by unfold Func.isWrapper; first | (rw [if_pos (by decide +kernel)]; kernel_rfl) | (rw [if_neg (by decide +kernel)]; exact ⟨rfl, rfl⟩))
    (fun os started H enc _ => lifted os started H enc)

/-- The given statement: the row, tied. -/
theorem proved : Rows.ValueReturnsCardSaid :=
  Claim7.holds_tied_plain_at .later [] [.data, .data, .data, .data, .pinned] true _ false over (fun _ h => by cases h) (by kernel_rfl) (fun _ h => by cases h) valueReturns_row_tie rfl ⟨rfl, rfl⟩ (by kernel_rfl) rfl
    (fun f fn hf hfn => by
      obtain rfl : f = 6 := Option.some.inj ((show Tryd.prog.funcNamed Rows.valueReturnsRow.func = some 6 by kernel_rfl).symm.trans hf) |>.symm
      obtain rfl : fn = Tryd.f6 := (Option.some.inj (Tryd.func6.symm.trans hfn)).symm
      exact ⟨by kernel_rfl, fun j t ht => by
        rw [Tryd.params6] at ht
        have hm : t ∈ [23] := by simpa using Array.mem_of_getElem? ht
        have hall : ([23].all fun u => !Tryd.prog.wantsStandIn u) = true := by kernel_rfl
        exact (show Tryd.prog.wantsStandIn t = false by simpa using List.all_eq_true.1 hall t hm)⟩)
    (by kernel_rfl)
#print axioms proved
end Go.Proofs.YtpahemohpaaeoaaDoor.valueReturns
