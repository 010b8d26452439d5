/- The law ValueSums holds: for every input it returns true, and each argument reads as it did, where the library's tables read as its text lays them. No other conditions. -/
import Derived.Test.YtpahemohpaaeoaaDoorValAw
import Derived.Test.YtpahemohpaaeoaaDoorValLaw
import Derived.Test.YtpahemohpaaeoaaDoorNumPlain5
import Derived.Test.YtpahemohpaaeoaaDoorRatLaw
import Derived.Test.YtpahemohpaaeoaaDoorLaid
import Derived.Test.YtpahemohpaaeoaaDoorCards
import Derived.Test.YtpahemohpaaeoaaDoorTie
namespace Go.Proofs.YtpahemohpaaeoaaDoor.valueSums
open Go.ChangeShapes Go.WideShapes Go.ChangeAt Go.RowKit Go.Joins
open Go.ChangeMaps (open_string shut_string)
set_option linter.unusedVariables false

theorem parse_blank {p q : Int} (h : vldB p q = true) (x y : List UInt8) (hx : ∀ c ∈ x, blankL.contains c = true) (hy : ∀ c ∈ y, blankL.contains c = true) {l : List UInt8} (hl : l = x ++ txtL p q ++ y) : parseL l = (p, q, 0) := by
  subst hl
  obtain ⟨b1, b2, b3, b4⟩ := vld_bd h
  obtain ⟨a1, a2, a3⟩ := abs_bytes p q
  have hu := uns_abs h
  rw [txt_abs b1]
  unfold parseL
  by_cases hp : p < 0
  · rw [if_pos hp, trim_around hx hy (by
      intro c hc
      rcases List.mem_cons.1 hc with rfl | hc
      · decide
      · exact blank_of (a1 c hc)), if_pos (by rfl)]
    show minusT true (unsL (absL p q)) = _
    rw [hu]
    show (-(p.natAbs : Int), q, (0 : Int)) = _
    congr 1; omega
  · rw [if_neg hp, trim_around hx hy (fun c hc => blank_of (a1 c hc)), if_neg a3, hu]
    show ((p.natAbs : Int), q, (0 : Int)) = _
    congr 1; omega

theorem num_blank {p q : Int} {s : ByteArray} (h : vldB p q = true) (hp : parseL s.data.toList = (p, q, 0)) : numV3 3 0 0 s = (p, q, 0) := by
  unfold numV3
  rw [if_neg (by omega), if_pos rfl, hp]
  rfl
theorem txt_len {p q : Int} (h : vldB p q = true) : (txtL p q).length ≤ 50 := by
  obtain ⟨b1, b2, b3, b4⟩ := vld_bd h
  have l1 := Lib.itoa_length_le p (by omega) (by omega)
  have l2 := Lib.itoa_length_le q (by omega) (by omega)
  unfold txtL; split <;> simp <;> omega

set_option maxHeartbeats 4000000 in
set_option maxRecDepth 100000 in
theorem walk (aP aQ : Int) (waP : (Lit.int .i64 aP).wf = true) (waQ : (Lit.int .i64 aQ).wf = true) (bP bQ : Int) (wbP : (Lit.int .i64 bP).wf = true) (wbQ : (Lit.int .i64 bQ).wf = true) (w : World) (hT : Tabs w) :
    Calls Tryd.prog 8 #[.agg #[.int .i64 aP, .int .i64 aQ], .agg #[.int .i64 bP, .int .i64 bQ]] w fun e w' => e = .returned (.bool true) ∧ Below w.heap.size w w' := by
  obtain ⟨p1, p2⟩ := bounds_i64 waP
  obtain ⟨q1, q2⟩ := bounds_i64 wbP
  have HT := Lib.hid hT
  clear hT
  have HW : Hid (∀ w', Tabs w' → Calls Tryd.prog 10 #[] w' fun e w'' => e = .returned (.bool true) ∧ Below w'.heap.size w' w'') := fun w' hT' => awake_any w' hT'
  have cA := fun w => add_any aP aQ bP bQ w p1 p2 q1 q2
  by_cases hE : (addT aP aQ bP bQ).2.2 = 0
  · have hbo : bothB aP aQ bP bQ = true := by
      cases hb : bothB aP aQ bP bQ
      · unfold addT at hE; rw [hb] at hE; cases hE
      · rfl
    obtain ⟨hva, hvb⟩ : vldB aP aQ = true ∧ vldB bP bQ = true := by unfold bothB at hbo; simpa using hbo
    have hvc := (add_vld hva hvb hE).1
    obtain ⟨⟨cP, cQ, cE⟩, hc⟩ : ∃ t, addT aP aQ bP bQ = t := ⟨_, rfl⟩
    rw [hc] at cA hvc hE
    simp only [] at hE hvc
    subst hE
    have HA : Hid (∀ w', Calls Tryd.prog 36 #[.agg #[.int .i64 aP, .int .i64 aQ], .agg #[.int .i64 bP, .int .i64 bQ]] w' fun e w'' => e = .returned (.tuple #[.agg #[.int .i64 cP, .int .i64 cQ], .int .i64 0]) ∧ Below w'.heap.size w' w'') := cA
    clear cA hc
    have k := fun {p q : Int} (h : vldB p q = true) => txt_len h
    have txa : textL aP aQ = txtL aP aQ := by unfold textL txtL; rw [if_pos hva]
    have txb : textL bP bQ = txtL bP bQ := by unfold textL txtL; rw [if_pos hvb]
    obtain ⟨X, hX⟩ : ∃ X, mkS (textL aP aQ) = X := ⟨_, rfl⟩
    obtain ⟨Y, hY⟩ : ∃ Y, mkS (textL bP bQ) = Y := ⟨_, rfl⟩
    obtain ⟨Z, hZ⟩ : ∃ Z, mkS (textL cP cQ) = Z := ⟨_, rfl⟩
    have hXs : X.size ≤ 50 := by rw [← hX, mkS_size, txa]; exact k hva
    have hYs : Y.size ≤ 50 := by rw [← hY, mkS_size, txb]; exact k hvb
    have e1 : numV3 3 0 0 (⟨#[32]⟩ ++ X) = (aP, aQ, 0) := num_blank hva (by
      rw [← hX, txa, show (⟨#[32]⟩ : ByteArray) = mkS [32] from rfl, cat_mk, mkS_list]
      exact parse_blank hva [32] [] (by decide) (by decide) (by simp))
    have e2 : numV3 3 0 0 (Y ++ ⟨#[9]⟩) = (bP, bQ, 0) := num_blank hvb (by
      rw [← hY, txb, show (⟨#[9]⟩ : ByteArray) = mkS [9] from rfl, cat_mk, mkS_list]
      exact parse_blank hvb [] [9] (by decide) (by decide) (by simp))
    have e3 : ofNumV cP cQ = vV 2 cP cQ ⟨#[]⟩ 0 := by unfold ofNumV; rw [hvc]; rfl
    obtain ⟨c1, c2, c3, c4⟩ := vld_bd hvc
    have e4 : textV 2 cP cQ ⟨#[]⟩ 0 = mkS (textL cP cQ) := rfl
    rw [hZ] at e4
    have H1 : Hid (∀ w', Tabs w' → Calls Tryd.prog 29 #[.agg #[.int .i64 aP, .int .i64 aQ]] w' fun e w'' => e = .returned (.string X) ∧ Below w'.heap.size w' w'') := fun w' hT' => by have h := text_any aP aQ w' p1 p2 hT'; rw [hX] at h; exact h
    have H2 : Hid (∀ w', Tabs w' → Calls Tryd.prog 29 #[.agg #[.int .i64 bP, .int .i64 bQ]] w' fun e w'' => e = .returned (.string Y) ∧ Below w'.heap.size w' w'') := fun w' hT' => by have h := text_any bP bQ w' q1 q2 hT'; rw [hY] at h; exact h
    have H3 : Hid (∀ w', Tabs w' → Calls Tryd.prog 29 #[.agg #[.int .i64 cP, .int .i64 cQ]] w' fun e w'' => e = .returned (.string Z) ∧ Below w'.heap.size w' w'') := fun w' hT' => by have h := text_any cP cQ w' (by omega) (by omega) hT'; rw [hZ] at h; exact h
    have HS : Hid (∀ s w', Calls Tryd.prog 27 #[.string s] w' fun e w'' => e = .returned (vV 3 0 0 s 0) ∧ Below w'.heap.size w' w'') := fun s w' => ofstr_v s w'
    have H4 : Hid (∀ w', Calls Tryd.prog 26 #[vV 3 0 0 (⟨#[32]⟩ ++ X) 0] w' fun e w'' => e = .returned (.tuple #[.agg #[.int .i64 aP, .int .i64 aQ], .int .i64 0]) ∧ Below w'.heap.size w' w'') := fun w' => by have h := number_v 3 0 0 (⟨#[32]⟩ ++ X) 0 (by rw [ByteArray.size_append, show (⟨#[32]⟩ : ByteArray).size = 1 from rfl]; omega) (by omega) (by omega) w'; rw [e1] at h; exact h
    have H5 : Hid (∀ w', Calls Tryd.prog 26 #[vV 3 0 0 (Y ++ ⟨#[9]⟩) 0] w' fun e w'' => e = .returned (.tuple #[.agg #[.int .i64 bP, .int .i64 bQ], .int .i64 0]) ∧ Below w'.heap.size w' w'') := fun w' => by have h := number_v 3 0 0 (Y ++ ⟨#[9]⟩) 0 (by rw [ByteArray.size_append, show (⟨#[9]⟩ : ByteArray).size = 1 from rfl]; omega) (by omega) (by omega) w'; rw [e2] at h; exact h
    have H6 : Hid (∀ w', Calls Tryd.prog 24 #[.agg #[.int .i64 cP, .int .i64 cQ]] w' fun e w'' => e = .returned (vV 2 cP cQ ⟨#[]⟩ 0) ∧ Below w'.heap.size w' w'') := fun w' => by have h := ofnum_v cP cQ w' (by omega) (by omega); rw [e3] at h; exact h
    have H7 : Hid (∀ w', Tabs w' → Calls Tryd.prog 17 #[vV 2 cP cQ ⟨#[]⟩ 0] w' fun e w'' => e = .returned (.string Z) ∧ Below w'.heap.size w' w'') := fun w' hT' => by have h := text_v 2 cP cQ ⟨#[]⟩ 0 w' (by decide) (by omega) (by omega) (by omega) (by omega) hT'; rw [e4] at h; exact h
    clear e1 e2 e3 e4 hX hY hZ txa txb k hbo
    go_enter Tryd.func8, Tryd.ntmps8
    go_wp2_with (first | (go_at_call 36; refine (HA.out _).mono ?_; rintro e w9 ⟨rfl, hb⟩; (refine mem hb ?_; intro N hN hz hc hf; (try simp at hN); subst hN)) | (go_at_call 29; (first | (with_reducible refine (H1.out _ (HT.out.later ?_)).mono ?_) | (with_reducible refine (H2.out _ (HT.out.later ?_)).mono ?_)); (focus ((repeat' (first | (with_reducible exact Below.refl _ _) | (with_reducible assumption) | (with_reducible refine Below.alloc ?_ ?_ _) | (with_reducible refine below_drewN ?_ _) | (with_reducible refine Below.drew ?_) | (with_reducible refine Below.setCell ?_ ?_ _) | (with_reducible refine below_via (by assumption) ?_ ?_) | (with_reducible refine below_via (later_below _) ?_ ?_) | (with_reducible exact Nat.le_refl _) | omega | (simp; omega) | (simp; done))))); (rintro e w9 ⟨rfl, hb⟩); (refine mem hb ?_; intro N hN hz hc hf; (try simp at hN); subst hN)) | (go_at_call 27; refine (HS.out _ _).mono ?_; rintro e w9 ⟨rfl, hb⟩; (refine mem hb ?_; intro N hN hz hc hf; (try simp at hN); subst hN)) | (go_at_call 26; (first | (with_reducible refine (H4.out _).mono ?_) | (with_reducible refine (H5.out _).mono ?_)); (rintro e w9 ⟨rfl, hb⟩); (refine mem hb ?_; intro N hN hz hc hf; (try simp at hN); subst hN)))
    (refine wp_region_calm (by kernel_rfl) (by kernel_rfl) ?_; refine calm_mem ?_; intro N hN hne hcu; (try simp at hN); subst hN; (repeat ((refine wpQuiet_step (fun K hK => ?_)); go_simp; (repeat (simp only [↓IntWalk.iteOmega]; go_simp)); (first | (refine hK _ ?_; clear hK K) | (apply Exists.intro; refine ⟨fun _ => ?_, hK _ ?_⟩; (first | (go_at_call 24; exact calm_of (H6.out _)) | (go_at_call 17; refine calm_of (H7.out _ (HT.out.later ?_)); (repeat' (first | (with_reducible exact Below.refl _ _) | (with_reducible assumption) | (with_reducible refine Below.alloc ?_ ?_ _) | (with_reducible refine below_drewN ?_ _) | (with_reducible refine Below.drew ?_) | (with_reducible refine Below.setCell ?_ ?_ _) | (with_reducible refine below_via (by assumption) ?_ ?_) | (with_reducible refine below_via (later_below _) ?_ ?_) | (with_reducible exact Nat.le_refl _) | omega | (simp; omega) | (simp; done)))) | (go_at_call 29; refine calm_of (H3.out _ (HT.out.later ?_)); (repeat' (first | (with_reducible exact Below.refl _ _) | (with_reducible assumption) | (with_reducible refine Below.alloc ?_ ?_ _) | (with_reducible refine below_drewN ?_ _) | (with_reducible refine Below.drew ?_) | (with_reducible refine Below.setCell ?_ ?_ _) | (with_reducible refine below_via (by assumption) ?_ ?_) | (with_reducible refine below_via (later_below _) ?_ ?_) | (with_reducible exact Nat.le_refl _) | omega | (simp; omega) | (simp; done)))) | (go_at_call 10; refine calm_of (HW.out _ (HT.out.later ?_)); (repeat' (first | (with_reducible exact Below.refl _ _) | (with_reducible assumption) | (with_reducible refine Below.alloc ?_ ?_ _) | (with_reducible refine below_drewN ?_ _) | (with_reducible refine Below.drew ?_) | (with_reducible refine Below.setCell ?_ ?_ _) | (with_reducible refine below_via (by assumption) ?_ ?_) | (with_reducible refine below_via (later_below _) ?_ ?_) | (with_reducible exact Nat.le_refl _) | omega | (simp; omega) | (simp; done))))); clear hK K)))); refine wpQuiet_nil ?_; intro _ hw'; obtain ⟨⟨w1, hb⟩, hw''⟩ := hw'; subst hw''; clear hcu hne; (try dsimp only); (refine mem hb ?_; intro N hN hz hc hf; (try simp at hN); subst hN))
    go_wp2
    ((try simp only [Exit.inBlock, Exit.then]); refine bodyPost_ret (by first | (simp [results, Tryd.results8, go_sem, *]; done) | (simp [results, Tryd.results8, go_sem, *]; rfl) | (simp [results, Tryd.results8, go_sem, ↓IntWalk.iteOmega, *]; try rfl)) rfl ?_)
    refine ⟨rfl, ?_⟩
    (repeat' (first | (with_reducible exact Below.refl _ _) | (with_reducible assumption) | (with_reducible refine Below.alloc ?_ ?_ _) | (with_reducible refine below_drewN ?_ _) | (with_reducible refine Below.drew ?_) | (with_reducible refine Below.setCell ?_ ?_ _) | (with_reducible refine below_via (by assumption) ?_ ?_) | (with_reducible refine below_via (later_below _) ?_ ?_) | (with_reducible exact Nat.le_refl _) | omega | (simp; omega) | (simp; done)))
  · have hE1 : ((addT aP aQ bP bQ).2.2 != 0) = true := by simpa using hE
    obtain ⟨⟨cP, cQ, cE⟩, hc⟩ : ∃ t, addT aP aQ bP bQ = t := ⟨_, rfl⟩
    rw [hc] at cA hE1
    simp only [] at hE1
    have HA : Hid (∀ w', Calls Tryd.prog 36 #[.agg #[.int .i64 aP, .int .i64 aQ], .agg #[.int .i64 bP, .int .i64 bQ]] w' fun e w'' => e = .returned (.tuple #[.agg #[.int .i64 cP, .int .i64 cQ], .int .i64 cE]) ∧ Below w'.heap.size w' w'') := cA
    clear cA hc hE
    go_enter Tryd.func8, Tryd.ntmps8
    go_wp2_with (first | (go_at_call 36; refine (HA.out _).mono ?_; rintro e w9 ⟨rfl, hb⟩; (refine mem hb ?_; intro N hN hz hc hf; (try simp at hN); subst hN)) | (go_at_call 10; refine (HW.out _ (HT.out.later ?_)).mono ?_; (focus ((repeat' (first | (with_reducible exact Below.refl _ _) | (with_reducible assumption) | (with_reducible refine Below.alloc ?_ ?_ _) | (with_reducible refine below_drewN ?_ _) | (with_reducible refine Below.drew ?_) | (with_reducible refine Below.setCell ?_ ?_ _) | (with_reducible refine below_via (by assumption) ?_ ?_) | (with_reducible refine below_via (later_below _) ?_ ?_) | (with_reducible exact Nat.le_refl _) | omega | (simp; omega) | (simp; done))))); rintro e w9 ⟨rfl, hb⟩; (refine mem hb ?_; intro N hN hz hc hf; (try simp at hN); subst hN)))
    ((try simp only [Exit.inBlock, Exit.then]); refine bodyPost_ret (by first | (simp [results, Tryd.results8, go_sem, *]; done) | (simp [results, Tryd.results8, go_sem, *]; rfl) | (simp [results, Tryd.results8, go_sem, ↓IntWalk.iteOmega, *]; try rfl)) rfl ?_)
    refine ⟨rfl, ?_⟩
    (repeat' (first | (with_reducible exact Below.refl _ _) | (with_reducible assumption) | (with_reducible refine Below.alloc ?_ ?_ _) | (with_reducible refine below_drewN ?_ _) | (with_reducible refine Below.drew ?_) | (with_reducible refine Below.setCell ?_ ?_ _) | (with_reducible refine below_via (by assumption) ?_ ?_) | (with_reducible refine below_via (later_below _) ?_ ?_) | (with_reducible exact Nat.le_refl _) | omega | (simp; omega) | (simp; done)))

set_option maxRecDepth 100000 in
theorem lifted (os : Os) (started : os.Started) (H : Type) (enc : TypeId × Value → H) :
    ReturnsInHanded {} Tryd.checked os 8 .any (fun w args => (Rows.valueSumsSpec.pre enc Tryd.prog Tryd.f8 Rows.valueSumsRow.domain false w args ∧ laidMetH Tryd.prog laidS w) ∧ sizedMet enc Tryd.prog Tryd.f8 (OpenSpec.ofChange Rows.valueSumsSpec) false w args) (Rows.valueSumsSpec.post enc Tryd.prog Tryd.f8 false true false false) := by
  refine returnsInHanded_of_change_and (C := Tryd.checked) (X := fun w _ => laidMetH Tryd.prog laidS w) (fun _ _ _ hh h => h.of_heap hh) own started (by kernel_rfl) Tryd.func8
    (ChangeSpec.witness_shaped (enc := enc) (C := Tryd.checked) (os := os) (X := fun w _ => laidMetH Tryd.prog laidS w) false (World.laidAll Tryd.prog os laidS) #[.agg #[.int .i64 0, .int .i64 0], .agg #[.int .i64 0, .int .i64 0]] 8 (World.laidAll_os _ _ _) (start_shaped os) (by kernel_rfl) (by kernel_rfl) (by kernel_rfl) (start_met os _)) ?_
  intro W base args ds gs before hval0 hW hcnd _ hL _
  have hT := laid_tabs hL
  have hval : ∀ (j : Nat) t v, Tryd.f8.params[j]? = some t → args[j]? = some v → Value.okWide Tryd.prog W .any base t v := hval0
  have hW' := hW
  obtain ⟨p, q, hA0, hV, rfl, hfz, hnd⟩ := hW
  have hA : DataW.TrodAll enc Tryd.prog W 0 (fun _ => true) true Tryd.f8.params.toList args.toList ds p := hA0
  rw [Tryd.params8] at hA hval
  obtain ⟨v0, vs0, d0, ds0, p0, q0, hargs, rfl, rfl, h0, r0⟩ := trodAll_cons hA
  obtain ⟨v1, vs1, d1, ds1, p1, q1, rfl, rfl, rfl, h1, r1⟩ := trodAll_cons r0
  obtain ⟨rfl, rfl, rfl⟩ := trodAll_nil r1
  obtain rfl : args = #[v0, v1] := by cases args; simp_all
  obtain ⟨rfl, rfl⟩ := trodVars_none hV
  have k0 := h0
  have lt0 : ∀ x ∈ p0, x.block < W.heap.size := by obtain ⟨m, hm⟩ := k0; exact DataW.trod_lt m _ _ _ hm
  obtain ⟨c0, e0, y0, z0, m0, rfl, -, -, hy0, hz0⟩ := open_agg2 Tryd.underlying23 (by kernel_rfl) (by kernel_rfl) (hval 0 23 v0 rfl rfl) h0
  obtain ⟨aP, f0, -, waP⟩ := DataW.trod_int Tryd.underlying3 hy0
  obtain ⟨aQ, g0, -, waQ⟩ := DataW.trod_int Tryd.underlying3 hz0
  simp only [List.cons.injEq, and_true] at f0 g0
  subst f0 g0
  have k1 := h1
  have lt1 : ∀ x ∈ p1, x.block < W.heap.size := by obtain ⟨m, hm⟩ := k1; exact DataW.trod_lt m _ _ _ hm
  obtain ⟨c1, e1, y1, z1, m1, rfl, -, -, hy1, hz1⟩ := open_agg2 Tryd.underlying23 (by kernel_rfl) (by kernel_rfl) (hval 1 23 v1 rfl rfl) h1
  obtain ⟨bP, f1, -, wbP⟩ := DataW.trod_int Tryd.underlying3 hy1
  obtain ⟨bQ, g1, -, wbQ⟩ := DataW.trod_int Tryd.underlying3 hz1
  simp only [List.cons.injEq, and_true] at f1 g1
  subst f1 g1
  clear hA0 hval0
  refine (walk aP aQ waP waQ bP bQ wbP wbQ W hT).mono fun e W' ⟨he, bel⟩ => ?_
  subst he
  exact ⟨_, rfl, _, _, _, [], _, [], hW', trodAll_mk1 (shut_bool Tryd.underlying4 _), (trodAll_cons_mk (Below.trod laidOut (by kernel_rfl) (of_decide_eq_true (by kernel_rfl)) k0 bel lt0) (trodAll_cons_mk (Below.trod laidOut (by kernel_rfl) (of_decide_eq_true (by kernel_rfl)) k1 bel lt1) trodAll_mk0)), rfl, bel.frame _, fun h => by cases h⟩

theorem over : Rows.valueSumsRow.holds Tryd.pinned (OpenSpec.ofChange Rows.valueSumsSpec) :=
  OpenClaim.holds_of_wide 8 Tryd.f8 rfl rfl rfl rfl rfl rfl rfl ⟨rfl, rfl, rfl, rfl, rfl⟩ rfl rfl rfl rfl rfl (by kernel_rfl) Tryd.func8 (by kernel_rfl)
    (of_decide_eq_true (by kernel_rfl)) (by unfold Func.isWrapper; first | (rw [if_pos (by decide +kernel)]; kernel_rfl) | (rw [if_neg (by decide +kernel)]; exact ⟨rfl, rfl⟩))
    (fun os started H enc _ => lifted os started H enc)

/-- The given statement: the row, tied. -/
theorem proved : Rows.ValueSumsCardSaid :=
  Claim7.holds_tied_plain_at .later [] [.data, .data, .data, .data, .pinned] true _ false over (fun _ h => by cases h) (by kernel_rfl) (fun _ h => by cases h) valueSums_row_tie rfl ⟨rfl, rfl⟩ (by kernel_rfl) rfl
    (fun f fn hf hfn => by
      obtain rfl : f = 8 := Option.some.inj ((show Tryd.prog.funcNamed Rows.valueSumsRow.func = some 8 by kernel_rfl).symm.trans hf) |>.symm
      obtain rfl : fn = Tryd.f8 := (Option.some.inj (Tryd.func8.symm.trans hfn)).symm
      exact ⟨by kernel_rfl, fun j t ht => by
        rw [Tryd.params8] at ht
        have hm : t ∈ [23, 23] := by simpa using Array.mem_of_getElem? ht
        have hall : ([23, 23].all fun u => !Tryd.prog.wantsStandIn u) = true := by kernel_rfl
        exact (show Tryd.prog.wantsStandIn t = false by simpa using List.all_eq_true.1 hall t hm)⟩)
    (by kernel_rfl)
#print axioms proved
end Go.Proofs.YtpahemohpaaeoaaDoor.valueSums
