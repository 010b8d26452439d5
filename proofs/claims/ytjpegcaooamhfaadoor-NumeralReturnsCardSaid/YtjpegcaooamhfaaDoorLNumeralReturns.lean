/- The law NumeralReturns holds: for every input it returns true, and each argument reads as it did, where the library's tables read as its text lays them. No other conditions. -/
import Derived.Test.YtjpegcaooamhfaaDoorNumAw
import Derived.Test.YtjpegcaooamhfaaDoorNumPlain5
import Derived.Test.YtjpegcaooamhfaaDoorLaid
import Derived.Test.YtjpegcaooamhfaaDoorCards
import Derived.Test.YtjpegcaooamhfaaDoorTie
namespace Go.Proofs.YtjpegcaooamhfaaDoor.numeralReturns
open Go.ChangeShapes Go.WideShapes Go.ChangeAt Go.RowKit Go.Joins
open Go.ChangeMaps (open_string shut_string)
set_option linter.unusedVariables false


set_option maxHeartbeats 4000000 in
set_option maxRecDepth 100000 in
theorem walk (aP aQ : Int) (waP : (Lit.int .i64 aP).wf = true) (waQ : (Lit.int .i64 aQ).wf = true) (w : World) (hT : Tabs w) :
    Calls Tryd.prog 9 #[.agg #[.int .i64 aP, .int .i64 aQ]] w fun e w' => e = .returned (.bool true) ∧ Below w.heap.size w w' := by
  obtain ⟨p1, p2⟩ := bounds_i64 waP
  have HT := Lib.hid hT
  clear hT
  have HA : Hid (Below w.heap.size w w) := Below.refl _ _
  cases hv : vldB aP aQ
  · go_enter Tryd.func9, Tryd.ntmps9
    have H0 := Lib.hid (keep2_new w (.int .i64 aP) (.int .i64 aQ) 23)
    have HA : Hid (Below w.heap.size w (w.alloc (.cells #[.int .i64 aP, .int .i64 aQ] 23))) := (Below.refl _ _).alloc (Nat.le_refl _) _
    go_wp2_with fail -- Valid
    refine (rvalid_any aP aQ _ p1 p2).mono ?_
    rintro e w1 ⟨rfl, hb⟩
    have H0 := Lib.hid (keep2 hb H0.out)
    have HA : Hid (Below w.heap.size w w1) := by
      have h0 := HA.out
      have hs := h0.size
      show Below _ _ _
      (repeat' (first | (with_reducible exact Below.refl _ _) | (with_reducible assumption) | (with_reducible refine Below.alloc ?_ ?_ _) | (with_reducible refine below_drewN ?_ _) | (with_reducible refine Below.drew ?_) | (with_reducible refine Below.setCell ?_ ?_ _) | (with_reducible refine below_via (by assumption) ?_ ?_) | (with_reducible refine below_via (later_below _) ?_ ?_) | (with_reducible exact Nat.le_refl _) | omega | (simp; omega) | (simp; done)))
    clear hb
    obtain ⟨H00, H01⟩ := H0.out
    go_wp2_with fail -- Text
    refine (text_nan aP aQ _ p1 p2 hv).mono ?_
    rintro e w2 ⟨rfl, hb⟩
    have HA : Hid (Below w.heap.size w w2) := by
      have h0 := HA.out
      have hs := h0.size
      show Below _ _ _
      (repeat' (first | (with_reducible exact Below.refl _ _) | (with_reducible assumption) | (with_reducible refine Below.alloc ?_ ?_ _) | (with_reducible refine below_drewN ?_ _) | (with_reducible refine Below.drew ?_) | (with_reducible refine Below.setCell ?_ ?_ _) | (with_reducible refine below_via (by assumption) ?_ ?_) | (with_reducible refine below_via (later_below _) ?_ ?_) | (with_reducible exact Nat.le_refl _) | omega | (simp; omega) | (simp; done)))
    clear hb
    go_wp2_with fail -- awake
    refine (awake_any _ (HT.out.later ?_)).mono ?_
    · have h0 := HA.out
      have hs := h0.size
      (repeat' (first | (with_reducible exact Below.refl _ _) | (with_reducible assumption) | (with_reducible refine Below.alloc ?_ ?_ _) | (with_reducible refine below_drewN ?_ _) | (with_reducible refine Below.drew ?_) | (with_reducible refine Below.setCell ?_ ?_ _) | (with_reducible refine below_via (by assumption) ?_ ?_) | (with_reducible refine below_via (later_below _) ?_ ?_) | (with_reducible exact Nat.le_refl _) | omega | (simp; omega) | (simp; done)))
    rintro e wz ⟨rfl, hb⟩
    have HA : Hid (Below w.heap.size w wz) := by
      have h0 := HA.out
      have hs := h0.size
      show Below _ _ _
      (repeat' (first | (with_reducible exact Below.refl _ _) | (with_reducible assumption) | (with_reducible refine Below.alloc ?_ ?_ _) | (with_reducible refine below_drewN ?_ _) | (with_reducible refine Below.drew ?_) | (with_reducible refine Below.setCell ?_ ?_ _) | (with_reducible refine below_via (by assumption) ?_ ?_) | (with_reducible refine below_via (later_below _) ?_ ?_) | (with_reducible exact Nat.le_refl _) | omega | (simp; omega) | (simp; done)))
    clear hb
    go_wp2_with fail -- end
    go_returns
    exact ⟨rfl, HA.out⟩
  · obtain ⟨b1, b2, b3, b4⟩ := vld_bd hv
    have htx : textL aP aQ = txtL aP aQ := by unfold textL txtL; rw [if_pos hv]
    have hp1 := parse_text hv
    have hlen : (txtL aP aQ).length ≤ 50 := by
      have l1 := Lib.itoa_length_le aP p1 p2
      have l2 := Lib.itoa_length_le aQ (by omega) (by omega)
      unfold txtL; split <;> simp <;> omega
    have hp2 := fun h => parse_minus hv h
    obtain ⟨T, hT2⟩ : ∃ T, txtL aP aQ = T := ⟨_, rfl⟩
    rw [hT2] at htx hp1 hlen hp2
    obtain ⟨S, hS⟩ : ∃ S, mkS T = S := ⟨_, rfl⟩
    have hsz : S.size ≤ 50 := by rw [← hS, mkS_size]; exact hlen
    have HX : Hid (∀ w', Tabs w' → Calls Tryd.prog 12 #[.agg #[.int .i64 aP, .int .i64 aQ]] w' fun e w'' => e = .returned (.string S) ∧ Below w'.heap.size w' w'') := fun w' hT' => by
      have := text_any aP aQ w' p1 p2 hT'
      rw [htx] at this
      rw [← hS]
      exact this
    have HP1 : Hid (∀ w', Calls Tryd.prog 16 #[.string (⟨#[9]⟩ ++ S ++ ⟨#[32, 10]⟩)] w' fun e w'' => e = .returned (.tuple #[.agg #[.int .i64 aP, .int .i64 aQ], .int .i64 0]) ∧ Below w'.heap.size w' w'') := fun w' => by
      have e : (⟨#[9]⟩ : ByteArray) ++ S ++ ⟨#[32, 10]⟩ = mkS (9 :: T ++ [32, 10]) := by rw [← hS, show (⟨#[9]⟩ : ByteArray) = mkS [9] from rfl, show (⟨#[32, 10]⟩ : ByteArray) = mkS [32, 10] from rfl, cat_mk, cat_mk]; rfl
      have := parse_any (mkS (9 :: T ++ [32, 10])) (by rw [mkS_size]; simp; omega) w'
      rw [mkS_list, hp1] at this
      rw [e]
      exact this
    have HP2 : Hid (¬ aP < 0 → ∀ w', Calls Tryd.prog 16 #[.string (⟨#[45]⟩ ++ S)] w' fun e w'' => e = .returned (.tuple #[.agg #[.int .i64 (-aP), .int .i64 aQ], .int .i64 0]) ∧ Below w'.heap.size w' w'') := fun h w' => by
      have e : (⟨#[45]⟩ : ByteArray) ++ S = mkS (45 :: T) := by rw [← hS, show (⟨#[45]⟩ : ByteArray) = mkS [45] from rfl, cat_mk]; rfl
      have := parse_any (mkS (45 :: T)) (by rw [mkS_size]; simp; omega) w'
      rw [mkS_list, hp2 h] at this
      rw [e]
      exact this
    have HNG : Hid (∀ w', Calls Tryd.prog 25 #[.agg #[.int .i64 aP, .int .i64 aQ]] w' fun e w'' => e = .returned (.tuple #[.agg #[.int .i64 (-aP), .int .i64 aQ], .int .i64 0]) ∧ Below w'.heap.size w' w'') := fun w' => by
      have := neg_any aP aQ w' p1 p2
      have e : negT aP aQ = (-aP, aQ, 0) := by unfold negT; rw [if_pos hv]
      rw [e] at this
      exact this
    clear htx hp1 hlen hp2 hS hT2
    go_enter Tryd.func9, Tryd.ntmps9
    have H0 := Lib.hid (keep2_new w (.int .i64 aP) (.int .i64 aQ) 23)
    have HA : Hid (Below w.heap.size w (w.alloc (.cells #[.int .i64 aP, .int .i64 aQ] 23))) := (Below.refl _ _).alloc (Nat.le_refl _) _
    go_wp2_with fail -- Valid
    refine (rvalid_any aP aQ _ p1 p2).mono ?_
    rintro e w1 ⟨rfl, hb⟩
    have H0 := Lib.hid (keep2 hb H0.out)
    have HA : Hid (Below w.heap.size w w1) := by
      have h0 := HA.out
      have hs := h0.size
      show Below _ _ _
      (repeat' (first | (with_reducible exact Below.refl _ _) | (with_reducible assumption) | (with_reducible refine Below.alloc ?_ ?_ _) | (with_reducible refine below_drewN ?_ _) | (with_reducible refine Below.drew ?_) | (with_reducible refine Below.setCell ?_ ?_ _) | (with_reducible refine below_via (by assumption) ?_ ?_) | (with_reducible refine below_via (later_below _) ?_ ?_) | (with_reducible exact Nat.le_refl _) | omega | (simp; omega) | (simp; done)))
    clear hb
    obtain ⟨H00, H01⟩ := H0.out
    go_wp2_with fail -- Text
    refine (HX.out _ (HT.out.later ?_)).mono ?_
    · have h0 := HA.out
      have hs := h0.size
      (repeat' (first | (with_reducible exact Below.refl _ _) | (with_reducible assumption) | (with_reducible refine Below.alloc ?_ ?_ _) | (with_reducible refine below_drewN ?_ _) | (with_reducible refine Below.drew ?_) | (with_reducible refine Below.setCell ?_ ?_ _) | (with_reducible refine below_via (by assumption) ?_ ?_) | (with_reducible refine below_via (later_below _) ?_ ?_) | (with_reducible exact Nat.le_refl _) | omega | (simp; omega) | (simp; done)))
    rintro e w2 ⟨rfl, hb⟩
    have H0 := Lib.hid (keep2 hb H0.out)
    have HA : Hid (Below w.heap.size w w2) := by
      have h0 := HA.out
      have hs := h0.size
      show Below _ _ _
      (repeat' (first | (with_reducible exact Below.refl _ _) | (with_reducible assumption) | (with_reducible refine Below.alloc ?_ ?_ _) | (with_reducible refine below_drewN ?_ _) | (with_reducible refine Below.drew ?_) | (with_reducible refine Below.setCell ?_ ?_ _) | (with_reducible refine below_via (by assumption) ?_ ?_) | (with_reducible refine below_via (later_below _) ?_ ?_) | (with_reducible exact Nat.le_refl _) | omega | (simp; omega) | (simp; done)))
    clear hb
    clear H00 H01
    go_wp2_with fail -- Parse
    refine (HP1.out _).mono ?_
    rintro e w3 ⟨rfl, hb⟩
    have H0 := Lib.hid (keep2 hb H0.out)
    have H1 := Lib.hid (keep2_new w3 (.int .i64 aP) (.int .i64 aQ) 23)
    have H0 := Lib.hid (keep2_alloc (.cells #[.int .i64 aP, .int .i64 aQ] 23) H0.out)
    have HA : Hid (Below w.heap.size w w3) := by
      have h0 := HA.out
      have hs := h0.size
      show Below _ _ _
      (repeat' (first | (with_reducible exact Below.refl _ _) | (with_reducible assumption) | (with_reducible refine Below.alloc ?_ ?_ _) | (with_reducible refine below_drewN ?_ _) | (with_reducible refine Below.drew ?_) | (with_reducible refine Below.setCell ?_ ?_ _) | (with_reducible refine below_via (by assumption) ?_ ?_) | (with_reducible refine below_via (later_below _) ?_ ?_) | (with_reducible exact Nat.le_refl _) | omega | (simp; omega) | (simp; done)))
    clear hb
    obtain ⟨H00, H01⟩ := H0.out
    obtain ⟨H10, H11⟩ := H1.out
    by_cases hn : aP < 0
    · go_wp2_with fail -- awake
      refine (awake_any _ (HT.out.later ?_)).mono ?_
      · have h0 := HA.out
        have hs := h0.size
        (repeat' (first | (with_reducible exact Below.refl _ _) | (with_reducible assumption) | (with_reducible refine Below.alloc ?_ ?_ _) | (with_reducible refine below_drewN ?_ _) | (with_reducible refine Below.drew ?_) | (with_reducible refine Below.setCell ?_ ?_ _) | (with_reducible refine below_via (by assumption) ?_ ?_) | (with_reducible refine below_via (later_below _) ?_ ?_) | (with_reducible exact Nat.le_refl _) | omega | (simp; omega) | (simp; done)))
      rintro e wz ⟨rfl, hb⟩
      have HA : Hid (Below w.heap.size w wz) := by
        have h0 := HA.out
        have hs := h0.size
        show Below _ _ _
        (repeat' (first | (with_reducible exact Below.refl _ _) | (with_reducible assumption) | (with_reducible refine Below.alloc ?_ ?_ _) | (with_reducible refine below_drewN ?_ _) | (with_reducible refine Below.drew ?_) | (with_reducible refine Below.setCell ?_ ?_ _) | (with_reducible refine below_via (by assumption) ?_ ?_) | (with_reducible refine below_via (later_below _) ?_ ?_) | (with_reducible exact Nat.le_refl _) | omega | (simp; omega) | (simp; done)))
      clear hb
      go_wp2_with fail -- end
      go_returns
      exact ⟨rfl, HA.out⟩
    · go_wp2_with fail -- Parse
      refine (HP2.out hn _).mono ?_
      rintro e w4 ⟨rfl, hb⟩
      have H0 := Lib.hid (keep2 hb H0.out)
      have H2 := Lib.hid (keep2_new w4 (.int .i64 (-aP)) (.int .i64 aQ) 23)
      have H0 := Lib.hid (keep2_alloc (.cells #[.int .i64 (-aP), .int .i64 aQ] 23) H0.out)
      have HA : Hid (Below w.heap.size w w4) := by
        have h0 := HA.out
        have hs := h0.size
        show Below _ _ _
        (repeat' (first | (with_reducible exact Below.refl _ _) | (with_reducible assumption) | (with_reducible refine Below.alloc ?_ ?_ _) | (with_reducible refine below_drewN ?_ _) | (with_reducible refine Below.drew ?_) | (with_reducible refine Below.setCell ?_ ?_ _) | (with_reducible refine below_via (by assumption) ?_ ?_) | (with_reducible refine below_via (later_below _) ?_ ?_) | (with_reducible exact Nat.le_refl _) | omega | (simp; omega) | (simp; done)))
      clear hb
      clear H00 H01 H10 H11
      obtain ⟨H00, H01⟩ := H0.out
      go_wp2_with fail -- Neg
      refine (HNG.out _).mono ?_
      rintro e w5 ⟨rfl, hb⟩
      have H2 := Lib.hid (keep2 hb H2.out)
      have H3 := Lib.hid (keep2_new w5 (.int .i64 (-aP)) (.int .i64 aQ) 23)
      have H2 := Lib.hid (keep2_alloc (.cells #[.int .i64 (-aP), .int .i64 aQ] 23) H2.out)
      have HA : Hid (Below w.heap.size w w5) := by
        have h0 := HA.out
        have hs := h0.size
        show Below _ _ _
        (repeat' (first | (with_reducible exact Below.refl _ _) | (with_reducible assumption) | (with_reducible refine Below.alloc ?_ ?_ _) | (with_reducible refine below_drewN ?_ _) | (with_reducible refine Below.drew ?_) | (with_reducible refine Below.setCell ?_ ?_ _) | (with_reducible refine below_via (by assumption) ?_ ?_) | (with_reducible refine below_via (later_below _) ?_ ?_) | (with_reducible exact Nat.le_refl _) | omega | (simp; omega) | (simp; done)))
      clear hb
      obtain ⟨H20, H21⟩ := H2.out
      obtain ⟨H30, H31⟩ := H3.out
      go_wp2_with fail -- awake
      refine (awake_any _ (HT.out.later ?_)).mono ?_
      · have h0 := HA.out
        have hs := h0.size
        (repeat' (first | (with_reducible exact Below.refl _ _) | (with_reducible assumption) | (with_reducible refine Below.alloc ?_ ?_ _) | (with_reducible refine below_drewN ?_ _) | (with_reducible refine Below.drew ?_) | (with_reducible refine Below.setCell ?_ ?_ _) | (with_reducible refine below_via (by assumption) ?_ ?_) | (with_reducible refine below_via (later_below _) ?_ ?_) | (with_reducible exact Nat.le_refl _) | omega | (simp; omega) | (simp; done)))
      rintro e wz ⟨rfl, hb⟩
      have HA : Hid (Below w.heap.size w wz) := by
        have h0 := HA.out
        have hs := h0.size
        show Below _ _ _
        (repeat' (first | (with_reducible exact Below.refl _ _) | (with_reducible assumption) | (with_reducible refine Below.alloc ?_ ?_ _) | (with_reducible refine below_drewN ?_ _) | (with_reducible refine Below.drew ?_) | (with_reducible refine Below.setCell ?_ ?_ _) | (with_reducible refine below_via (by assumption) ?_ ?_) | (with_reducible refine below_via (later_below _) ?_ ?_) | (with_reducible exact Nat.le_refl _) | omega | (simp; omega) | (simp; done)))
      clear hb
      go_wp2_with fail -- end
      go_returns
      exact ⟨rfl, HA.out⟩

set_option maxRecDepth 100000 in
theorem lifted (os : Os) (started : os.Started) (H : Type) (enc : TypeId × Value → H) :
    ReturnsInHanded {} Tryd.checked os 9 .any (fun w args => (Rows.numeralReturnsSpec.pre enc Tryd.prog Tryd.f9 Rows.numeralReturnsRow.domain false w args ∧ laidMetH Tryd.prog laidS w) ∧ sizedMet enc Tryd.prog Tryd.f9 (OpenSpec.ofChange Rows.numeralReturnsSpec) false w args) (Rows.numeralReturnsSpec.post enc Tryd.prog Tryd.f9 false true false false) := by
  refine returnsInHanded_of_change_and (C := Tryd.checked) (X := fun w _ => laidMetH Tryd.prog laidS w) (fun _ _ _ hh h => h.of_heap hh) own started (by kernel_rfl) Tryd.func9
    (ChangeSpec.witness_shaped (enc := enc) (C := Tryd.checked) (os := os) (X := fun w _ => laidMetH Tryd.prog laidS w) false (World.laidAll Tryd.prog os laidS) #[.agg #[.int .i64 0, .int .i64 0]] 8 (World.laidAll_os _ _ _) (start_shaped os) (by kernel_rfl) (by kernel_rfl) (by kernel_rfl) (start_met os _)) ?_
  intro W base args ds gs before hval0 hW hcnd _ hL _
  have hT := laid_tabs hL
  have hval : ∀ (j : Nat) t v, Tryd.f9.params[j]? = some t → args[j]? = some v → Value.okWide Tryd.prog W .any base t v := hval0
  have hW' := hW
  obtain ⟨p, q, hA0, hV, rfl, hfz, hnd⟩ := hW
  have hA : DataW.TrodAll enc Tryd.prog W 0 (fun _ => true) true Tryd.f9.params.toList args.toList ds p := hA0
  rw [Tryd.params9] at hA hval
  obtain ⟨v0, vs0, d0, ds0, p0, q0, hargs, rfl, rfl, h0, r0⟩ := trodAll_cons hA
  obtain ⟨rfl, rfl, rfl⟩ := trodAll_nil r0
  obtain rfl : args = #[v0] := by cases args; simp_all
  obtain ⟨rfl, rfl⟩ := trodVars_none hV
  have k0 := h0
  have lt0 : ∀ x ∈ p0, x.block < W.heap.size := by obtain ⟨m, hm⟩ := k0; exact DataW.trod_lt m _ _ _ hm
  obtain ⟨c0, e0, y0, z0, m0, rfl, -, -, hy0, hz0⟩ := open_agg2 Tryd.underlying23 (by kernel_rfl) (by kernel_rfl) (hval 0 23 v0 rfl rfl) h0
  obtain ⟨aP, f0, -, waP⟩ := DataW.trod_int Tryd.underlying3 hy0
  obtain ⟨aQ, g0, -, waQ⟩ := DataW.trod_int Tryd.underlying3 hz0
  simp only [List.cons.injEq, and_true] at f0 g0
  subst f0 g0
  clear hA0 hval0
  refine (walk aP aQ waP waQ W hT).mono fun e W' ⟨he, bel⟩ => ?_
  subst he
  exact ⟨_, rfl, _, _, _, [], _, [], hW', trodAll_mk1 (shut_bool Tryd.underlying4 _), (trodAll_cons_mk (Below.trod laidOut (by kernel_rfl) (of_decide_eq_true (by kernel_rfl)) k0 bel lt0) trodAll_mk0), rfl, bel.frame _, fun h => by cases h⟩

theorem over : Rows.numeralReturnsRow.holds Tryd.pinned (OpenSpec.ofChange Rows.numeralReturnsSpec) :=
  OpenClaim.holds_of_wide 9 Tryd.f9 rfl rfl rfl rfl rfl rfl rfl ⟨rfl, rfl, rfl, rfl, rfl⟩ rfl rfl rfl rfl rfl (by kernel_rfl) Tryd.func9 (by kernel_rfl)
    (of_decide_eq_true (by kernel_rfl)) (by unfold Func.isWrapper; first | (rw [if_pos (by decide +kernel)]; kernel_rfl) | (rw [if_neg (by decide +kernel)]; exact ⟨rfl, rfl⟩))
    (fun os started H enc _ => lifted os started H enc)

/-- The given statement: the row, tied. -/
theorem proved : Rows.NumeralReturnsCardSaid :=
  Claim7.holds_tied_plain_at .later [] [.data, .data, .data, .data, .pinned] true _ false over (fun _ h => by cases h) (by kernel_rfl) (fun _ h => by cases h) numeralReturns_row_tie rfl ⟨rfl, rfl⟩ (by kernel_rfl) rfl
    (fun f fn hf hfn => by
      obtain rfl : f = 9 := Option.some.inj ((show Tryd.prog.funcNamed Rows.numeralReturnsRow.func = some 9 by kernel_rfl).symm.trans hf) |>.symm
      obtain rfl : fn = Tryd.f9 := (Option.some.inj (Tryd.func9.symm.trans hfn)).symm
      exact ⟨by kernel_rfl, fun j t ht => by
        rw [Tryd.params9] at ht
        have hm : t ∈ [23] := by simpa using Array.mem_of_getElem? ht
        have hall : ([23].all fun u => !Tryd.prog.wantsStandIn u) = true := by kernel_rfl
        exact (show Tryd.prog.wantsStandIn t = false by simpa using List.all_eq_true.1 hall t hm)⟩)
    (by kernel_rfl)
#print axioms proved
end Go.Proofs.YtjpegcaooamhfaaDoor.numeralReturns
