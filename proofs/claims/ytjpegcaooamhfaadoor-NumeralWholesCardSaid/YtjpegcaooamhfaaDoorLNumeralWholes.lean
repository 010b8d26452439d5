/- The law NumeralWholes holds: for every input it returns true, and each argument reads as it did, where the library's tables read as its text lays them. No other conditions. -/
import Derived.Test.YtjpegcaooamhfaaDoorNumAw
import Derived.Test.YtjpegcaooamhfaaDoorNumPlain4
import Derived.Test.YtjpegcaooamhfaaDoorLaid
import Derived.Test.YtjpegcaooamhfaaDoorCards
import Derived.Test.YtjpegcaooamhfaaDoorTie
namespace Go.Proofs.YtjpegcaooamhfaaDoor.numeralWholes
open Go.ChangeShapes Go.WideShapes Go.ChangeAt Go.RowKit Go.Joins
open Go.ChangeMaps (open_string shut_string)
set_option linter.unusedVariables false

theorem int_good (n : Int) (h1 : -2147483647 ≤ n) (h2 : n ≤ 2147483647) (w : World) : Calls Tryd.prog 26 #[.int .i64 n] w fun e w' => e = .returned (.tuple #[.agg #[.int .i64 n, .int .i64 1], .int .i64 0]) ∧ Below w.heap.size w w' := by
  have := int_any n w
  have e : intT n = (n, 1, 0) := by unfold intT; rw [if_pos ⟨h1, h2⟩]
  rw [e] at this
  exact this
theorem int_bad (n : Int) (h : ¬ (-2147483647 ≤ n ∧ n ≤ 2147483647)) (w : World) : Calls Tryd.prog 26 #[.int .i64 n] w fun e w' => e = .returned (.tuple #[.agg #[.int .i64 0, .int .i64 0], .int .i64 6]) ∧ Below w.heap.size w w' := by
  have := int_any n w
  have e : intT n = (0, 0, 6) := by unfold intT; rw [if_neg h]
  rw [e] at this
  exact this

set_option maxHeartbeats 4000000 in
set_option maxRecDepth 100000 in
theorem walk (n : Int) (wn : (Lit.int .i64 n).wf = true) (w : World) (hT : Tabs w) :
    Calls Tryd.prog 10 #[.int .i64 n] w fun e w' => e = .returned (.bool true) ∧ Below w.heap.size w w' := by
  obtain ⟨n1, n2⟩ := bounds_i64 wn
  have HT := Lib.hid hT
  clear hT
  have HA : Hid (Below w.heap.size w w) := Below.refl _ _
  by_cases hr : -2147483647 ≤ n ∧ n ≤ 2147483647
  · have hv := vld_int n hr.1 hr.2
    have hfx : fixL n 1 0 = (Lib.itoa n, 0) := by rw [fix_whole, if_pos hv]
    have hbs : baseL n 10 = (Lib.itoa n, 0) := by unfold baseL; rw [if_neg (by omega), itoa_bText]; rfl
    have htx : textL n 1 = Lib.itoa n := by unfold textL; rw [if_pos hv, if_pos rfl]
    obtain ⟨S, hS⟩ : ∃ S, mkS (Lib.itoa n) = S := ⟨_, rfl⟩
    have HF : Hid (∀ w', Tabs w' → Calls Tryd.prog 20 #[.agg #[.int .i64 n, .int .i64 1], .int .i64 0] w' fun e w'' => e = .returned (.tuple #[.string S, .int .i64 0]) ∧ Below w'.heap.size w' w'') := fun w' hT' => by
      have := fixed_any n 1 0 w' n1 n2 hT'
      rw [hfx] at this
      rw [← hS]
      exact this
    have HB : Hid (∀ w', Tabs w' → Calls Tryd.prog 22 #[.int .i64 n, .int .i64 10] w' fun e w'' => e = .returned (.tuple #[.string S, .int .i64 0]) ∧ Below w'.heap.size w' w'') := fun w' hT' => by
      have := base_any n 10 n1 n2 w' hT'
      rw [hbs] at this
      rw [← hS]
      exact this
    have HX : Hid (∀ w', Tabs w' → Calls Tryd.prog 12 #[.agg #[.int .i64 n, .int .i64 1]] w' fun e w'' => e = .returned (.string S) ∧ Below w'.heap.size w' w'') := fun w' hT' => by
      have := text_any n 1 w' n1 n2 hT'
      rw [htx] at this
      rw [← hS]
      exact this
    clear hv hfx hbs htx hS
    go_enter Tryd.func10, Tryd.ntmps10
    go_wp2_with fail -- Int
    refine (int_good n hr.1 hr.2 _).mono ?_
    rintro e w1 ⟨rfl, hb⟩
    have H1 := Lib.hid (keep2_new w1 (.int .i64 n) (.int .i64 1) 23)
    have HA : Hid (Below w.heap.size w w1) := by
      have h0 := HA.out
      have hs := h0.size
      show Below _ _ _
      (repeat' (first | (with_reducible exact Below.refl _ _) | (with_reducible assumption) | (with_reducible refine Below.alloc ?_ ?_ _) | (with_reducible refine below_drewN ?_ _) | (with_reducible refine Below.drew ?_) | (with_reducible refine Below.setCell ?_ ?_ _) | (with_reducible refine below_via (by assumption) ?_ ?_) | (with_reducible refine below_via (later_below _) ?_ ?_) | (with_reducible exact Nat.le_refl _) | omega | (simp; omega) | (simp; done)))
    clear hb
    go_wp2_with fail -- Fixed
    refine (HF.out _ (HT.out.later ?_)).mono ?_
    · have h0 := HA.out
      have hs := h0.size
      (repeat' (first | (with_reducible exact Below.refl _ _) | (with_reducible assumption) | (with_reducible refine Below.alloc ?_ ?_ _) | (with_reducible refine below_drewN ?_ _) | (with_reducible refine Below.drew ?_) | (with_reducible refine Below.setCell ?_ ?_ _) | (with_reducible refine below_via (by assumption) ?_ ?_) | (with_reducible refine below_via (later_below _) ?_ ?_) | (with_reducible exact Nat.le_refl _) | omega | (simp; omega) | (simp; done)))
    rintro e w2 ⟨rfl, hb⟩
    have H1 := Lib.hid (keep2 hb H1.out)
    have HA : Hid (Below w.heap.size w w2) := by
      have h0 := HA.out
      have hs := h0.size
      show Below _ _ _
      (repeat' (first | (with_reducible exact Below.refl _ _) | (with_reducible assumption) | (with_reducible refine Below.alloc ?_ ?_ _) | (with_reducible refine below_drewN ?_ _) | (with_reducible refine Below.drew ?_) | (with_reducible refine Below.setCell ?_ ?_ _) | (with_reducible refine below_via (by assumption) ?_ ?_) | (with_reducible refine below_via (later_below _) ?_ ?_) | (with_reducible exact Nat.le_refl _) | omega | (simp; omega) | (simp; done)))
    clear hb
    go_wp2_with fail -- Base
    refine (HB.out _ (HT.out.later ?_)).mono ?_
    · have h0 := HA.out
      have hs := h0.size
      (repeat' (first | (with_reducible exact Below.refl _ _) | (with_reducible assumption) | (with_reducible refine Below.alloc ?_ ?_ _) | (with_reducible refine below_drewN ?_ _) | (with_reducible refine Below.drew ?_) | (with_reducible refine Below.setCell ?_ ?_ _) | (with_reducible refine below_via (by assumption) ?_ ?_) | (with_reducible refine below_via (later_below _) ?_ ?_) | (with_reducible exact Nat.le_refl _) | omega | (simp; omega) | (simp; done)))
    rintro e w3 ⟨rfl, hb⟩
    have H1 := Lib.hid (keep2 hb H1.out)
    have HA : Hid (Below w.heap.size w w3) := by
      have h0 := HA.out
      have hs := h0.size
      show Below _ _ _
      (repeat' (first | (with_reducible exact Below.refl _ _) | (with_reducible assumption) | (with_reducible refine Below.alloc ?_ ?_ _) | (with_reducible refine below_drewN ?_ _) | (with_reducible refine Below.drew ?_) | (with_reducible refine Below.setCell ?_ ?_ _) | (with_reducible refine below_via (by assumption) ?_ ?_) | (with_reducible refine below_via (later_below _) ?_ ?_) | (with_reducible exact Nat.le_refl _) | omega | (simp; omega) | (simp; done)))
    clear hb
    obtain ⟨H10, H11⟩ := H1.out
    go_wp2_with fail -- Text
    refine (HX.out _ (HT.out.later ?_)).mono ?_
    · have h0 := HA.out
      have hs := h0.size
      (repeat' (first | (with_reducible exact Below.refl _ _) | (with_reducible assumption) | (with_reducible refine Below.alloc ?_ ?_ _) | (with_reducible refine below_drewN ?_ _) | (with_reducible refine Below.drew ?_) | (with_reducible refine Below.setCell ?_ ?_ _) | (with_reducible refine below_via (by assumption) ?_ ?_) | (with_reducible refine below_via (later_below _) ?_ ?_) | (with_reducible exact Nat.le_refl _) | omega | (simp; omega) | (simp; done)))
    rintro e w4 ⟨rfl, hb⟩
    have H1 := Lib.hid (keep2 hb H1.out)
    have HA : Hid (Below w.heap.size w w4) := by
      have h0 := HA.out
      have hs := h0.size
      show Below _ _ _
      (repeat' (first | (with_reducible exact Below.refl _ _) | (with_reducible assumption) | (with_reducible refine Below.alloc ?_ ?_ _) | (with_reducible refine below_drewN ?_ _) | (with_reducible refine Below.drew ?_) | (with_reducible refine Below.setCell ?_ ?_ _) | (with_reducible refine below_via (by assumption) ?_ ?_) | (with_reducible refine below_via (later_below _) ?_ ?_) | (with_reducible exact Nat.le_refl _) | omega | (simp; omega) | (simp; done)))
    clear hb
    clear H10 H11
    by_cases hn0 : n < 0
    · go_wp2_with fail -- awake
      refine (awake_any _ (HT.out.later ?_)).mono ?_
      · have h0 := HA.out
        have hs := h0.size
        (repeat' (first | (with_reducible exact Below.refl _ _) | (with_reducible assumption) | (with_reducible refine Below.alloc ?_ ?_ _) | (with_reducible refine below_drewN ?_ _) | (with_reducible refine Below.drew ?_) | (with_reducible refine Below.setCell ?_ ?_ _) | (with_reducible refine below_via (by assumption) ?_ ?_) | (with_reducible refine below_via (later_below _) ?_ ?_) | (with_reducible exact Nat.le_refl _) | omega | (simp; omega) | (simp; done)))
      rintro e wz ⟨rfl, hb⟩
      have HA : Hid (Below w.heap.size w wz) := by
        have h0 := HA.out
        have hs := h0.size
        show Below _ _ _
        (repeat' (first | (with_reducible exact Below.refl _ _) | (with_reducible assumption) | (with_reducible refine Below.alloc ?_ ?_ _) | (with_reducible refine below_drewN ?_ _) | (with_reducible refine Below.drew ?_) | (with_reducible refine Below.setCell ?_ ?_ _) | (with_reducible refine below_via (by assumption) ?_ ?_) | (with_reducible refine below_via (later_below _) ?_ ?_) | (with_reducible exact Nat.le_refl _) | omega | (simp; omega) | (simp; done)))
      clear hb
      go_wp2_with fail -- end
      go_returns
      exact ⟨rfl, HA.out⟩
    · obtain ⟨m, rfl⟩ : ∃ m : Nat, n = m := ⟨n.toNat, by omega⟩
      have hb16 : baseL m 16 = (bDigits 16 m, 0) := by unfold baseL bText; rw [if_neg (by omega), if_neg hn0]; rfl
      have hlen := bDigits_len 16 (by omega) 31 m (by omega) (by omega)
      have hpx := parse_hex m (by omega)
      obtain ⟨U, hU⟩ : ∃ U, bDigits 16 m = U := ⟨_, rfl⟩
      rw [hU] at hb16 hlen hpx
      have HB2 : Hid (∀ w', Tabs w' → Calls Tryd.prog 22 #[.int .i64 m, .int .i64 16] w' fun e w'' => e = .returned (.tuple #[.string (mkS U), .int .i64 0]) ∧ Below w'.heap.size w' w'') := fun w' hT' => by
        have := base_any m 16 n1 n2 w' hT'
        rw [hb16] at this
        exact this
      have hsz : (mkS U).size ≤ 31 := by rw [mkS_size]; exact hlen
      have HP : Hid (∀ w', Calls Tryd.prog 16 #[.string (⟨#[48, 120]⟩ ++ mkS U)] w' fun e w'' => e = .returned (.tuple #[.agg #[.int .i64 m, .int .i64 1], .int .i64 0]) ∧ Below w'.heap.size w' w'') := fun w' => by
        have e : (⟨#[48, 120]⟩ : ByteArray) ++ mkS U = mkS (48 :: 120 :: U) := by rw [show (⟨#[48, 120]⟩ : ByteArray) = mkS [48, 120] from rfl, cat_mk]; rfl
        have := parse_any (mkS (48 :: 120 :: U)) (by rw [mkS_size]; simp; omega) w'
        rw [mkS_list, hpx] at this
        rw [e]
        exact this
      clear hb16 hlen hpx hU
      go_wp2_with fail -- Base
      refine (HB2.out _ (HT.out.later ?_)).mono ?_
      · have h0 := HA.out
        have hs := h0.size
        (repeat' (first | (with_reducible exact Below.refl _ _) | (with_reducible assumption) | (with_reducible refine Below.alloc ?_ ?_ _) | (with_reducible refine below_drewN ?_ _) | (with_reducible refine Below.drew ?_) | (with_reducible refine Below.setCell ?_ ?_ _) | (with_reducible refine below_via (by assumption) ?_ ?_) | (with_reducible refine below_via (later_below _) ?_ ?_) | (with_reducible exact Nat.le_refl _) | omega | (simp; omega) | (simp; done)))
      rintro e w5 ⟨rfl, hb⟩
      have H1 := Lib.hid (keep2 hb H1.out)
      have HA : Hid (Below w.heap.size w w5) := by
        have h0 := HA.out
        have hs := h0.size
        show Below _ _ _
        (repeat' (first | (with_reducible exact Below.refl _ _) | (with_reducible assumption) | (with_reducible refine Below.alloc ?_ ?_ _) | (with_reducible refine below_drewN ?_ _) | (with_reducible refine Below.drew ?_) | (with_reducible refine Below.setCell ?_ ?_ _) | (with_reducible refine below_via (by assumption) ?_ ?_) | (with_reducible refine below_via (later_below _) ?_ ?_) | (with_reducible exact Nat.le_refl _) | omega | (simp; omega) | (simp; done)))
      clear hb
      go_wp2_with fail -- Parse
      refine (HP.out _).mono ?_
      rintro e w6 ⟨rfl, hb⟩
      have H1 := Lib.hid (keep2 hb H1.out)
      have H2 := Lib.hid (keep2_new w6 (.int .i64 m) (.int .i64 1) 23)
      have H1 := Lib.hid (keep2_alloc (.cells #[.int .i64 m, .int .i64 1] 23) H1.out)
      have HA : Hid (Below w.heap.size w w6) := by
        have h0 := HA.out
        have hs := h0.size
        show Below _ _ _
        (repeat' (first | (with_reducible exact Below.refl _ _) | (with_reducible assumption) | (with_reducible refine Below.alloc ?_ ?_ _) | (with_reducible refine below_drewN ?_ _) | (with_reducible refine Below.drew ?_) | (with_reducible refine Below.setCell ?_ ?_ _) | (with_reducible refine below_via (by assumption) ?_ ?_) | (with_reducible refine below_via (later_below _) ?_ ?_) | (with_reducible exact Nat.le_refl _) | omega | (simp; omega) | (simp; done)))
      clear hb
      obtain ⟨H10, H11⟩ := H1.out
      obtain ⟨H20, H21⟩ := H2.out
      go_wp2_with fail -- awake
      refine (awake_any _ (HT.out.later ?_)).mono ?_
      · have h0 := HA.out
        have hs := h0.size
        (repeat' (first | (with_reducible exact Below.refl _ _) | (with_reducible assumption) | (with_reducible refine Below.alloc ?_ ?_ _) | (with_reducible refine below_drewN ?_ _) | (with_reducible refine Below.drew ?_) | (with_reducible refine Below.setCell ?_ ?_ _) | (with_reducible refine below_via (by assumption) ?_ ?_) | (with_reducible refine below_via (later_below _) ?_ ?_) | (with_reducible exact Nat.le_refl _) | omega | (simp; omega) | (simp; done)))
      rintro e wz ⟨rfl, hb⟩
      have HA : Hid (Below w.heap.size w wz) := by
        have h0 := HA.out
        have hs := h0.size
        show Below _ _ _
        (repeat' (first | (with_reducible exact Below.refl _ _) | (with_reducible assumption) | (with_reducible refine Below.alloc ?_ ?_ _) | (with_reducible refine below_drewN ?_ _) | (with_reducible refine Below.drew ?_) | (with_reducible refine Below.setCell ?_ ?_ _) | (with_reducible refine below_via (by assumption) ?_ ?_) | (with_reducible refine below_via (later_below _) ?_ ?_) | (with_reducible exact Nat.le_refl _) | omega | (simp; omega) | (simp; done)))
      clear hb
      go_wp2_with fail -- end
      go_returns
      exact ⟨rfl, HA.out⟩
  · go_enter Tryd.func10, Tryd.ntmps10
    go_wp2_with fail -- Int
    refine (int_bad n (by omega) _).mono ?_
    rintro e w1 ⟨rfl, hb⟩
    have H1 := Lib.hid (keep2_new w1 (.int .i64 0) (.int .i64 0) 23)
    have HA : Hid (Below w.heap.size w w1) := by
      have h0 := HA.out
      have hs := h0.size
      show Below _ _ _
      (repeat' (first | (with_reducible exact Below.refl _ _) | (with_reducible assumption) | (with_reducible refine Below.alloc ?_ ?_ _) | (with_reducible refine below_drewN ?_ _) | (with_reducible refine Below.drew ?_) | (with_reducible refine Below.setCell ?_ ?_ _) | (with_reducible refine below_via (by assumption) ?_ ?_) | (with_reducible refine below_via (later_below _) ?_ ?_) | (with_reducible exact Nat.le_refl _) | omega | (simp; omega) | (simp; done)))
    clear hb
    go_wp2_with fail -- awake
    refine (awake_any _ (HT.out.later ?_)).mono ?_
    · have h0 := HA.out
      have hs := h0.size
      (repeat' (first | (with_reducible exact Below.refl _ _) | (with_reducible assumption) | (with_reducible refine Below.alloc ?_ ?_ _) | (with_reducible refine below_drewN ?_ _) | (with_reducible refine Below.drew ?_) | (with_reducible refine Below.setCell ?_ ?_ _) | (with_reducible refine below_via (by assumption) ?_ ?_) | (with_reducible refine below_via (later_below _) ?_ ?_) | (with_reducible exact Nat.le_refl _) | omega | (simp; omega) | (simp; done)))
    rintro e wz ⟨rfl, hb⟩
    have HA : Hid (Below w.heap.size w wz) := by
      have h0 := HA.out
      have hs := h0.size
      show Below _ _ _
      (repeat' (first | (with_reducible exact Below.refl _ _) | (with_reducible assumption) | (with_reducible refine Below.alloc ?_ ?_ _) | (with_reducible refine below_drewN ?_ _) | (with_reducible refine Below.drew ?_) | (with_reducible refine Below.setCell ?_ ?_ _) | (with_reducible refine below_via (by assumption) ?_ ?_) | (with_reducible refine below_via (later_below _) ?_ ?_) | (with_reducible exact Nat.le_refl _) | omega | (simp; omega) | (simp; done)))
    clear hb
    go_wp2_with fail -- end
    go_returns
    exact ⟨rfl, HA.out⟩

set_option maxRecDepth 100000 in
theorem lifted (os : Os) (started : os.Started) (H : Type) (enc : TypeId × Value → H) :
    ReturnsInHanded {} Tryd.checked os 10 .any (fun w args => (Rows.numeralWholesSpec.pre enc Tryd.prog Tryd.f10 Rows.numeralWholesRow.domain false w args ∧ laidMetH Tryd.prog laidS w) ∧ sizedMet enc Tryd.prog Tryd.f10 (OpenSpec.ofChange Rows.numeralWholesSpec) false w args) (Rows.numeralWholesSpec.post enc Tryd.prog Tryd.f10 false true false false) := by
  refine returnsInHanded_of_change_and (C := Tryd.checked) (X := fun w _ => laidMetH Tryd.prog laidS w) (fun _ _ _ hh h => h.of_heap hh) own started (by kernel_rfl) Tryd.func10
    (ChangeSpec.witness_shaped (enc := enc) (C := Tryd.checked) (os := os) (X := fun w _ => laidMetH Tryd.prog laidS w) false (World.laidAll Tryd.prog os laidS) #[.int .i64 0] 8 (World.laidAll_os _ _ _) (start_shaped os) (by kernel_rfl) (by kernel_rfl) (by kernel_rfl) (start_met os _)) ?_
  intro W base args ds gs before hval0 hW hcnd _ hL _
  have hT := laid_tabs hL
  have hval : ∀ (j : Nat) t v, Tryd.f10.params[j]? = some t → args[j]? = some v → Value.okWide Tryd.prog W .any base t v := hval0
  have hW' := hW
  obtain ⟨p, q, hA0, hV, rfl, hfz, hnd⟩ := hW
  have hA : DataW.TrodAll enc Tryd.prog W 0 (fun _ => true) true Tryd.f10.params.toList args.toList ds p := hA0
  rw [Tryd.params10] at hA hval
  obtain ⟨v0, vs0, d0, ds0, p0, q0, hargs, rfl, rfl, h0, r0⟩ := trodAll_cons hA
  obtain ⟨rfl, rfl, rfl⟩ := trodAll_nil r0
  obtain rfl : args = #[v0] := by cases args; simp_all
  obtain ⟨rfl, rfl⟩ := trodVars_none hV
  have k0 := h0
  have lt0 : ∀ x ∈ p0, x.block < W.heap.size := by obtain ⟨m, hm⟩ := k0; exact DataW.trod_lt m _ _ _ hm
  obtain ⟨n, rfl, -, -, wn⟩ := open_int Tryd.underlying3 (hval 0 3 v0 rfl rfl) h0
  clear hA0 hval0
  refine (walk n wn W hT).mono fun e W' ⟨he, bel⟩ => ?_
  subst he
  exact ⟨_, rfl, _, _, _, [], _, [], hW', trodAll_mk1 (shut_bool Tryd.underlying4 _), (trodAll_cons_mk (Below.trod laidOut (by kernel_rfl) (of_decide_eq_true (by kernel_rfl)) k0 bel lt0) trodAll_mk0), rfl, bel.frame _, fun h => by cases h⟩

theorem over : Rows.numeralWholesRow.holds Tryd.pinned (OpenSpec.ofChange Rows.numeralWholesSpec) :=
  OpenClaim.holds_of_wide 10 Tryd.f10 rfl rfl rfl rfl rfl rfl rfl ⟨rfl, rfl, rfl, rfl, rfl⟩ rfl rfl rfl rfl rfl (by kernel_rfl) Tryd.func10 (by kernel_rfl)
    (of_decide_eq_true (by kernel_rfl)) (by unfold Func.isWrapper; first | (rw [if_pos (by decide +kernel)]; kernel_rfl) | (rw [if_neg (by decide +kernel)]; exact ⟨rfl, rfl⟩))
    (fun os started H enc _ => lifted os started H enc)

/-- The given statement: the row, tied. -/
theorem proved : Rows.NumeralWholesCardSaid :=
  Claim7.holds_tied_plain_at .later [] [.data, .data, .data, .data, .pinned] true _ false over (fun _ h => by cases h) (by kernel_rfl) (fun _ h => by cases h) numeralWholes_row_tie rfl ⟨rfl, rfl⟩ (by kernel_rfl) rfl
    (fun f fn hf hfn => by
      obtain rfl : f = 10 := Option.some.inj ((show Tryd.prog.funcNamed Rows.numeralWholesRow.func = some 10 by kernel_rfl).symm.trans hf) |>.symm
      obtain rfl : fn = Tryd.f10 := (Option.some.inj (Tryd.func10.symm.trans hfn)).symm
      exact ⟨by kernel_rfl, fun j t ht => by
        rw [Tryd.params10] at ht
        have hm : t ∈ [3] := by simpa using Array.mem_of_getElem? ht
        have hall : ([3].all fun u => !Tryd.prog.wantsStandIn u) = true := by kernel_rfl
        exact (show Tryd.prog.wantsStandIn t = false by simpa using List.all_eq_true.1 hall t hm)⟩)
    (by kernel_rfl)
#print axioms proved
end Go.Proofs.YtjpegcaooamhfaaDoor.numeralWholes
