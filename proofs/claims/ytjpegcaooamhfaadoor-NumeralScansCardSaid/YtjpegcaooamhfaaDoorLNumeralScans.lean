/- The law NumeralScans holds: for every input it returns true, and each argument reads as it did, where the library's tables read as its text lays them. No other conditions. -/
import Derived.Test.YtjpegcaooamhfaaDoorNumAw
import Derived.Test.YtjpegcaooamhfaaDoorRefN10
import Derived.Test.YtjpegcaooamhfaaDoorLaid
import Derived.Test.YtjpegcaooamhfaaDoorCards
import Derived.Test.YtjpegcaooamhfaaDoorTie
namespace Go.Proofs.YtjpegcaooamhfaaDoor.numeralScans
open Go.ChangeShapes Go.WideShapes Go.ChangeAt Go.RowKit Go.Joins
open Go.ChangeMaps (open_string shut_string)
set_option linter.unusedVariables false

theorem long_any (s : ByteArray) (w : World) : Calls Tryd.prog 15 #[.string s] w fun e w' => e = .returned (.bool (decide (2000 < (s.size : Int)))) ∧ w = w' := by
  go_enter Tryd.func15, Tryd.ntmps15
  go_wp2
  go_returns
  exact ⟨rfl, rfl⟩

set_option maxHeartbeats 4000000 in
set_option maxRecDepth 100000 in
theorem walk (s : ByteArray) (ws : s.size ≤ maxLen) (at_ : Int) (wat_ : (Lit.int .i64 at_).wf = true) (w : World) (hT : Tabs w) :
    Calls Tryd.prog 5 #[.string s, .int .i64 at_] w fun e w' => e = .returned (.bool true) ∧ Below w.heap.size w w' := by
  have hs1 : s.size ≤ 9223372036854775807 := by unfold maxLen at ws; omega
  have HT := Lib.hid hT
  clear hT
  have HA : Hid (Below w.heap.size w w) := Below.refl _ _
  by_cases hl : 2000 < s.size
  · go_enter Tryd.func5, Tryd.ntmps5
    go_wp2_with (first | (go_at_call 15; refine (long_any _ _).mono ?_; rintro e w2 ⟨rfl, rfl⟩))
    refine (awake_any _ (HT.out.later ?_)).mono ?_
    · have h0 := HA.out
      have hs := h0.size
      (repeat' (first | (with_reducible exact Below.refl _ _) | (with_reducible assumption) | (with_reducible refine Below.alloc ?_ ?_ _) | (with_reducible refine below_drewN ?_ _) | (with_reducible refine Below.drew ?_) | (with_reducible refine Below.setCell ?_ ?_ _) | (with_reducible refine below_via (by assumption) ?_ ?_) | (with_reducible refine below_via (later_below _) ?_ ?_) | (with_reducible exact Nat.le_refl _) | omega | (simp; omega) | (simp; done)))
    rintro e wz ⟨rfl, hb⟩
    have HA : Hid (Below w.heap.size w wz) := by
      have h0 := HA.out
      have hs := h0.size
      show Below _ _ _
      (repeat' (first | (with_reducible exact Below.refl _ _) | (with_reducible assumption) | (with_reducible refine Below.alloc ?_ ?_ _) | (with_reducible refine below_drewN ?_ _) | (with_reducible refine Below.drew ?_) | (with_reducible refine Below.setCell ?_ ?_ _) | (with_reducible refine below_via (by assumption) ?_ ?_) | (with_reducible refine below_via (later_below _) ?_ ?_) | (with_reducible exact Nat.le_refl _) | omega | (simp; omega) | (simp; done)))
    clear hb
    go_wp2_with fail -- end
    go_returns
    exact ⟨rfl, HA.out⟩
  · obtain ⟨⟨P, Q, K, E⟩, hS⟩ : ∃ t, scanL s.data.toList at_ = t := ⟨_, rfl⟩
    have c1 := fun w => scan_any s at_ hs1 w
    have hl0 : s.size ≤ 2000 := by omega
    have c2 := fun w => rscan_any s at_ hl0 w
    rw [hS] at c1 c2
    have HX : Hid (∀ w', Calls Tryd.prog 18 #[.string s, .int .i64 at_] w' fun e w'' => e = .returned (.tuple #[.agg #[.int .i64 P, .int .i64 Q], .int .i64 K, .int .i64 E]) ∧ Below w'.heap.size w' w'') := c1
    have HY : Hid (∀ w', Calls Tryd.prog 19 #[.string s, .int .i64 at_] w' fun e w'' => e = .returned (.tuple #[.agg #[.int .i64 P, .int .i64 Q], .int .i64 K, .int .i64 E]) ∧ Below w'.heap.size w' w'') := c2
    clear hS c1 c2
    go_enter Tryd.func5, Tryd.ntmps5
    go_wp2_with (first | (go_at_call 15; refine (long_any _ _).mono ?_; rintro e w2 ⟨rfl, rfl⟩))
    refine (HX.out _).mono ?_
    rintro e w1 ⟨rfl, hb⟩
    have H1 := Lib.hid (keep2_new w1 (.int .i64 P) (.int .i64 Q) 23)
    have HA : Hid (Below w.heap.size w w1) := by
      have h0 := HA.out
      have hs := h0.size
      show Below _ _ _
      (repeat' (first | (with_reducible exact Below.refl _ _) | (with_reducible assumption) | (with_reducible refine Below.alloc ?_ ?_ _) | (with_reducible refine below_drewN ?_ _) | (with_reducible refine Below.drew ?_) | (with_reducible refine Below.setCell ?_ ?_ _) | (with_reducible refine below_via (by assumption) ?_ ?_) | (with_reducible refine below_via (later_below _) ?_ ?_) | (with_reducible exact Nat.le_refl _) | omega | (simp; omega) | (simp; done)))
    clear hb
    go_wp2_with fail -- RScan
    refine (HY.out _).mono ?_
    rintro e w2 ⟨rfl, hb⟩
    have H1 := Lib.hid (keep2 hb H1.out)
    have H2 := Lib.hid (keep2_new w2 (.int .i64 P) (.int .i64 Q) 23)
    have H1 := Lib.hid (keep2_alloc (.cells #[.int .i64 P, .int .i64 Q] 23) H1.out)
    have HA : Hid (Below w.heap.size w w2) := by
      have h0 := HA.out
      have hs := h0.size
      show Below _ _ _
      (repeat' (first | (with_reducible exact Below.refl _ _) | (with_reducible assumption) | (with_reducible refine Below.alloc ?_ ?_ _) | (with_reducible refine below_drewN ?_ _) | (with_reducible refine Below.drew ?_) | (with_reducible refine Below.setCell ?_ ?_ _) | (with_reducible refine below_via (by assumption) ?_ ?_) | (with_reducible refine below_via (later_below _) ?_ ?_) | (with_reducible exact Nat.le_refl _) | omega | (simp; omega) | (simp; done)))
    clear hb
    obtain ⟨H10, H11⟩ := H1.out
    obtain ⟨H20, H21⟩ := H2.out
    go_wp2_with fail -- awake
    refine (awake_any _ (HT.out.later ?_)).mono ?_
    · have h0 := HA.out
      have hs := h0.size
      (repeat' (first | (with_reducible exact Below.refl _ _) | (with_reducible assumption) | (with_reducible refine Below.alloc ?_ ?_ _) | (with_reducible refine below_drewN ?_ _) | (with_reducible refine Below.drew ?_) | (with_reducible refine Below.setCell ?_ ?_ _) | (with_reducible refine below_via (by assumption) ?_ ?_) | (with_reducible refine below_via (later_below _) ?_ ?_) | (with_reducible exact Nat.le_refl _) | omega | (simp; omega) | (simp; done)))
    rintro e wz ⟨rfl, hb⟩
    have HA : Hid (Below w.heap.size w wz) := by
      have h0 := HA.out
      have hs := h0.size
      show Below _ _ _
      (repeat' (first | (with_reducible exact Below.refl _ _) | (with_reducible assumption) | (with_reducible refine Below.alloc ?_ ?_ _) | (with_reducible refine below_drewN ?_ _) | (with_reducible refine Below.drew ?_) | (with_reducible refine Below.setCell ?_ ?_ _) | (with_reducible refine below_via (by assumption) ?_ ?_) | (with_reducible refine below_via (later_below _) ?_ ?_) | (with_reducible exact Nat.le_refl _) | omega | (simp; omega) | (simp; done)))
    clear hb
    go_wp2_with fail -- end
    go_returns
    exact ⟨rfl, HA.out⟩

set_option maxRecDepth 100000 in
theorem lifted (os : Os) (started : os.Started) (H : Type) (enc : TypeId × Value → H) :
    ReturnsInHanded {} Tryd.checked os 5 .any (fun w args => (Rows.numeralScansSpec.pre enc Tryd.prog Tryd.f5 Rows.numeralScansRow.domain false w args ∧ laidMetH Tryd.prog laidS w) ∧ sizedMet enc Tryd.prog Tryd.f5 (OpenSpec.ofChange Rows.numeralScansSpec) false w args) (Rows.numeralScansSpec.post enc Tryd.prog Tryd.f5 false true false false) := by
  refine returnsInHanded_of_change_and (C := Tryd.checked) (X := fun w _ => laidMetH Tryd.prog laidS w) (fun _ _ _ hh h => h.of_heap hh) own started (by kernel_rfl) Tryd.func5
    (ChangeSpec.witness_shaped (enc := enc) (C := Tryd.checked) (os := os) (X := fun w _ => laidMetH Tryd.prog laidS w) false (World.laidAll Tryd.prog os laidS) #[.string ⟨#[]⟩, .int .i64 0] 8 (World.laidAll_os _ _ _) (start_shaped os) (by kernel_rfl) (by kernel_rfl) (by kernel_rfl) (start_met os _)) ?_
  intro W base args ds gs before hval0 hW hcnd _ hL _
  have hT := laid_tabs hL
  have hval : ∀ (j : Nat) t v, Tryd.f5.params[j]? = some t → args[j]? = some v → Value.okWide Tryd.prog W .any base t v := hval0
  have hW' := hW
  obtain ⟨p, q, hA0, hV, rfl, hfz, hnd⟩ := hW
  have hA : DataW.TrodAll enc Tryd.prog W 0 (fun _ => true) true Tryd.f5.params.toList args.toList ds p := hA0
  rw [Tryd.params5] at hA hval
  obtain ⟨v0, vs0, d0, ds0, p0, q0, hargs, rfl, rfl, h0, r0⟩ := trodAll_cons hA
  obtain ⟨v1, vs1, d1, ds1, p1, q1, rfl, rfl, rfl, h1, r1⟩ := trodAll_cons r0
  obtain ⟨rfl, rfl, rfl⟩ := trodAll_nil r1
  obtain rfl : args = #[v0, v1] := by cases args; simp_all
  obtain ⟨rfl, rfl⟩ := trodVars_none hV
  have k0 := h0
  have lt0 : ∀ x ∈ p0, x.block < W.heap.size := by obtain ⟨m, hm⟩ := k0; exact DataW.trod_lt m _ _ _ hm
  obtain ⟨s, rfl, -, -, ws⟩ := open_string Tryd.underlying9 (hval 0 9 v0 rfl rfl) h0
  have k1 := h1
  have lt1 : ∀ x ∈ p1, x.block < W.heap.size := by obtain ⟨m, hm⟩ := k1; exact DataW.trod_lt m _ _ _ hm
  obtain ⟨at_, rfl, -, -, wat_⟩ := open_int Tryd.underlying3 (hval 1 3 v1 rfl rfl) h1
  clear hA0 hval0
  refine (walk s ws at_ wat_ W hT).mono fun e W' ⟨he, bel⟩ => ?_
  subst he
  exact ⟨_, rfl, _, _, _, [], _, [], hW', trodAll_mk1 (shut_bool Tryd.underlying4 _), (trodAll_cons_mk (Below.trod laidOut (by kernel_rfl) (of_decide_eq_true (by kernel_rfl)) k0 bel lt0) (trodAll_cons_mk (Below.trod laidOut (by kernel_rfl) (of_decide_eq_true (by kernel_rfl)) k1 bel lt1) trodAll_mk0)), rfl, bel.frame _, fun h => by cases h⟩

theorem over : Rows.numeralScansRow.holds Tryd.pinned (OpenSpec.ofChange Rows.numeralScansSpec) :=
  OpenClaim.holds_of_wide 5 Tryd.f5 rfl rfl rfl rfl rfl rfl rfl ⟨rfl, rfl, rfl, rfl, rfl⟩ rfl rfl rfl rfl rfl (by kernel_rfl) Tryd.func5 (by kernel_rfl)
    (of_decide_eq_true (by kernel_rfl)) (by unfold Func.isWrapper; first | (rw [if_pos (by decide +kernel)]; kernel_rfl) | (rw [if_neg (by decide +kernel)]; exact ⟨rfl, rfl⟩))
    (fun os started H enc _ => lifted os started H enc)

/-- The given statement: the row, tied. -/
theorem proved : Rows.NumeralScansCardSaid :=
  Claim7.holds_tied_plain_at .later [] [.data, .data, .data, .data, .pinned] true _ false over (fun _ h => by cases h) (by kernel_rfl) (fun _ h => by cases h) numeralScans_row_tie rfl ⟨rfl, rfl⟩ (by kernel_rfl) rfl
    (fun f fn hf hfn => by
      obtain rfl : f = 5 := Option.some.inj ((show Tryd.prog.funcNamed Rows.numeralScansRow.func = some 5 by kernel_rfl).symm.trans hf) |>.symm
      obtain rfl : fn = Tryd.f5 := (Option.some.inj (Tryd.func5.symm.trans hfn)).symm
      exact ⟨by kernel_rfl, fun j t ht => by
        rw [Tryd.params5] at ht
        have hm : t ∈ [9, 3] := by simpa using Array.mem_of_getElem? ht
        have hall : ([9, 3].all fun u => !Tryd.prog.wantsStandIn u) = true := by kernel_rfl
        exact (show Tryd.prog.wantsStandIn t = false by simpa using List.all_eq_true.1 hall t hm)⟩)
    (by kernel_rfl)
#print axioms proved
end Go.Proofs.YtjpegcaooamhfaaDoor.numeralScans
