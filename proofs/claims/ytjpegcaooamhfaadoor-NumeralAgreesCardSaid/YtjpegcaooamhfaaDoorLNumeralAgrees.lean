/- The law NumeralAgrees holds: for every input it returns true, and each argument reads as it did, where the library's tables read as its text lays them. No other conditions. -/
import Derived.Test.YtjpegcaooamhfaaDoorNumAw
import Derived.Test.YtjpegcaooamhfaaDoorNumPlain6
import Derived.Test.YtjpegcaooamhfaaDoorLaid
import Derived.Test.YtjpegcaooamhfaaDoorCards
import Derived.Test.YtjpegcaooamhfaaDoorTie
namespace Go.Proofs.YtjpegcaooamhfaaDoor.numeralAgrees
open Go.ChangeShapes Go.WideShapes Go.ChangeAt Go.RowKit Go.Joins
open Go.ChangeMaps (open_string shut_string)
set_option linter.unusedVariables false

theorem long_any (s : ByteArray) (w : World) : Calls Tryd.prog 15 #[.string s] w fun e w' => e = .returned (.bool (decide (2000 < (s.size : Int)))) ∧ w = w' := by
  go_enter Tryd.func15, Tryd.ntmps15
  go_wp2
  go_returns
  exact ⟨rfl, rfl⟩

set_option maxHeartbeats 4000000 in
set_option maxRecDepth 100000 in
theorem walk (before : ByteArray) (wbefore : before.size ≤ maxLen) (s : ByteArray) (ws : s.size ≤ maxLen) (w : World) (hT : Tabs w) :
    Calls Tryd.prog 8 #[.string before, .string s] w fun e w' => e = .returned (.bool true) ∧ Below w.heap.size w w' := by
  have hs1 : s.size ≤ 9223372036854775807 := by unfold maxLen at ws; omega
  have HT := Lib.hid hT
  clear hT
  have HA : Hid (Below w.heap.size w w) := Below.refl _ _
  by_cases hl : 2000 < s.size ∨ 2000 < before.size
  · have hl2 : (2000 < s.size) ∨ (¬ 2000 < s.size ∧ 2000 < before.size) := by omega
    clear hl
    rcases hl2 with hl | ⟨hl, hl2⟩
    all_goals
      go_enter Tryd.func8, Tryd.ntmps8
      go_wp2_with (first | (go_at_call 15; refine (long_any _ _).mono ?_; rintro e w2 ⟨rfl, rfl⟩))
      refine (awake_any _ (HT.out.later ?_)).mono ?_
      · have h0 := HA.out
        have hs := h0.size
        (repeat' (first | (with_reducible exact Below.refl _ _) | (with_reducible assumption) | (with_reducible refine Below.alloc ?_ ?_ _) | (with_reducible refine below_drewN ?_ _) | (with_reducible refine Below.drew ?_) | (with_reducible refine Below.setCell ?_ ?_ _) | (with_reducible refine below_via (by assumption) ?_ ?_) | (with_reducible refine below_via (later_below _) ?_ ?_) | (with_reducible exact Nat.le_refl _) | omega | (simp; omega) | (simp; done)))
      rintro e wz ⟨rfl, hb⟩
      have HA : Hid (Below w.heap.size w wz) := by
        have h0 := HA.out
        have hs := h0.size
        show Below _ _ _
        (repeat' (first | (with_reducible exact Below.refl _ _) | (with_reducible assumption) | (with_reducible refine Below.alloc ?_ ?_ _) | (with_reducible refine below_drewN ?_ _) | (with_reducible refine Below.drew ?_) | (with_reducible refine Below.setCell ?_ ?_ _) | (with_reducible refine below_via (by assumption) ?_ ?_) | (with_reducible refine below_via (later_below _) ?_ ?_) | (with_reducible exact Nat.le_refl _) | omega | (simp; omega) | (simp; done)))
      clear hb
      go_wp2_with fail -- end
      go_returns
      exact ⟨rfl, HA.out⟩
  · obtain ⟨hl1, hl2⟩ : s.size ≤ 2000 ∧ before.size ≤ 2000 := by omega
    clear hl
    have hls : s.data.toList.length = s.size := by simp
    have hlb : before.data.toList.length = before.size := by simp
    have hsh := scan_shift before.data.toList s.data.toList
    have hbd := scan_bd s.data.toList
    have her := scan_err s.data.toList
    have hps := fun a b => parse_scan (l := s.data.toList) a b
    have c1 := fun w => scan_any s 0 hs1 w
    have c2 := fun w => scan_any (before ++ s) before.size (by simp; omega) w
    have c3 := fun w => parse_any s hs1 w
    have e2 : (before ++ s).data.toList = before.data.toList ++ s.data.toList := by simp
    rw [e2, ← hlb, hsh] at c2
    rw [hlb] at c2
    obtain ⟨⟨P, Q, K, E⟩, hsc⟩ : ∃ t, scanL s.data.toList 0 = t := ⟨_, rfl⟩
    rw [hsc] at hbd her hps c1 c2
    simp only [] at hbd her hps c1 c2
    rw [hls] at hbd hps
    obtain ⟨k1, k2⟩ := hbd
    clear hsh hsc e2 hls hlb
    by_cases hE : E = 0
    · subst hE
      rw [if_pos rfl] at c2
      clear her
      have HC1 : Hid (∀ w', Calls Tryd.prog 18 #[.string s, .int .i64 0] w' fun e w'' => e = .returned (.tuple #[.agg #[.int .i64 P, .int .i64 Q], .int .i64 K, .int .i64 0]) ∧ Below w'.heap.size w' w'') := c1
      have HC2 : Hid (∀ w', Calls Tryd.prog 18 #[.string (before ++ s), .int .i64 before.size] w' fun e w'' => e = .returned (.tuple #[.agg #[.int .i64 P, .int .i64 Q], .int .i64 (K + before.size), .int .i64 0]) ∧ Below w'.heap.size w' w'') := c2
      clear c1 c2
      by_cases hK : K = s.size
      · have hp := hps rfl hK
        rw [hp] at c3
        have HC3 : Hid (∀ w', Calls Tryd.prog 16 #[.string s] w' fun e w'' => e = .returned (.tuple #[.agg #[.int .i64 P, .int .i64 Q], .int .i64 0]) ∧ Below w'.heap.size w' w'') := c3
        clear c3 hp hps
        subst hK
        go_enter Tryd.func8, Tryd.ntmps8
        go_wp2_with (first | (go_at_call 15; refine (long_any _ _).mono ?_; rintro e w2 ⟨rfl, rfl⟩))
        refine (HC1.out _).mono ?_
        rintro e w1 ⟨rfl, hb⟩
        have H1 := Lib.hid (keep2_new w1 (.int .i64 P) (.int .i64 Q) 23)
        have HA : Hid (Below w.heap.size w w1) := by
          have h0 := HA.out
          have hs := h0.size
          show Below _ _ _
          (repeat' (first | (with_reducible exact Below.refl _ _) | (with_reducible assumption) | (with_reducible refine Below.alloc ?_ ?_ _) | (with_reducible refine below_drewN ?_ _) | (with_reducible refine Below.drew ?_) | (with_reducible refine Below.setCell ?_ ?_ _) | (with_reducible refine below_via (by assumption) ?_ ?_) | (with_reducible refine below_via (later_below _) ?_ ?_) | (with_reducible exact Nat.le_refl _) | omega | (simp; omega) | (simp; done)))
        clear hb
        go_wp2_with fail -- Scan2
        refine (HC2.out _).mono ?_
        rintro e w2 ⟨rfl, hb⟩
        have H1 := Lib.hid (keep2 hb H1.out)
        have H2 := Lib.hid (keep2_new w2 (.int .i64 P) (.int .i64 Q) 23)
        have H1 := Lib.hid (keep2_alloc (.cells #[.int .i64 P, .int .i64 Q] 23) H1.out)
        have HA : Hid (Below w.heap.size w w2) := by
          have h0 := HA.out
          have hs := h0.size
          show Below _ _ _
          (repeat' (first | (with_reducible exact Below.refl _ _) | (with_reducible assumption) | (with_reducible refine Below.alloc ?_ ?_ _) | (with_reducible refine below_drewN ?_ _) | (with_reducible refine Below.drew ?_) | (with_reducible refine Below.setCell ?_ ?_ _) | (with_reducible refine below_via (by assumption) ?_ ?_) | (with_reducible refine below_via (later_below _) ?_ ?_) | (with_reducible exact Nat.le_refl _) | omega | (simp; omega) | (simp; done)))
        clear hb
        obtain ⟨H10, H11⟩ := H1.out
        obtain ⟨H20, H21⟩ := H2.out
        go_wp2_with fail -- Parse
        refine (HC3.out _).mono ?_
        rintro e w3 ⟨rfl, hb⟩
        have H1 := Lib.hid (keep2 hb H1.out)
        have H3 := Lib.hid (keep2_new w3 (.int .i64 P) (.int .i64 Q) 23)
        have H1 := Lib.hid (keep2_alloc (.cells #[.int .i64 P, .int .i64 Q] 23) H1.out)
        have HA : Hid (Below w.heap.size w w3) := by
          have h0 := HA.out
          have hs := h0.size
          show Below _ _ _
          (repeat' (first | (with_reducible exact Below.refl _ _) | (with_reducible assumption) | (with_reducible refine Below.alloc ?_ ?_ _) | (with_reducible refine below_drewN ?_ _) | (with_reducible refine Below.drew ?_) | (with_reducible refine Below.setCell ?_ ?_ _) | (with_reducible refine below_via (by assumption) ?_ ?_) | (with_reducible refine below_via (later_below _) ?_ ?_) | (with_reducible exact Nat.le_refl _) | omega | (simp; omega) | (simp; done)))
        clear hb
        clear H10 H11 H20 H21
        obtain ⟨H10, H11⟩ := H1.out
        obtain ⟨H30, H31⟩ := H3.out
        go_wp2_with fail -- awake
        refine (awake_any _ (HT.out.later ?_)).mono ?_
        · have h0 := HA.out
          have hs := h0.size
          (repeat' (first | (with_reducible exact Below.refl _ _) | (with_reducible assumption) | (with_reducible refine Below.alloc ?_ ?_ _) | (with_reducible refine below_drewN ?_ _) | (with_reducible refine Below.drew ?_) | (with_reducible refine Below.setCell ?_ ?_ _) | (with_reducible refine below_via (by assumption) ?_ ?_) | (with_reducible refine below_via (later_below _) ?_ ?_) | (with_reducible exact Nat.le_refl _) | omega | (simp; omega) | (simp; done)))
        rintro e wz ⟨rfl, hb⟩
        have HA : Hid (Below w.heap.size w wz) := by
          have h0 := HA.out
          have hs := h0.size
          show Below _ _ _
          (repeat' (first | (with_reducible exact Below.refl _ _) | (with_reducible assumption) | (with_reducible refine Below.alloc ?_ ?_ _) | (with_reducible refine below_drewN ?_ _) | (with_reducible refine Below.drew ?_) | (with_reducible refine Below.setCell ?_ ?_ _) | (with_reducible refine below_via (by assumption) ?_ ?_) | (with_reducible refine below_via (later_below _) ?_ ?_) | (with_reducible exact Nat.le_refl _) | omega | (simp; omega) | (simp; done)))
        clear hb
        go_wp2_with fail -- end
        go_returns
        exact ⟨rfl, HA.out⟩
      · have hK2 : (K == (s.size : Int)) = false := by simpa using hK
        clear hps c3
        go_enter Tryd.func8, Tryd.ntmps8
        go_wp2_with (first | (go_at_call 15; refine (long_any _ _).mono ?_; rintro e w2 ⟨rfl, rfl⟩))
        refine (HC1.out _).mono ?_
        rintro e w1 ⟨rfl, hb⟩
        have H1 := Lib.hid (keep2_new w1 (.int .i64 P) (.int .i64 Q) 23)
        have HA : Hid (Below w.heap.size w w1) := by
          have h0 := HA.out
          have hs := h0.size
          show Below _ _ _
          (repeat' (first | (with_reducible exact Below.refl _ _) | (with_reducible assumption) | (with_reducible refine Below.alloc ?_ ?_ _) | (with_reducible refine below_drewN ?_ _) | (with_reducible refine Below.drew ?_) | (with_reducible refine Below.setCell ?_ ?_ _) | (with_reducible refine below_via (by assumption) ?_ ?_) | (with_reducible refine below_via (later_below _) ?_ ?_) | (with_reducible exact Nat.le_refl _) | omega | (simp; omega) | (simp; done)))
        clear hb
        go_wp2_with fail -- Scan2
        refine (HC2.out _).mono ?_
        rintro e w2 ⟨rfl, hb⟩
        have H1 := Lib.hid (keep2 hb H1.out)
        have H2 := Lib.hid (keep2_new w2 (.int .i64 P) (.int .i64 Q) 23)
        have H1 := Lib.hid (keep2_alloc (.cells #[.int .i64 P, .int .i64 Q] 23) H1.out)
        have HA : Hid (Below w.heap.size w w2) := by
          have h0 := HA.out
          have hs := h0.size
          show Below _ _ _
          (repeat' (first | (with_reducible exact Below.refl _ _) | (with_reducible assumption) | (with_reducible refine Below.alloc ?_ ?_ _) | (with_reducible refine below_drewN ?_ _) | (with_reducible refine Below.drew ?_) | (with_reducible refine Below.setCell ?_ ?_ _) | (with_reducible refine below_via (by assumption) ?_ ?_) | (with_reducible refine below_via (later_below _) ?_ ?_) | (with_reducible exact Nat.le_refl _) | omega | (simp; omega) | (simp; done)))
        clear hb
        obtain ⟨H10, H11⟩ := H1.out
        obtain ⟨H20, H21⟩ := H2.out
        go_wp2_with fail -- awake
        refine (awake_any _ (HT.out.later ?_)).mono ?_
        · have h0 := HA.out
          have hs := h0.size
          (repeat' (first | (with_reducible exact Below.refl _ _) | (with_reducible assumption) | (with_reducible refine Below.alloc ?_ ?_ _) | (with_reducible refine below_drewN ?_ _) | (with_reducible refine Below.drew ?_) | (with_reducible refine Below.setCell ?_ ?_ _) | (with_reducible refine below_via (by assumption) ?_ ?_) | (with_reducible refine below_via (later_below _) ?_ ?_) | (with_reducible exact Nat.le_refl _) | omega | (simp; omega) | (simp; done)))
        rintro e wz ⟨rfl, hb⟩
        have HA : Hid (Below w.heap.size w wz) := by
          have h0 := HA.out
          have hs := h0.size
          show Below _ _ _
          (repeat' (first | (with_reducible exact Below.refl _ _) | (with_reducible assumption) | (with_reducible refine Below.alloc ?_ ?_ _) | (with_reducible refine below_drewN ?_ _) | (with_reducible refine Below.drew ?_) | (with_reducible refine Below.setCell ?_ ?_ _) | (with_reducible refine below_via (by assumption) ?_ ?_) | (with_reducible refine below_via (later_below _) ?_ ?_) | (with_reducible exact Nat.le_refl _) | omega | (simp; omega) | (simp; done)))
        clear hb
        go_wp2_with fail -- end
        go_returns
        exact ⟨rfl, HA.out⟩
    · have her2 := her hE
      obtain ⟨rfl, rfl, rfl⟩ : P = 0 ∧ Q = 0 ∧ K = 0 := by simp only [Prod.mk.injEq] at her2; exact ⟨her2.1, her2.2.1, her2.2.2.1⟩
      rw [if_neg hE] at c2
      have HC1 : Hid (∀ w', Calls Tryd.prog 18 #[.string s, .int .i64 0] w' fun e w'' => e = .returned (.tuple #[.agg #[.int .i64 0, .int .i64 0], .int .i64 0, .int .i64 E]) ∧ Below w'.heap.size w' w'') := c1
      have HC2 : Hid (∀ w', Calls Tryd.prog 18 #[.string (before ++ s), .int .i64 before.size] w' fun e w'' => e = .returned (.tuple #[.agg #[.int .i64 0, .int .i64 0], .int .i64 0, .int .i64 E]) ∧ Below w'.heap.size w' w'') := c2
      have hE0 : (E != 0) = true := by simpa using hE
      have hE1 : (E == 0) = false := by simpa using hE
      clear c1 c2 c3 her her2 hps hE
      go_enter Tryd.func8, Tryd.ntmps8
      go_wp2_with (first | (go_at_call 15; refine (long_any _ _).mono ?_; rintro e w2 ⟨rfl, rfl⟩))
      refine (HC1.out _).mono ?_
      rintro e w1 ⟨rfl, hb⟩
      have H1 := Lib.hid (keep2_new w1 (.int .i64 0) (.int .i64 0) 23)
      have HA : Hid (Below w.heap.size w w1) := by
        have h0 := HA.out
        have hs := h0.size
        show Below _ _ _
        (repeat' (first | (with_reducible exact Below.refl _ _) | (with_reducible assumption) | (with_reducible refine Below.alloc ?_ ?_ _) | (with_reducible refine below_drewN ?_ _) | (with_reducible refine Below.drew ?_) | (with_reducible refine Below.setCell ?_ ?_ _) | (with_reducible refine below_via (by assumption) ?_ ?_) | (with_reducible refine below_via (later_below _) ?_ ?_) | (with_reducible exact Nat.le_refl _) | omega | (simp; omega) | (simp; done)))
      clear hb
      go_wp2_with fail -- Scan2
      refine (HC2.out _).mono ?_
      rintro e w2 ⟨rfl, hb⟩
      have H1 := Lib.hid (keep2 hb H1.out)
      have H2 := Lib.hid (keep2_new w2 (.int .i64 0) (.int .i64 0) 23)
      have H1 := Lib.hid (keep2_alloc (.cells #[.int .i64 0, .int .i64 0] 23) H1.out)
      have HA : Hid (Below w.heap.size w w2) := by
        have h0 := HA.out
        have hs := h0.size
        show Below _ _ _
        (repeat' (first | (with_reducible exact Below.refl _ _) | (with_reducible assumption) | (with_reducible refine Below.alloc ?_ ?_ _) | (with_reducible refine below_drewN ?_ _) | (with_reducible refine Below.drew ?_) | (with_reducible refine Below.setCell ?_ ?_ _) | (with_reducible refine below_via (by assumption) ?_ ?_) | (with_reducible refine below_via (later_below _) ?_ ?_) | (with_reducible exact Nat.le_refl _) | omega | (simp; omega) | (simp; done)))
      clear hb
      obtain ⟨H10, H11⟩ := H1.out
      obtain ⟨H20, H21⟩ := H2.out
      go_wp2_with fail -- awake
      refine (awake_any _ (HT.out.later ?_)).mono ?_
      · have h0 := HA.out
        have hs := h0.size
        (repeat' (first | (with_reducible exact Below.refl _ _) | (with_reducible assumption) | (with_reducible refine Below.alloc ?_ ?_ _) | (with_reducible refine below_drewN ?_ _) | (with_reducible refine Below.drew ?_) | (with_reducible refine Below.setCell ?_ ?_ _) | (with_reducible refine below_via (by assumption) ?_ ?_) | (with_reducible refine below_via (later_below _) ?_ ?_) | (with_reducible exact Nat.le_refl _) | omega | (simp; omega) | (simp; done)))
      rintro e wz ⟨rfl, hb⟩
      have HA : Hid (Below w.heap.size w wz) := by
        have h0 := HA.out
        have hs := h0.size
        show Below _ _ _
        (repeat' (first | (with_reducible exact Below.refl _ _) | (with_reducible assumption) | (with_reducible refine Below.alloc ?_ ?_ _) | (with_reducible refine below_drewN ?_ _) | (with_reducible refine Below.drew ?_) | (with_reducible refine Below.setCell ?_ ?_ _) | (with_reducible refine below_via (by assumption) ?_ ?_) | (with_reducible refine below_via (later_below _) ?_ ?_) | (with_reducible exact Nat.le_refl _) | omega | (simp; omega) | (simp; done)))
      clear hb
      go_wp2_with fail -- end
      go_returns
      exact ⟨rfl, HA.out⟩

set_option maxRecDepth 100000 in
theorem lifted (os : Os) (started : os.Started) (H : Type) (enc : TypeId × Value → H) :
    ReturnsInHanded {} Tryd.checked os 8 .any (fun w args => (Rows.numeralAgreesSpec.pre enc Tryd.prog Tryd.f8 Rows.numeralAgreesRow.domain false w args ∧ laidMetH Tryd.prog laidS w) ∧ sizedMet enc Tryd.prog Tryd.f8 (OpenSpec.ofChange Rows.numeralAgreesSpec) false w args) (Rows.numeralAgreesSpec.post enc Tryd.prog Tryd.f8 false true false false) := by
  refine returnsInHanded_of_change_and (C := Tryd.checked) (X := fun w _ => laidMetH Tryd.prog laidS w) (fun _ _ _ hh h => h.of_heap hh) own started (by kernel_rfl) Tryd.func8
    (ChangeSpec.witness_shaped (enc := enc) (C := Tryd.checked) (os := os) (X := fun w _ => laidMetH Tryd.prog laidS w) false (World.laidAll Tryd.prog os laidS) #[.string ⟨#[]⟩, .string ⟨#[]⟩] 8 (World.laidAll_os _ _ _) (start_shaped os) (by kernel_rfl) (by kernel_rfl) (by kernel_rfl) (start_met os _)) ?_
  intro W base args ds gs before hval0 hW hcnd _ hL _
  have hT := laid_tabs hL
  have hval : ∀ (j : Nat) t v, Tryd.f8.params[j]? = some t → args[j]? = some v → Value.okWide Tryd.prog W .any base t v := hval0
  have hW' := hW
  obtain ⟨p, q, hA0, hV, rfl, hfz, hnd⟩ := hW
  have hA : DataW.TrodAll enc Tryd.prog W 0 (fun _ => true) true Tryd.f8.params.toList args.toList ds p := hA0
  rw [Tryd.params8] at hA hval
  obtain ⟨v0, vs0, d0, ds0, p0, q0, hargs, rfl, rfl, h0, r0⟩ := trodAll_cons hA
  obtain ⟨v1, vs1, d1, ds1, p1, q1, rfl, rfl, rfl, h1, r1⟩ := trodAll_cons r0
  obtain ⟨rfl, rfl, rfl⟩ := trodAll_nil r1
  obtain rfl : args = #[v0, v1] := by cases args; simp_all
  obtain ⟨rfl, rfl⟩ := trodVars_none hV
  have k0 := h0
  have lt0 : ∀ x ∈ p0, x.block < W.heap.size := by obtain ⟨m, hm⟩ := k0; exact DataW.trod_lt m _ _ _ hm
  obtain ⟨before, rfl, -, -, wbefore⟩ := open_string Tryd.underlying9 (hval 0 9 v0 rfl rfl) h0
  have k1 := h1
  have lt1 : ∀ x ∈ p1, x.block < W.heap.size := by obtain ⟨m, hm⟩ := k1; exact DataW.trod_lt m _ _ _ hm
  obtain ⟨s, rfl, -, -, ws⟩ := open_string Tryd.underlying9 (hval 1 9 v1 rfl rfl) h1
  clear hA0 hval0
  refine (walk before wbefore s ws W hT).mono fun e W' ⟨he, bel⟩ => ?_
  subst he
  exact ⟨_, rfl, _, _, _, [], _, [], hW', trodAll_mk1 (shut_bool Tryd.underlying4 _), (trodAll_cons_mk (Below.trod laidOut (by kernel_rfl) (of_decide_eq_true (by kernel_rfl)) k0 bel lt0) (trodAll_cons_mk (Below.trod laidOut (by kernel_rfl) (of_decide_eq_true (by kernel_rfl)) k1 bel lt1) trodAll_mk0)), rfl, bel.frame _, fun h => by cases h⟩

theorem over : Rows.numeralAgreesRow.holds Tryd.pinned (OpenSpec.ofChange Rows.numeralAgreesSpec) :=
  OpenClaim.holds_of_wide 8 Tryd.f8 rfl rfl rfl rfl rfl rfl rfl ⟨rfl, rfl, rfl, rfl, rfl⟩ rfl rfl rfl rfl rfl (by kernel_rfl) Tryd.func8 (by kernel_rfl)
    (of_decide_eq_true (by kernel_rfl)) (by unfold Func.isWrapper; first | (rw [if_pos (by decide +kernel)]; kernel_rfl) | (rw [if_neg (by decide +kernel)]; exact ⟨rfl, rfl⟩))
    (fun os started H enc _ => lifted os started H enc)

/-- The given statement: the row, tied. -/
theorem proved : Rows.NumeralAgreesCardSaid :=
  Claim7.holds_tied_plain_at .later [] [.data, .data, .data, .data, .pinned] true _ false over (fun _ h => by cases h) (by kernel_rfl) (fun _ h => by cases h) numeralAgrees_row_tie rfl ⟨rfl, rfl⟩ (by kernel_rfl) rfl
    (fun f fn hf hfn => by
      obtain rfl : f = 8 := Option.some.inj ((show Tryd.prog.funcNamed Rows.numeralAgreesRow.func = some 8 by kernel_rfl).symm.trans hf) |>.symm
      obtain rfl : fn = Tryd.f8 := (Option.some.inj (Tryd.func8.symm.trans hfn)).symm
      exact ⟨by kernel_rfl, fun j t ht => by
        rw [Tryd.params8] at ht
        have hm : t ∈ [9, 9] := by simpa using Array.mem_of_getElem? ht
        have hall : ([9, 9].all fun u => !Tryd.prog.wantsStandIn u) = true := by kernel_rfl
        exact (show Tryd.prog.wantsStandIn t = false by simpa using List.all_eq_true.1 hall t hm)⟩)
    (by kernel_rfl)
#print axioms proved
end Go.Proofs.YtjpegcaooamhfaaDoor.numeralAgrees
