/- Keywords and names without the scanner: taken from the lexer part's texts. -/
import Derived.Test.YtplphejillkdeaaGreatDoorMLxW3
import Derived.Laws.Rows
import Derived.Deep.DeepCutAuto
import Derived.Deep.QuietTactic
import Derived.BigQuiet
import Derived.Deep.LoopGhost
import Derived.Deep.RegionHeld3
import Derived.Deep.AppendLies
import Derived.Deep.RegionLaw
namespace Go.Proofs.YtplphejillkdeaaGreatDoor
open Go.RowKit Go.Instr
set_option linter.unusedVariables false

set_option maxHeartbeats 1000000 in
theorem key_yes (s : ByteArray) (h : keyB s.data.toList = true) (w : World) : Calls Tryz.prog 16 #[.string s] w fun e w' => e = .returned (.bool true) ∧ w = w' := by
  have hs : s.toList = s.data.toList := Lib.toList_data s
  unfold keyB at h
  rw [List.contains_iff_mem] at h
  obtain ⟨l, hl⟩ : ∃ l, s.data.toList = l := ⟨_, rfl⟩
  rw [hl] at h hs
  have HS := Lib.hid hl
  clear hl
  unfold keys at h
  simp only [List.mem_cons, List.not_mem_nil, or_false] at h
  rcases h with rfl | rfl | rfl | rfl | rfl | rfl | rfl | rfl | rfl | rfl | rfl | rfl | rfl | rfl | rfl | rfl | rfl | rfl | rfl | rfl | rfl | rfl
  all_goals
    go_enter Tryz.func16, Tryz.ntmps16
    go_wp2
    go_returns
    exact ⟨rfl, rfl⟩
set_option maxHeartbeats 1000000 in
theorem key_no (s : ByteArray) (h : keyB s.data.toList = false) (w : World) : Calls Tryz.prog 16 #[.string s] w fun e w' => e = .returned (.bool false) ∧ w = w' := by
  have hs : s.toList = s.data.toList := Lib.toList_data s
  unfold keyB keys at h
  simp only [List.contains_cons, List.contains_nil, Bool.or_false, Bool.or_eq_false_iff] at h
  rw [← hs] at h
  obtain ⟨k0, k1, k2, k3, k4, k5, k6, k7, k8, k9, k10, k11, k12, k13, k14, k15, k16, k17, k18, k19, k20, k21⟩ := h
  clear hs
  go_enter Tryz.func16, Tryz.ntmps16
  go_wp2
  go_returns
  exact ⟨rfl, rfl⟩
def nameB (l : List UInt8) : Bool := match l with | [] => false | c :: _ => decide (l.length ≤ 40) && (!keyB l && (letB c && l.all wordB))
theorem nameB_cons (c : UInt8) (t : List UInt8) : nameB (c :: t) = (decide ((c :: t).length ≤ 40) && (!keyB (c :: t) && (letB c && (c :: t).all wordB))) := rfl
theorem let_dig : ∀ c : Fin 256, wordB (UInt8.ofNat c.val) = true → (letB (UInt8.ofNat c.val) = !digB (UInt8.ofNat c.val)) := by decide +kernel
theorem let_of_word {c : UInt8} (h : wordB c = true) : letB c = !digB c := by
  have := let_dig ⟨c.toNat, UInt8.toNat_lt c⟩ (by simpa using h)
  simpa using this
theorem spanN_all (p : UInt8 → Bool) (l : List UInt8) : decide (spanN p l = l.length) = l.all p := by
  induction l with
  | nil => rfl
  | cons c l ih =>
    cases hc : p c
    · rw [spanN_no hc, List.all_cons, hc]; rfl
    · rw [spanN_yes hc, List.all_cons, hc, ← ih]; simp
theorem nameB_ref (c : UInt8) (t : List UInt8) : nameB (c :: t) = (decide ((c :: t).length ≤ 40) && (!digB c && (!keyB (c :: t) && (c :: t).all wordB))) := by
  rw [nameB_cons]
  cases ha : (c :: t).all wordB
  · simp
  · have hw : wordB c = true := by rw [List.all_cons] at ha; simp at ha; exact ha.1
    rw [let_of_word hw]
    cases decide ((c :: t).length ≤ 40) <;> cases digB c <;> cases keyB (c :: t) <;> rfl
end Go.Proofs.YtplphejillkdeaaGreatDoor

/- Names and keywords: of the program and of the reference. -/
namespace Go.Proofs.YtplphejillkdeaaGreatDoor
open Go.RowKit Go.Instr
set_option linter.unusedVariables false

theorem IsTest.askA {w : World} {v : Value} {p : UInt8 → Bool} {c : UInt8} {q : Bool} (h : IsTest w v p) (hq : p c = q) :
    ∃ g lb, v = .func (.func g) #[] lb ∧ (∀ args u, (callFunc g args).run Tryz.prog u = .ok (.enter g args) u) ∧ Hid (∀ W : World, Below w.heap.size w W → Calls Tryz.prog g (#[.int .u8 c.toNat] ++ lb) W fun e W' => e = .returned (.bool q) ∧ Below W.heap.size W W') := by
  obtain ⟨g, lb, h1, h2, h3⟩ := h
  exact ⟨g, lb, h1, h2, fun W hb => by have := h3 W c hb; rw [hq] at this; exact this⟩
theorem byte_empty {s : ByteArray} (h : s.size = 0) : s = ⟨#[]⟩ := by
  have e : s.data.toList = [] := List.eq_nil_of_length_eq_zero (by simpa using h)
  exact mkS_ext e
theorem size_len (s : ByteArray) : s.data.toList.length = s.size := by simp
theorem drop_all (s : ByteArray) (h : 0 < s.size) : s.data.toList = s[0]'h :: s.data.toList.drop 1 := by
  have := drop_get s 0 h
  simpa using this

set_option maxHeartbeats 8000000 in
set_option maxRecDepth 100000 in
theorem name_any (s : ByteArray) (w : World) (hs : s.size ≤ 9223372036854775807) :
    Calls Tryz.prog 6 #[.string s] w fun e w' => e = .returned (.bool (nameB s.data.toList)) ∧ Below w.heap.size w w' := by
  by_cases h0 : s.size = 0
  · obtain rfl := byte_empty h0
    clear h0
    go_enter Tryz.func6, Tryz.ntmps6
    go_wp2_with fail
    go_quiet (fail)
    go_wp2_with fail
    go_returns
    exact ⟨rfl, by (repeat' (first | (with_reducible exact Below.refl _ _) | (with_reducible assumption) | (with_reducible refine Below.alloc ?_ ?_ _) | (with_reducible refine below_drewN ?_ _) | (with_reducible refine Below.drew ?_) | (with_reducible refine Below.setCell ?_ ?_ _) | (with_reducible refine below_via (by assumption) ?_ ?_) | (with_reducible refine below_via (later_below _) ?_ ?_) | (with_reducible exact Nat.le_refl _) | omega | (simp; omega) | (simp; done)))⟩
  · have hpos : 0 < s.size := by omega
    have hcons := drop_all s hpos
    have hN := nameB_cons (s[0]'hpos) (s.data.toList.drop 1)
    rw [← hcons, size_len] at hN
    have e1 : s.toList.isEmpty = false := by
      rw [Lib.toList_data, hcons]; rfl
    have e2 : ¬ s.toList = [] := by
      rw [Lib.toList_data, hcons]; simp
    have e3 : (s.toList == []) = false := by simpa using e2
    by_cases h40 : 40 < s.size
    · have d1 : decide (40 < (s.size : Int)) = true := by simp; omega
      have HF : Hid (nameB s.data.toList = false) := by show _ = _; rw [hN, decide_eq_false (by omega)]; rfl
      clear hN hcons h40
      go_enter Tryz.func6, Tryz.ntmps6
      go_wp2_with fail
      go_quiet (fail)
      go_wp2_with fail
      go_returns
      exact ⟨by rw [HF.out]; rfl, by (repeat' (first | (with_reducible exact Below.refl _ _) | (with_reducible assumption) | (with_reducible refine Below.alloc ?_ ?_ _) | (with_reducible refine below_drewN ?_ _) | (with_reducible refine Below.drew ?_) | (with_reducible refine Below.setCell ?_ ?_ _) | (with_reducible refine below_via (by assumption) ?_ ?_) | (with_reducible refine below_via (later_below _) ?_ ?_) | (with_reducible exact Nat.le_refl _) | omega | (simp; omega) | (simp; done)))⟩
    · have d1 : decide (40 < (s.size : Int)) = false := by simp; omega
      rw [decide_eq_true (by omega), Bool.true_and] at hN
      cases hk : keyB s.data.toList
      · have HK : Hid (∀ w', Calls Tryz.prog 16 #[.string s] w' fun e w'' => e = .returned (.bool false) ∧ w' = w'') := fun w' => key_no s hk w'
        rw [hk, Bool.not_false, Bool.true_and] at hN
        obtain ⟨c, hc⟩ : ∃ c, s[0]'hpos = c := ⟨_, rfl⟩
        rw [hc] at hN
        clear hk
        cases hl : letB c
        · have HL := Lib.hid hl
          have HF : Hid (nameB s.data.toList = false) := by show _ = _; rw [hN, hl]; rfl
          clear hl hN hcons h40
          go_enter Tryz.func6, Tryz.ntmps6
          go_wp2_with fail
          go_cut [20] (fun b20 wx => b20 = .bool true ∧ Hid (Below w.heap.size w wx))
          case first =>
            go_wp2_with fail
            go_region_with (first | (go_at_call 16; (with_reducible refine (HK.out _).mono ?_); rintro e wK ⟨rfl, rfl⟩) | (go_at_call 17; (with_reducible refine (initials_any _).mono ?_); rintro e wA ⟨⟨v1, rfl, hv1⟩, hb⟩; obtain ⟨gA, lA, rfl, hgA, HVA⟩ := hv1.askA HL.out; have hbA := Lib.hid hb; (refine mem hb ?_; intro N hN hz hc hf; (try simp at hN); subst hN)) | (go_at_fn gA; (with_reducible refine (HVA.out _ (by first | exact Below.refl _ _ | exact (Below.refl _ _).drew | (repeat' (first | (with_reducible exact Below.refl _ _) | (with_reducible assumption) | (with_reducible refine Below.alloc ?_ ?_ _) | (with_reducible refine below_drewN ?_ _) | (with_reducible refine Below.drew ?_) | (with_reducible refine Below.setCell ?_ ?_ _) | (with_reducible refine below_via (by assumption) ?_ ?_) | (with_reducible refine below_via (later_below _) ?_ ?_) | (with_reducible exact Nat.le_refl _) | omega | (simp; omega) | (simp; done))))).mono ?_); rintro e wB ⟨rfl, hb⟩; have hbB := Lib.hid hb; (refine mem hb ?_; intro N hN hz hc hf; (try simp at hN); subst hN)))
            all_goals
              go_wp2_with fail
              go_meet
              refine ⟨rfl, ?_⟩
              have h2 := hbA.out
              have h3 := hbB.out
              have h5 := h2.size
              show Below _ _ _
              (repeat' (first | (with_reducible exact Below.refl _ _) | (with_reducible assumption) | (with_reducible refine Below.alloc ?_ ?_ _) | (with_reducible refine below_drewN ?_ _) | (with_reducible refine Below.drew ?_) | (with_reducible refine Below.setCell ?_ ?_ _) | (with_reducible refine below_via (by assumption) ?_ ?_) | (with_reducible refine below_via (later_below _) ?_ ?_) | (with_reducible exact Nat.le_refl _) | omega | (simp; omega) | (simp; done)))
          case rest =>
            obtain ⟨rfl, HB2⟩ := hcut
            go_wp2_with fail
            go_returns
            exact ⟨by rw [HF.out]; rfl, HB2.out⟩
        · have HL := Lib.hid hl
          rw [hl, Bool.true_and, ← spanN_all, size_len] at hN
          have HN := Lib.hid hN
          clear hl hN hcons h40
          go_enter Tryz.func6, Tryz.ntmps6
          go_wp2_with fail
          go_cut [20] (fun b20 wx => b20 = .bool false ∧ Hid (Below w.heap.size w wx))
          case first =>
            go_wp2_with fail
            go_region_with (first | (go_at_call 16; (with_reducible refine (HK.out _).mono ?_); rintro e wK ⟨rfl, rfl⟩) | (go_at_call 17; (with_reducible refine (initials_any _).mono ?_); rintro e wA ⟨⟨v1, rfl, hv1⟩, hb⟩; obtain ⟨gA, lA, rfl, hgA, HVA⟩ := hv1.askA HL.out; have hbA := Lib.hid hb; (refine mem hb ?_; intro N hN hz hc hf; (try simp at hN); subst hN)) | (go_at_fn gA; (with_reducible refine (HVA.out _ (by first | exact Below.refl _ _ | exact (Below.refl _ _).drew | (repeat' (first | (with_reducible exact Below.refl _ _) | (with_reducible assumption) | (with_reducible refine Below.alloc ?_ ?_ _) | (with_reducible refine below_drewN ?_ _) | (with_reducible refine Below.drew ?_) | (with_reducible refine Below.setCell ?_ ?_ _) | (with_reducible refine below_via (by assumption) ?_ ?_) | (with_reducible refine below_via (later_below _) ?_ ?_) | (with_reducible exact Nat.le_refl _) | omega | (simp; omega) | (simp; done))))).mono ?_); rintro e wB ⟨rfl, hb⟩; have hbB := Lib.hid hb; (refine mem hb ?_; intro N hN hz hc hf; (try simp at hN); subst hN)))
            all_goals
              go_wp2_with fail
              go_meet
              refine ⟨rfl, ?_⟩
              have h2 := hbA.out
              have h3 := hbB.out
              have h5 := h2.size
              show Below _ _ _
              (repeat' (first | (with_reducible exact Below.refl _ _) | (with_reducible assumption) | (with_reducible refine Below.alloc ?_ ?_ _) | (with_reducible refine below_drewN ?_ _) | (with_reducible refine Below.drew ?_) | (with_reducible refine Below.setCell ?_ ?_ _) | (with_reducible refine below_via (by assumption) ?_ ?_) | (with_reducible refine below_via (later_below _) ?_ ?_) | (with_reducible exact Nat.le_refl _) | omega | (simp; omega) | (simp; done)))
          case rest =>
            obtain ⟨rfl, HB2⟩ := hcut
            go_wp2_with fail
            refine (wordBytes_any _).mono ?_
            rintro e w3 ⟨⟨v3, rfl, hv3⟩, hb3⟩
            have HV3 := Lib.hid hv3
            have HB3 : Hid (Below w.heap.size w w3) := HB2.out.trans (hb3.mono HB2.out.size)
            clear hv3 hb3
            obtain ⟨g3, l3, rfl⟩ := HV3.out.form
            go_wp2_with fail
            refine (span_any s 0 _ wordB _ (by omega) hs HV3.out).mono ?_
            rintro e w4 ⟨rfl, hb4⟩
            have HB4 : Hid (Below w.heap.size w w4) := HB3.out.trans (hb4.mono HB3.out.size)
            clear hb4
            have HX : Hid (spanI wordB s 0 = spanN wordB s.data.toList) := by show _ = _; unfold spanI; simp
            rw [HX.out]
            go_wp2_with fail
            go_returns
            exact ⟨by rw [HN.out]; simp; rw [Bool.eq_iff_iff, beq_iff_eq, decide_eq_true_eq]; omega, HB4.out⟩
      · have HK : Hid (∀ w', Calls Tryz.prog 16 #[.string s] w' fun e w'' => e = .returned (.bool true) ∧ w'' = w') := fun w' => (key_yes s hk w').mono fun _ _ ⟨he, hw⟩ => ⟨he, hw.symm⟩
        have HF : Hid (nameB s.data.toList = false) := by show _ = _; rw [hN, hk]; rfl
        clear hk hN hcons h40
        go_enter Tryz.func6, Tryz.ntmps6
        go_wp2_with fail
        go_quiet ((go_at_call 16; exact Calls.quiet_of_same (HK.out _)))
        go_wp2_with fail
        go_returns
        exact ⟨by rw [HF.out]; rfl, by (repeat' (first | (with_reducible exact Below.refl _ _) | (with_reducible assumption) | (with_reducible refine Below.alloc ?_ ?_ _) | (with_reducible refine below_drewN ?_ _) | (with_reducible refine Below.drew ?_) | (with_reducible refine Below.setCell ?_ ?_ _) | (with_reducible refine below_via (by assumption) ?_ ?_) | (with_reducible refine below_via (later_below _) ?_ ?_) | (with_reducible exact Nat.le_refl _) | omega | (simp; omega) | (simp; done)))⟩

theorem key_any (s : ByteArray) (w : World) : Calls Tryz.prog 16 #[.string s] w fun e w' => e = .returned (.bool (keyB s.data.toList)) ∧ w = w' := by
  cases h : keyB s.data.toList
  · exact key_no s h w
  · exact key_yes s h w

theorem letB_of (c : UInt8) : letB c = (decide (97 ≤ c.toNat) && decide (c.toNat ≤ 122) || (decide (65 ≤ c.toNat) && decide (c.toNat ≤ 90) || decide (c.toNat = 95))) := rfl
theorem all_from (s : ByteArray) (k : Nat) (h : k < s.size) : (s.data.toList.drop k).all wordB = (wordB (s[k]'h) && (s.data.toList.drop (k + 1)).all wordB) := by rw [drop_get s k h, List.all_cons]

end Go.Proofs.YtplphejillkdeaaGreatDoor
