/- The lexer's tests of bytes, made; how far a test holds in a text. -/
import Derived.Test.YtplphejillkdeaaGreatDoorMLxA
import Derived.Test.YtplphejillkdeaaGreatDoorMOwn
namespace Go.Proofs.YtplphejillkdeaaGreatDoor
open Go.RowKit Go.Instr
set_option linter.unusedVariables false

theorem tests2 {w : World} {v1 v2 : Value} {p1 p2 : UInt8 → Bool} (t : TypeId) (h1 : IsTest w v1 p1) (h2 : IsTest w v2 p2) : TestsAt (w.alloc (.cells #[v1, v2] t)) w.heap.size [(v1, p1), (v2, p2)] := by
  have hb : Below w.heap.size w (w.alloc (.cells #[v1, v2] t)) := (Below.refl _ _).alloc (Nat.le_refl _) _
  intro j hj
  match j, hj with
  | 0, _ => exact ⟨World.cell?_alloc_at #[v1, v2] t _ 0 rfl, h1.later hb⟩
  | 1, _ => exact ⟨World.cell?_alloc_at #[v1, v2] t _ 1 rfl, h2.later hb⟩
theorem tests3 {w : World} {v1 v2 v3 : Value} {p1 p2 p3 : UInt8 → Bool} (t : TypeId) (h1 : IsTest w v1 p1) (h2 : IsTest w v2 p2) (h3 : IsTest w v3 p3) : TestsAt (w.alloc (.cells #[v1, v2, v3] t)) w.heap.size [(v1, p1), (v2, p2), (v3, p3)] := by
  have hb : Below w.heap.size w (w.alloc (.cells #[v1, v2, v3] t)) := (Below.refl _ _).alloc (Nat.le_refl _) _
  intro j hj
  match j, hj with
  | 0, _ => exact ⟨World.cell?_alloc_at #[v1, v2, v3] t _ 0 rfl, h1.later hb⟩
  | 1, _ => exact ⟨World.cell?_alloc_at #[v1, v2, v3] t _ 1 rfl, h2.later hb⟩
  | 2, _ => exact ⟨World.cell?_alloc_at #[v1, v2, v3] t _ 2 rfl, h3.later hb⟩
/-- A call that hands back a test. -/
abbrev TestSays (f : FuncId) (p : UInt8 → Bool) : Prop := ∀ w : World, Calls Tryz.prog f #[] w fun e w' => (∃ v, e = .returned v ∧ IsTest w' v p) ∧ Below w.heap.size w w'
theorem digits_says : TestSays 41 digB := digits_any
theorem one_dec : ∀ c : Fin 256, decide (0 ≤ Lib.indexByte [95] (UInt8.ofNat c.val)) = decide (c.val = 95) := by decide +kernel
theorem one_us (c : UInt8) : decide (0 ≤ Lib.indexByte (⟨#[95]⟩ : ByteArray).data.toList c) = decide (c.toNat = 95) := by
  have := one_dec ⟨c.toNat, UInt8.toNat_lt c⟩
  simpa using this
theorem initials_any : TestSays 17 letB := by
  intro w
  go_enter Tryz.func17, Tryz.ntmps17
  go_wp2_with fail
  refine (between_any 97 122 _).mono ?_
  rintro e w1 ⟨⟨v1, rfl, hv1⟩, hb1⟩
  have H1 := Lib.hid hv1; clear hv1
  go_wp2_with fail
  refine (between_any 65 90 _).mono ?_
  rintro e w2 ⟨⟨v2, rfl, hv2⟩, hb2⟩
  have H1 := Lib.hid (H1.out.later hb2)
  have H2 := Lib.hid hv2; clear hv2
  have hs1 := hb1.size
  have B2 := Lib.hid (hb1.trans (hb2.mono hs1)); clear hb1 hb2 hs1
  go_wp2_with fail
  refine (one_any ⟨#[95]⟩ _).mono ?_
  rintro e w3 ⟨⟨v3, rfl, hv3⟩, hb3⟩
  have H1 := Lib.hid (H1.out.later hb3)
  have H2 := Lib.hid (H2.out.later hb3)
  have H3 := Lib.hid hv3; clear hv3
  have B3 := Lib.hid (B2.out.trans (hb3.mono B2.out.size)); clear hb3 B2
  obtain ⟨g1, l1, rfl⟩ := H1.out.form
  obtain ⟨g2, l2, rfl⟩ := H2.out.form
  obtain ⟨g3, l3, rfl⟩ := H3.out.form
  go_wp2_with fail
  refine (either_any w3.heap.size 3 _ _ (by simp) (tests3 _ H1.out H2.out H3.out)).mono ?_
  rintro e w4 ⟨⟨v4, rfl, hv4⟩, hb4⟩
  have H4 := Lib.hid hv4; clear hv4
  go_wp2_with fail
  go_returns
  refine ⟨⟨v4, rfl, H4.out.ext fun c => ?_⟩, ?_⟩
  · show (lowB c || (uppB c || (decide (0 ≤ Lib.indexByte (⟨#[95]⟩ : ByteArray).data.toList c) || false))) = letB c
    rw [one_us, Bool.or_false]
    rfl
  · have h0 := B3.out
    have hs := h0.size
    (repeat' (first | (with_reducible exact Below.refl _ _) | (with_reducible assumption) | (with_reducible refine Below.alloc ?_ ?_ _) | (with_reducible refine below_drewN ?_ _) | (with_reducible refine Below.drew ?_) | (with_reducible refine Below.setCell ?_ ?_ _) | (with_reducible refine below_via (by assumption) ?_ ?_) | (with_reducible refine below_via (later_below _) ?_ ?_) | (with_reducible exact Nat.le_refl _) | omega | (simp; omega) | (simp; done)))
theorem wordBytes_any : TestSays 19 wordB := by
  intro w
  go_enter Tryz.func19, Tryz.ntmps19
  go_wp2_with fail
  refine (initials_any _).mono ?_
  rintro e w1 ⟨⟨v1, rfl, hv1⟩, hb1⟩
  have H1 := Lib.hid hv1; clear hv1
  go_wp2_with fail
  refine (digits_any _).mono ?_
  rintro e w2 ⟨⟨v2, rfl, hv2⟩, hb2⟩
  have H1 := Lib.hid (H1.out.later hb2)
  have H2 := Lib.hid hv2; clear hv2
  have hs1 := hb1.size
  have B2 := Lib.hid (hb1.trans (hb2.mono hs1)); clear hb1 hb2 hs1
  obtain ⟨g1, l1, rfl⟩ := H1.out.form
  obtain ⟨g2, l2, rfl⟩ := H2.out.form
  go_wp2_with fail
  refine (either_any w2.heap.size 2 _ _ (by simp) (tests2 _ H1.out H2.out)).mono ?_
  rintro e w4 ⟨⟨v4, rfl, hv4⟩, hb4⟩
  have H4 := Lib.hid hv4; clear hv4
  go_wp2_with fail
  go_returns
  refine ⟨⟨v4, rfl, H4.out.ext fun c => ?_⟩, ?_⟩
  · show (_ || (_ || false)) = _
    rw [Bool.or_false]
    rfl
  · have h0 := B2.out
    have hs := h0.size
    (repeat' (first | (with_reducible exact Below.refl _ _) | (with_reducible assumption) | (with_reducible refine Below.alloc ?_ ?_ _) | (with_reducible refine below_drewN ?_ _) | (with_reducible refine Below.drew ?_) | (with_reducible refine Below.setCell ?_ ?_ _) | (with_reducible refine below_via (by assumption) ?_ ?_) | (with_reducible refine below_via (later_below _) ?_ ?_) | (with_reducible exact Nat.le_refl _) | omega | (simp; omega) | (simp; done)))

/-- How far a test holds from an index on. -/
def spanI (p : UInt8 → Bool) (s : ByteArray) (i : Nat) : Nat := i + spanN p (s.data.toList.drop i)
theorem drop_get (s : ByteArray) (k : Nat) (h : k < s.size) : s.data.toList.drop k = s[k]'h :: s.data.toList.drop (k + 1) := by
  rw [List.drop_eq_getElem_cons (by simpa using h)]; rfl
theorem spanI_yes {p : UInt8 → Bool} {s : ByteArray} {k : Nat} (h : k < s.size) (hp : p (s[k]'h) = true) : spanI p s k = spanI p s (k + 1) := by
  unfold spanI
  rw [drop_get s k h, spanN_yes hp]; omega
theorem spanI_no {p : UInt8 → Bool} {s : ByteArray} {k : Nat} (h : k < s.size) (hp : p (s[k]'h) = false) : spanI p s k = k := by
  unfold spanI
  rw [drop_get s k h, spanN_no hp]; omega
theorem spanI_end {p : UInt8 → Bool} {s : ByteArray} {k : Nat} (h : s.size ≤ k) : spanI p s k = k := by
  unfold spanI
  rw [List.drop_eq_nil_of_le (by simpa using h), spanN_nil]; omega
theorem spanI_le (p : UInt8 → Bool) (s : ByteArray) (k : Nat) (h : k ≤ s.size) : k ≤ spanI p s k ∧ spanI p s k ≤ s.size := by
  unfold spanI
  have := spanN_le p (s.data.toList.drop k)
  simp at this
  omega
set_option maxHeartbeats 1000000 in
theorem span_any (s : ByteArray) (i : Nat) (v : Value) (p : UInt8 → Bool) (w : World) (hi : i ≤ s.size) (hs : s.size ≤ 9223372036854775807) (hv : IsTest w v p) :
    Calls Tryz.prog 18 #[.string s, .int .i64 i, v] w fun e w' => e = .returned (.int .i64 (spanI p s i)) ∧ Below w.heap.size w w' := by
  obtain ⟨g, lb, rfl, hg, hc⟩ := hv
  have HC := Lib.hid hc
  clear hc
  go_enter Tryz.func18, Tryz.ntmps18
  go_wp2_with fail
  go_loopw [1] (fun u wr => ∃ k : Nat, k ≤ s.size ∧ u = .int .i64 k ∧ Hid (spanI p s k = spanI p s i) ∧ Hid (Below w.heap.size w wr)) (fun u _ => s.size - (intOf u).toNat)
  case atStart => exact ⟨i, hi, rfl, rfl, Below.refl _ _⟩
  case round =>
    obtain ⟨k, hk, rfl, HI, HB⟩ := hrel
    by_cases hlt : k < s.size
    · have HV := Lib.hid (HC.out wr (s[k]'hlt) HB.out)
      cases hp : p (s[k]'hlt)
      · rw [hp] at HV
        have HP := Lib.hid (spanI_no hlt hp)
        clear hp
        go_wp2_with (go_at_fn g; (with_reducible refine HV.out.mono ?_); rintro e w1 ⟨rfl, hb1⟩)
        go_returns
        exact ⟨ret_int (by rw [← HI.out, HP.out]), HB.out.trans (hb1.mono HB.out.size)⟩
      · rw [hp] at HV
        have HP := Lib.hid (spanI_yes hlt hp)
        clear hp
        go_wp2_with (go_at_fn g; (with_reducible refine HV.out.mono ?_); rintro e w1 ⟨rfl, hb1⟩)
        refine ⟨⟨k + 1, by omega, by go_num, ?_, ?_⟩, by simp [intOf]; omega⟩
        · show _ = _
          rw [← HI.out, HP.out]
        · show Below _ _ _
          exact HB.out.trans (hb1.mono HB.out.size)
    · have HP := Lib.hid (spanI_end (p := p) (s := s) (k := k) (by omega))
      go_wp2_with fail
      go_returns
      exact ⟨ret_int (by rw [← HI.out, HP.out]), HB.out⟩
end Go.Proofs.YtplphejillkdeaaGreatDoor
