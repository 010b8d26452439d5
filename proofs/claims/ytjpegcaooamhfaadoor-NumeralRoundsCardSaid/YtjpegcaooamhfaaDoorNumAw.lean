/- The chapter's examples hold: the contract of scriptinglaw02.awake. -/
import Derived.Test.YtjpegcaooamhfaaDoorNumW16
import Derived.Test.YtjpegcaooamhfaaDoorNumW12
namespace Go.Proofs.YtjpegcaooamhfaaDoor
open Go.RowKit
set_option linter.unusedVariables false

theorem aw_p1 (w : World) : Calls Tryd.prog 16 #[.string ⟨#[32, 49, 46, 50, 53, 32]⟩] w fun e w' => e = .returned (.tuple #[.agg #[.int .i64 5, .int .i64 4], .int .i64 0]) ∧ Below w.heap.size w w' := by
  have h := parse_any ⟨#[32, 49, 46, 50, 53, 32]⟩ (by decide) w
  have e : parseL (⟨#[32, 49, 46, 50, 53, 32]⟩ : ByteArray).data.toList = (5, 4, 0) := by decide +kernel
  rw [e] at h
  exact h
theorem aw_p2 (w : World) : Calls Tryd.prog 16 #[.string ⟨#[49, 47, 48]⟩] w fun e w' => e = .returned (.tuple #[.agg #[.int .i64 0, .int .i64 0], .int .i64 6]) ∧ Below w.heap.size w w' := by
  have h := parse_any ⟨#[49, 47, 48]⟩ (by decide) w
  have e : parseL (⟨#[49, 47, 48]⟩ : ByteArray).data.toList = (0, 0, 6) := by decide +kernel
  rw [e] at h
  exact h
theorem aw_s (w : World) : Calls Tryd.prog 18 #[.string ⟨#[120, 48, 120, 49, 70, 103]⟩, .int .i64 1] w fun e w' => e = .returned (.tuple #[.agg #[.int .i64 31, .int .i64 1], .int .i64 5, .int .i64 0]) ∧ Below w.heap.size w w' := by
  have h := scan_any ⟨#[120, 48, 120, 49, 70, 103]⟩ 1 (by decide) w
  have e : scanL (⟨#[120, 48, 120, 49, 70, 103]⟩ : ByteArray).data.toList 1 = (31, 1, 5, 0) := by decide +kernel
  rw [e] at h
  exact h
theorem itoa0 : Lib.itoa 0 = [48] := by unfold Lib.itoa; rw [if_neg (by omega), Lib.decDigits]; rfl
theorem itoa3 : Lib.itoa 3 = [51] := by unfold Lib.itoa; rw [if_neg (by omega), Lib.decDigits]; rfl
theorem itoam7 : Lib.itoa (-7) = [45, 55] := by unfold Lib.itoa; rw [if_pos (by omega), Lib.decDigits]; rfl
theorem aw_f (w : World) (hT : Tabs w) : Calls Tryd.prog 20 #[.agg #[.int .i64 1, .int .i64 8], .int .i64 2] w fun e w' => e = .returned (.tuple #[.string ⟨#[48, 46, 49, 50]⟩, .int .i64 0]) ∧ Below w.heap.size w w' := by
  have h := fixed_any 1 8 2 w (by omega) (by omega) hT
  have h1 : vldB 1 8 = true := by decide +kernel
  have h2 : fixT (1 : Int).natAbs (8 : Int).toNat (2 : Int).toNat = (0, [1, 2]) := by decide +kernel
  have e : fixL 1 8 2 = ([48, 46, 49, 50], 0) := by
    unfold fixL
    rw [h1, h2]
    show (decL false 0 [1, 2], (0 : Int)) = _
    have : decL false 0 [1, 2] = [48, 46, 49, 50] := by
      unfold decL bodyL
      rw [itoa0]
      rfl
    rw [this]
  rw [e] at h
  exact h
theorem aw_b (w : World) (hT : Tabs w) : Calls Tryd.prog 22 #[.int .i64 255, .int .i64 16] w fun e w' => e = .returned (.tuple #[.string ⟨#[102, 102]⟩, .int .i64 0]) ∧ Below w.heap.size w w' := by
  have h := base_any 255 16 (by omega) (by omega) w hT
  have e : baseL 255 16 = ([102, 102], 0) := by
    unfold baseL bText
    rw [if_neg (by omega), if_neg (by omega), show (255 : Int).toNat = 255 from rfl, show (16 : Int).toNat = 16 from rfl, bDigits_big (by omega) (by omega), bDigits_small (by omega)]
    rfl
  rw [e] at h
  exact h
theorem aw_t (w : World) (hT : Tabs w) : Calls Tryd.prog 12 #[.agg #[.int .i64 (-7), .int .i64 3]] w fun e w' => e = .returned (.string ⟨#[45, 55, 47, 51]⟩) ∧ Below w.heap.size w w' := by
  have h := text_any (-7) 3 w (by omega) (by omega) hT
  have e : textL (-7) 3 = [45, 55, 47, 51] := by
    unfold textL
    rw [show vldB (-7) 3 = true by decide +kernel, if_pos rfl, if_neg (by omega), itoam7, itoa3]
    rfl
  rw [e] at h
  exact h

/-- Two cells behind a call. -/
theorem keep2 {W w2 : World} (hb : Below W.heap.size W w2) {b : Nat} {x y : Value} (h : W.cell? ⟨b, 0, none⟩ = some x ∧ W.cell? ⟨b, 1, none⟩ = some y) : w2.cell? ⟨b, 0, none⟩ = some x ∧ w2.cell? ⟨b, 1, none⟩ = some y :=
  ⟨(hb.cell (p := ⟨b, 0, none⟩) (cell_lt h.1)).trans h.1, (hb.cell (p := ⟨b, 1, none⟩) (cell_lt h.2)).trans h.2⟩
theorem keep2_alloc {W : World} {b : Nat} {x y : Value} (o : Obj) (h : W.cell? ⟨b, 0, none⟩ = some x ∧ W.cell? ⟨b, 1, none⟩ = some y) : (W.alloc o).cell? ⟨b, 0, none⟩ = some x ∧ (W.alloc o).cell? ⟨b, 1, none⟩ = some y :=
  keep2 ((Below.refl _ _).alloc (Nat.le_refl _) o) h
theorem keep2_new (W : World) (x y : Value) (t : TypeId) : (W.alloc (.cells #[x, y] t)).cell? ⟨W.heap.size, 0, none⟩ = some x ∧ (W.alloc (.cells #[x, y] t)).cell? ⟨W.heap.size, 1, none⟩ = some y :=
  ⟨World.cell?_alloc_at #[x, y] t _ 0 rfl, World.cell?_alloc_at #[x, y] t _ 1 rfl⟩

set_option maxHeartbeats 4000000 in
set_option maxRecDepth 100000 in
theorem awake_any (w : World) (hT : Tabs w) : Calls Tryd.prog 14 #[] w fun e w' => e = .returned (.bool true) ∧ Below w.heap.size w w' := by
  have HT := Lib.hid hT
  clear hT
  go_enter Tryd.func14, Tryd.ntmps14
  go_wp2_with fail
  refine (aw_p1 _).mono ?_
  rintro e wa ⟨rfl, hb⟩
  have HA := Lib.hid hb
  clear hb
  have h1 := keep2_new wa (.int .i64 5) (.int .i64 4) 23
  have H1 := Lib.hid h1
  clear h1
  go_wp2_with fail
  refine (aw_s _).mono ?_
  rintro e wb ⟨rfl, hb⟩
  have H1 := Lib.hid (keep2 hb H1.out)
  have H2 := Lib.hid (keep2_new wb (.int .i64 31) (.int .i64 1) 23)
  have H1 := Lib.hid (keep2_alloc (.cells #[.int .i64 31, .int .i64 1] 23) H1.out)
  have HA : Hid (Below w.heap.size w wb) := by
    have h0 := HA.out
    have hs := h0.size
    show Below _ _ _
    (repeat' (first | (with_reducible exact Below.refl _ _) | (with_reducible assumption) | (with_reducible refine Below.alloc ?_ ?_ _) | (with_reducible refine below_drewN ?_ _) | (with_reducible refine Below.drew ?_) | (with_reducible refine Below.setCell ?_ ?_ _) | (with_reducible refine below_via (by assumption) ?_ ?_) | (with_reducible refine below_via (later_below _) ?_ ?_) | (with_reducible exact Nat.le_refl _) | omega | (simp; omega) | (simp; done)))
  clear hb
  go_wp2_with fail
  refine (aw_f _ (HT.out.later ?_)).mono ?_
  · have h0 := HA.out
    have hs := h0.size
    (repeat' (first | (with_reducible exact Below.refl _ _) | (with_reducible assumption) | (with_reducible refine Below.alloc ?_ ?_ _) | (with_reducible refine below_drewN ?_ _) | (with_reducible refine Below.drew ?_) | (with_reducible refine Below.setCell ?_ ?_ _) | (with_reducible refine below_via (by assumption) ?_ ?_) | (with_reducible refine below_via (later_below _) ?_ ?_) | (with_reducible exact Nat.le_refl _) | omega | (simp; omega) | (simp; done)))
  rintro e wc ⟨rfl, hb⟩
  have H1 := Lib.hid (keep2 hb H1.out)
  have H2 := Lib.hid (keep2 hb H2.out)
  have HA : Hid (Below w.heap.size w wc) := by
    have h0 := HA.out
    have hs := h0.size
    show Below _ _ _
    (repeat' (first | (with_reducible exact Below.refl _ _) | (with_reducible assumption) | (with_reducible refine Below.alloc ?_ ?_ _) | (with_reducible refine below_drewN ?_ _) | (with_reducible refine Below.drew ?_) | (with_reducible refine Below.setCell ?_ ?_ _) | (with_reducible refine below_via (by assumption) ?_ ?_) | (with_reducible refine below_via (later_below _) ?_ ?_) | (with_reducible exact Nat.le_refl _) | omega | (simp; omega) | (simp; done)))
  clear hb
  go_wp2_with fail
  refine (aw_b _ (HT.out.later HA.out)).mono ?_
  rintro e wd ⟨rfl, hb⟩
  have H1 := Lib.hid (keep2 hb H1.out)
  have H2 := Lib.hid (keep2 hb H2.out)
  have HA : Hid (Below w.heap.size w wd) := by
    have h0 := HA.out
    have hs := h0.size
    show Below _ _ _
    (repeat' (first | (with_reducible exact Below.refl _ _) | (with_reducible assumption) | (with_reducible refine Below.alloc ?_ ?_ _) | (with_reducible refine below_drewN ?_ _) | (with_reducible refine Below.drew ?_) | (with_reducible refine Below.setCell ?_ ?_ _) | (with_reducible refine below_via (by assumption) ?_ ?_) | (with_reducible refine below_via (later_below _) ?_ ?_) | (with_reducible exact Nat.le_refl _) | omega | (simp; omega) | (simp; done)))
  clear hb
  go_wp2_with fail
  refine (aw_p2 _).mono ?_
  rintro e we ⟨rfl, hb⟩
  have H1 := Lib.hid (keep2_alloc (.cells #[.int .i64 0, .int .i64 0] 23) (keep2 hb H1.out))
  have H2 := Lib.hid (keep2_alloc (.cells #[.int .i64 0, .int .i64 0] 23) (keep2 hb H2.out))
  have HA : Hid (Below w.heap.size w we) := by
    have h0 := HA.out
    have hs := h0.size
    show Below _ _ _
    (repeat' (first | (with_reducible exact Below.refl _ _) | (with_reducible assumption) | (with_reducible refine Below.alloc ?_ ?_ _) | (with_reducible refine below_drewN ?_ _) | (with_reducible refine Below.drew ?_) | (with_reducible refine Below.setCell ?_ ?_ _) | (with_reducible refine below_via (by assumption) ?_ ?_) | (with_reducible refine below_via (later_below _) ?_ ?_) | (with_reducible exact Nat.le_refl _) | omega | (simp; omega) | (simp; done)))
  clear hb
  go_wp2_with fail
  refine (aw_t _ (HT.out.later ?_)).mono ?_
  · have h0 := HA.out
    have hs := h0.size
    (repeat' (first | (with_reducible exact Below.refl _ _) | (with_reducible assumption) | (with_reducible refine Below.alloc ?_ ?_ _) | (with_reducible refine below_drewN ?_ _) | (with_reducible refine Below.drew ?_) | (with_reducible refine Below.setCell ?_ ?_ _) | (with_reducible refine below_via (by assumption) ?_ ?_) | (with_reducible refine below_via (later_below _) ?_ ?_) | (with_reducible exact Nat.le_refl _) | omega | (simp; omega) | (simp; done)))
  rintro e wf ⟨rfl, hb⟩
  have h1 := keep2 hb H1.out
  have h2 := keep2 hb H2.out
  have HA : Hid (Below w.heap.size w wf) := by
    have h0 := HA.out
    have hs := h0.size
    show Below _ _ _
    (repeat' (first | (with_reducible exact Below.refl _ _) | (with_reducible assumption) | (with_reducible refine Below.alloc ?_ ?_ _) | (with_reducible refine below_drewN ?_ _) | (with_reducible refine Below.drew ?_) | (with_reducible refine Below.setCell ?_ ?_ _) | (with_reducible refine below_via (by assumption) ?_ ?_) | (with_reducible refine below_via (later_below _) ?_ ?_) | (with_reducible exact Nat.le_refl _) | omega | (simp; omega) | (simp; done)))
  clear hb H1 H2
  obtain ⟨h1, h1'⟩ := h1
  obtain ⟨h2, h2'⟩ := h2
  go_wp2_with fail
  go_returns
  exact ⟨rfl, HA.out⟩
end Go.Proofs.YtjpegcaooamhfaaDoor
