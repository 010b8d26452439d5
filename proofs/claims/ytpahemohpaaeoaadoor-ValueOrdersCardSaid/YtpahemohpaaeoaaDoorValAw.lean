/- The chapter's examples hold: the contract of scriptinglaw11.awake. -/
import Derived.Test.YtpahemohpaaeoaaDoorValW2
import Derived.Test.YtpahemohpaaeoaaDoorValW4
import Derived.Test.YtpahemohpaaeoaaDoorValW6
namespace Go.Proofs.YtpahemohpaaeoaaDoor
open Go.RowKit
set_option linter.unusedVariables false

theorem keep2 {W w2 : World} (hb : Below W.heap.size W w2) {b : Nat} {x y : Value} (h : W.cell? ⟨b, 0, none⟩ = some x ∧ W.cell? ⟨b, 1, none⟩ = some y) : w2.cell? ⟨b, 0, none⟩ = some x ∧ w2.cell? ⟨b, 1, none⟩ = some y :=
  ⟨(hb.cell (p := ⟨b, 0, none⟩) (cell_lt h.1)).trans h.1, (hb.cell (p := ⟨b, 1, none⟩) (cell_lt h.2)).trans h.2⟩
theorem keep2_alloc {W : World} {b : Nat} {x y : Value} (o : Obj) (h : W.cell? ⟨b, 0, none⟩ = some x ∧ W.cell? ⟨b, 1, none⟩ = some y) : (W.alloc o).cell? ⟨b, 0, none⟩ = some x ∧ (W.alloc o).cell? ⟨b, 1, none⟩ = some y :=
  keep2 ((Below.refl _ _).alloc (Nat.le_refl _) o) h
theorem keep2_new (W : World) (x y : Value) (t : TypeId) : (W.alloc (.cells #[x, y] t)).cell? ⟨W.heap.size, 0, none⟩ = some x ∧ (W.alloc (.cells #[x, y] t)).cell? ⟨W.heap.size, 1, none⟩ = some y :=
  ⟨World.cell?_alloc_at #[x, y] t _ 0 rfl, World.cell?_alloc_at #[x, y] t _ 1 rfl⟩

theorem va_num (w : World) : Calls Tryd.prog 26 #[vV 3 0 0 ⟨#[32, 48, 120, 49, 48, 32]⟩ 0] w fun e w' => e = .returned (.tuple #[.agg #[.int .i64 16, .int .i64 1], .int .i64 0]) ∧ Below w.heap.size w w' := by
  have h := number_v 3 0 0 ⟨#[32, 48, 120, 49, 48, 32]⟩ 0 (by decide) (by omega) (by omega) w
  have e : numV3 3 0 0 ⟨#[32, 48, 120, 49, 48, 32]⟩ = (16, 1, 0) := by decide +kernel
  rw [e] at h
  exact h
theorem itoa1 : Lib.itoa 1 = [49] := by unfold Lib.itoa; rw [if_neg (by omega), Lib.decDigits]; rfl
theorem itoa2 : Lib.itoa 2 = [50] := by unfold Lib.itoa; rw [if_neg (by omega), Lib.decDigits]; rfl
theorem itoa5 : Lib.itoa 5 = [53] := by unfold Lib.itoa; rw [if_neg (by omega), Lib.decDigits]; rfl
theorem va_str (w : World) (hT : Tabs w) : Calls Tryd.prog 28 #[vV 2 1 2 ⟨#[]⟩ 0] w fun e w' => e = .returned (.tuple #[.string ⟨#[49, 47, 50]⟩, .int .i64 0]) ∧ Below w.heap.size w w' := by
  have h := str_v 2 1 2 ⟨#[]⟩ 0 w (by omega) (by omega) hT
  have e : strV 2 1 2 ⟨#[]⟩ = (⟨#[49, 47, 50]⟩, 0) := by
    have hv : vldB 1 2 = true := by decide +kernel
    unfold strV textL
    rw [if_neg (by omega), hv, if_pos ⟨rfl, rfl⟩, if_pos rfl, if_neg (by omega), itoa1, itoa2]
    rfl
  rw [e] at h
  exact h
theorem va_one (w : World) : Calls Tryd.prog 32 #[.int .i64 1] w fun e w' => e = .returned (vV 2 1 1 ⟨#[]⟩ 0) ∧ Below w.heap.size w w' := ofint_v 1 w
theorem va_two (w : World) : Calls Tryd.prog 32 #[.int .i64 2] w fun e w' => e = .returned (vV 2 2 1 ⟨#[]⟩ 0) ∧ Below w.heap.size w w' := ofint_v 2 w
theorem va_zero (w : World) : Calls Tryd.prog 32 #[.int .i64 0] w fun e w' => e = .returned (vV 2 0 1 ⟨#[]⟩ 0) ∧ Below w.heap.size w w' := ofint_v 0 w
theorem va_less (w : World) : Calls Tryd.prog 19 #[vV 2 1 1 ⟨#[]⟩ 0, vV 2 2 1 ⟨#[]⟩ 0] w fun e w' => e = .returned (.tuple #[.bool true, .int .i64 0]) ∧ Below w.heap.size w w' := by
  have h := less_v 2 1 1 ⟨#[]⟩ 0 2 2 1 ⟨#[]⟩ 0 w (by omega) (by omega) (by omega) (by omega)
  have e : lessV 2 1 1 ⟨#[]⟩ 2 2 1 ⟨#[]⟩ = (true, 0) := by decide +kernel
  rw [e] at h
  exact h
theorem va_tab (w : World) (hT : Tabs w) : Calls Tryd.prog 17 #[vV 4 0 0 ⟨#[]⟩ 5] w fun e w' => e = .returned (.string ⟨#[116, 97, 98, 108, 101, 58, 32, 53]⟩) ∧ Below w.heap.size w w' := by
  have h := text_v 4 0 0 ⟨#[]⟩ 5 w (by decide) (by omega) (by omega) (by omega) (by omega) hT
  have e : textV 4 0 0 ⟨#[]⟩ 5 = ⟨#[116, 97, 98, 108, 101, 58, 32, 53]⟩ := by
    unfold textV
    rw [if_neg (by omega), if_neg (by omega), if_neg (by omega), if_neg (by omega), if_neg (by omega), if_pos (by omega), itoa5]
    rfl
  rw [e] at h
  exact h
theorem va_bui (w : World) (hT : Tabs w) : Calls Tryd.prog 17 #[vV 6 0 0 ⟨#[115, 116, 114, 105, 110, 103, 46, 108, 101, 110]⟩ 0] w fun e w' => e = .returned (.string ⟨#[98, 117, 105, 108, 116, 105, 110, 58, 32, 115, 116, 114, 105, 110, 103, 46, 108, 101, 110]⟩) ∧ Below w.heap.size w w' := by
  have h := text_v 6 0 0 ⟨#[115, 116, 114, 105, 110, 103, 46, 108, 101, 110]⟩ 0 w (by decide) (by omega) (by omega) (by omega) (by omega) hT
  have e : textV 6 0 0 ⟨#[115, 116, 114, 105, 110, 103, 46, 108, 101, 110]⟩ 0 = ⟨#[98, 117, 105, 108, 116, 105, 110, 58, 32, 115, 116, 114, 105, 110, 103, 46, 108, 101, 110]⟩ := by
    unfold textV
    rw [if_neg (by omega), if_neg (by omega), if_neg (by omega), if_neg (by omega), if_pos rfl]
    rfl
  rw [e] at h
  exact h
theorem va_typ (w : World) : Calls Tryd.prog 15 #[vV 6 0 0 ⟨#[]⟩ 0] w fun e w' => e = .returned (.string ⟨#[102, 117, 110, 99, 116, 105, 111, 110]⟩) ∧ Below w.heap.size w w' := type_any 6 0 0 ⟨#[]⟩ 0 w
theorem va_tru (w : World) : Calls Tryd.prog 13 #[vV 2 0 1 ⟨#[]⟩ 0] w fun e w' => e = .returned (.bool true) ∧ Below w.heap.size w w' := true_v 2 0 1 ⟨#[]⟩ 0 w
theorem va_val (w : World) : Calls Tryd.prog 11 #[vV 0 0 0 ⟨#[]⟩ 0] w fun e w' => e = .returned (.bool true) ∧ Below w.heap.size w w' := by
  have h := valid_v 0 0 0 ⟨#[]⟩ 0 w (by decide) (by omega) (by omega)
  have e : validV 0 0 0 ⟨#[]⟩ 0 = true := by decide +kernel
  rw [e] at h
  exact h

set_option maxHeartbeats 4000000 in
set_option maxRecDepth 100000 in
theorem awake_any (w : World) (hT : Tabs w) : Calls Tryd.prog 10 #[] w fun e w' => e = .returned (.bool true) ∧ Below w.heap.size w w' := by
  have HT := Lib.hid hT
  clear hT
  have HA : Hid (Below w.heap.size w w) := Below.refl _ _
  go_enter Tryd.func10, Tryd.ntmps10
  go_wp2_with fail -- Number
  refine (va_num _).mono ?_
  rintro e w1 ⟨rfl, hb⟩
  have H1 := Lib.hid (keep2_new w1 (.int .i64 16) (.int .i64 1) 23)
  have HA : Hid (Below w.heap.size w w1) := by
    have h0 := HA.out
    have hs := h0.size
    show Below _ _ _
    (repeat' (first | (with_reducible exact Below.refl _ _) | (with_reducible assumption) | (with_reducible refine Below.alloc ?_ ?_ _) | (with_reducible refine below_drewN ?_ _) | (with_reducible refine Below.drew ?_) | (with_reducible refine Below.setCell ?_ ?_ _) | (with_reducible refine below_via (by assumption) ?_ ?_) | (with_reducible refine below_via (later_below _) ?_ ?_) | (with_reducible exact Nat.le_refl _) | omega | (simp; omega) | (simp; done)))
  clear hb
  go_wp2_with fail -- Str
  refine (va_str _ (HT.out.later ?_)).mono ?_
  · have h0 := HA.out
    have hs := h0.size
    (repeat' (first | (with_reducible exact Below.refl _ _) | (with_reducible assumption) | (with_reducible refine Below.alloc ?_ ?_ _) | (with_reducible refine below_drewN ?_ _) | (with_reducible refine Below.drew ?_) | (with_reducible refine Below.setCell ?_ ?_ _) | (with_reducible refine below_via (by assumption) ?_ ?_) | (with_reducible refine below_via (later_below _) ?_ ?_) | (with_reducible exact Nat.le_refl _) | omega | (simp; omega) | (simp; done)))
  rintro e w2 ⟨rfl, hb⟩
  have H1 := Lib.hid (keep2 hb H1.out)
  have HA : Hid (Below w.heap.size w w2) := by
    have h0 := HA.out
    have hs := h0.size
    show Below _ _ _
    (repeat' (first | (with_reducible exact Below.refl _ _) | (with_reducible assumption) | (with_reducible refine Below.alloc ?_ ?_ _) | (with_reducible refine below_drewN ?_ _) | (with_reducible refine Below.drew ?_) | (with_reducible refine Below.setCell ?_ ?_ _) | (with_reducible refine below_via (by assumption) ?_ ?_) | (with_reducible refine below_via (later_below _) ?_ ?_) | (with_reducible exact Nat.le_refl _) | omega | (simp; omega) | (simp; done)))
  clear hb
  go_wp2_with fail -- OfInt1
  refine (va_one _).mono ?_
  rintro e w3 ⟨rfl, hb⟩
  have H1 := Lib.hid (keep2 hb H1.out)
  have HA : Hid (Below w.heap.size w w3) := by
    have h0 := HA.out
    have hs := h0.size
    show Below _ _ _
    (repeat' (first | (with_reducible exact Below.refl _ _) | (with_reducible assumption) | (with_reducible refine Below.alloc ?_ ?_ _) | (with_reducible refine below_drewN ?_ _) | (with_reducible refine Below.drew ?_) | (with_reducible refine Below.setCell ?_ ?_ _) | (with_reducible refine below_via (by assumption) ?_ ?_) | (with_reducible refine below_via (later_below _) ?_ ?_) | (with_reducible exact Nat.le_refl _) | omega | (simp; omega) | (simp; done)))
  clear hb
  go_wp2_with fail -- OfInt2
  refine (va_two _).mono ?_
  rintro e w4 ⟨rfl, hb⟩
  have H1 := Lib.hid (keep2 hb H1.out)
  have HA : Hid (Below w.heap.size w w4) := by
    have h0 := HA.out
    have hs := h0.size
    show Below _ _ _
    (repeat' (first | (with_reducible exact Below.refl _ _) | (with_reducible assumption) | (with_reducible refine Below.alloc ?_ ?_ _) | (with_reducible refine below_drewN ?_ _) | (with_reducible refine Below.drew ?_) | (with_reducible refine Below.setCell ?_ ?_ _) | (with_reducible refine below_via (by assumption) ?_ ?_) | (with_reducible refine below_via (later_below _) ?_ ?_) | (with_reducible exact Nat.le_refl _) | omega | (simp; omega) | (simp; done)))
  clear hb
  go_wp2_with fail -- Less
  refine (va_less _).mono ?_
  rintro e w5 ⟨rfl, hb⟩
  have H1 := Lib.hid (keep2 hb H1.out)
  have HA : Hid (Below w.heap.size w w5) := by
    have h0 := HA.out
    have hs := h0.size
    show Below _ _ _
    (repeat' (first | (with_reducible exact Below.refl _ _) | (with_reducible assumption) | (with_reducible refine Below.alloc ?_ ?_ _) | (with_reducible refine below_drewN ?_ _) | (with_reducible refine Below.drew ?_) | (with_reducible refine Below.setCell ?_ ?_ _) | (with_reducible refine below_via (by assumption) ?_ ?_) | (with_reducible refine below_via (later_below _) ?_ ?_) | (with_reducible exact Nat.le_refl _) | omega | (simp; omega) | (simp; done)))
  clear hb
  go_wp2_with fail -- Text1
  refine (va_tab _ (HT.out.later ?_)).mono ?_
  · have h0 := HA.out
    have hs := h0.size
    (repeat' (first | (with_reducible exact Below.refl _ _) | (with_reducible assumption) | (with_reducible refine Below.alloc ?_ ?_ _) | (with_reducible refine below_drewN ?_ _) | (with_reducible refine Below.drew ?_) | (with_reducible refine Below.setCell ?_ ?_ _) | (with_reducible refine below_via (by assumption) ?_ ?_) | (with_reducible refine below_via (later_below _) ?_ ?_) | (with_reducible exact Nat.le_refl _) | omega | (simp; omega) | (simp; done)))
  rintro e w6 ⟨rfl, hb⟩
  have H1 := Lib.hid (keep2 hb H1.out)
  have HA : Hid (Below w.heap.size w w6) := by
    have h0 := HA.out
    have hs := h0.size
    show Below _ _ _
    (repeat' (first | (with_reducible exact Below.refl _ _) | (with_reducible assumption) | (with_reducible refine Below.alloc ?_ ?_ _) | (with_reducible refine below_drewN ?_ _) | (with_reducible refine Below.drew ?_) | (with_reducible refine Below.setCell ?_ ?_ _) | (with_reducible refine below_via (by assumption) ?_ ?_) | (with_reducible refine below_via (later_below _) ?_ ?_) | (with_reducible exact Nat.le_refl _) | omega | (simp; omega) | (simp; done)))
  clear hb
  go_wp2_with fail -- Text2
  refine (va_bui _ (HT.out.later ?_)).mono ?_
  · have h0 := HA.out
    have hs := h0.size
    (repeat' (first | (with_reducible exact Below.refl _ _) | (with_reducible assumption) | (with_reducible refine Below.alloc ?_ ?_ _) | (with_reducible refine below_drewN ?_ _) | (with_reducible refine Below.drew ?_) | (with_reducible refine Below.setCell ?_ ?_ _) | (with_reducible refine below_via (by assumption) ?_ ?_) | (with_reducible refine below_via (later_below _) ?_ ?_) | (with_reducible exact Nat.le_refl _) | omega | (simp; omega) | (simp; done)))
  rintro e w7 ⟨rfl, hb⟩
  have H1 := Lib.hid (keep2 hb H1.out)
  have HA : Hid (Below w.heap.size w w7) := by
    have h0 := HA.out
    have hs := h0.size
    show Below _ _ _
    (repeat' (first | (with_reducible exact Below.refl _ _) | (with_reducible assumption) | (with_reducible refine Below.alloc ?_ ?_ _) | (with_reducible refine below_drewN ?_ _) | (with_reducible refine Below.drew ?_) | (with_reducible refine Below.setCell ?_ ?_ _) | (with_reducible refine below_via (by assumption) ?_ ?_) | (with_reducible refine below_via (later_below _) ?_ ?_) | (with_reducible exact Nat.le_refl _) | omega | (simp; omega) | (simp; done)))
  clear hb
  go_wp2_with fail -- Type
  refine (va_typ _).mono ?_
  rintro e w8 ⟨rfl, hb⟩
  have H1 := Lib.hid (keep2 hb H1.out)
  have HA : Hid (Below w.heap.size w w8) := by
    have h0 := HA.out
    have hs := h0.size
    show Below _ _ _
    (repeat' (first | (with_reducible exact Below.refl _ _) | (with_reducible assumption) | (with_reducible refine Below.alloc ?_ ?_ _) | (with_reducible refine below_drewN ?_ _) | (with_reducible refine Below.drew ?_) | (with_reducible refine Below.setCell ?_ ?_ _) | (with_reducible refine below_via (by assumption) ?_ ?_) | (with_reducible refine below_via (later_below _) ?_ ?_) | (with_reducible exact Nat.le_refl _) | omega | (simp; omega) | (simp; done)))
  clear hb
  go_wp2_with fail -- OfInt0
  refine (va_zero _).mono ?_
  rintro e w9 ⟨rfl, hb⟩
  have H1 := Lib.hid (keep2 hb H1.out)
  have HA : Hid (Below w.heap.size w w9) := by
    have h0 := HA.out
    have hs := h0.size
    show Below _ _ _
    (repeat' (first | (with_reducible exact Below.refl _ _) | (with_reducible assumption) | (with_reducible refine Below.alloc ?_ ?_ _) | (with_reducible refine below_drewN ?_ _) | (with_reducible refine Below.drew ?_) | (with_reducible refine Below.setCell ?_ ?_ _) | (with_reducible refine below_via (by assumption) ?_ ?_) | (with_reducible refine below_via (later_below _) ?_ ?_) | (with_reducible exact Nat.le_refl _) | omega | (simp; omega) | (simp; done)))
  clear hb
  go_wp2_with fail -- True
  refine (va_tru _).mono ?_
  rintro e w10 ⟨rfl, hb⟩
  have H1 := Lib.hid (keep2 hb H1.out)
  have HA : Hid (Below w.heap.size w w10) := by
    have h0 := HA.out
    have hs := h0.size
    show Below _ _ _
    (repeat' (first | (with_reducible exact Below.refl _ _) | (with_reducible assumption) | (with_reducible refine Below.alloc ?_ ?_ _) | (with_reducible refine below_drewN ?_ _) | (with_reducible refine Below.drew ?_) | (with_reducible refine Below.setCell ?_ ?_ _) | (with_reducible refine below_via (by assumption) ?_ ?_) | (with_reducible refine below_via (later_below _) ?_ ?_) | (with_reducible exact Nat.le_refl _) | omega | (simp; omega) | (simp; done)))
  clear hb
  go_wp2_with fail -- Valid
  refine (va_val _).mono ?_
  rintro e w11 ⟨rfl, hb⟩
  have H1 := Lib.hid (keep2 hb H1.out)
  have HA : Hid (Below w.heap.size w w11) := by
    have h0 := HA.out
    have hs := h0.size
    show Below _ _ _
    (repeat' (first | (with_reducible exact Below.refl _ _) | (with_reducible assumption) | (with_reducible refine Below.alloc ?_ ?_ _) | (with_reducible refine below_drewN ?_ _) | (with_reducible refine Below.drew ?_) | (with_reducible refine Below.setCell ?_ ?_ _) | (with_reducible refine below_via (by assumption) ?_ ?_) | (with_reducible refine below_via (later_below _) ?_ ?_) | (with_reducible exact Nat.le_refl _) | omega | (simp; omega) | (simp; done)))
  clear hb
  obtain ⟨H10, H11⟩ := H1.out
  go_wp2_with fail -- end
  go_returns
  exact ⟨rfl, HA.out⟩
end Go.Proofs.YtpahemohpaaeoaaDoor
