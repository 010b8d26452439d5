/- The chapter's examples hold: the contract of scriptinglaw23.awake. -/
import Derived.Test.YtfclmnglckikbaaGreatDoorMNlG
namespace Go.Proofs.YtfclmnglckikbaaGreatDoor
open Go.RowKit Go.Instr
set_option linter.unusedVariables false

set_option maxHeartbeats 8000000 in
set_option maxRecDepth 100000 in
theorem awake_any (w : World) (hT : Tabs w) : Calls Tryz.prog 9 #[] w fun e w' => e = .returned (.bool true) ∧ Below w.heap.size w w' := by
  have HT := Lib.hid hT
  clear hT
  have HA : Hid (Below w.heap.size w w) := Below.refl _ _
  go_enter Tryz.func9, Tryz.ntmps9
  go_wp2_with fail -- frac
  refine (frac_law _ _ _).mono ?_
  rintro e x1 ⟨rfl, hb⟩
  have HA : Hid (Below w.heap.size w x1) := by
    have h0 := HA.out
    have hs := h0.size
    show Below _ _ _
    (repeat' (first | (with_reducible exact Below.refl _ _) | (with_reducible assumption) | (with_reducible refine Below.alloc ?_ ?_ _) | (with_reducible refine below_drewN ?_ _) | (with_reducible refine Below.drew ?_) | (with_reducible refine Below.setCell ?_ ?_ _) | (with_reducible refine below_via (by assumption) ?_ ?_) | (with_reducible refine below_via (later_below _) ?_ ?_) | (with_reducible exact Nat.le_refl _) | omega | (simp; omega) | (simp; done)))
  clear hb
  go_wp2_with fail -- floor
  refine (aw_c1 _ _ (HT.out.later ?_)).mono ?_
  · have h0 := HA.out
    have hs := h0.size
    (repeat' (first | (with_reducible exact Below.refl _ _) | (with_reducible assumption) | (with_reducible refine Below.alloc ?_ ?_ _) | (with_reducible refine below_drewN ?_ _) | (with_reducible refine Below.drew ?_) | (with_reducible refine Below.setCell ?_ ?_ _) | (with_reducible refine below_via (by assumption) ?_ ?_) | (with_reducible refine below_via (later_below _) ?_ ?_) | (with_reducible exact Nat.le_refl _) | omega | (simp; omega) | (simp; done)))
  rintro e x2 ⟨rfl, hb⟩
  have HA : Hid (Below w.heap.size w x2) := by
    have h0 := HA.out
    have hs := h0.size
    show Below _ _ _
    (repeat' (first | (with_reducible exact Below.refl _ _) | (with_reducible assumption) | (with_reducible refine Below.alloc ?_ ?_ _) | (with_reducible refine below_drewN ?_ _) | (with_reducible refine Below.drew ?_) | (with_reducible refine Below.setCell ?_ ?_ _) | (with_reducible refine below_via (by assumption) ?_ ?_) | (with_reducible refine below_via (later_below _) ?_ ?_) | (with_reducible exact Nat.le_refl _) | omega | (simp; omega) | (simp; done)))
  clear hb
  go_wp2_with fail -- frac
  refine (frac_law _ _ _).mono ?_
  rintro e x3 ⟨rfl, hb⟩
  have K1 : Hid (Cells5 x3 x2.heap.size 2 (-4) 1 ⟨#[]⟩ 0) := (cells5_at _ _ _ _ _ _ _ _ rfl).below hb
  have HA : Hid (Below w.heap.size w x3) := by
    have h0 := HA.out
    have hs := h0.size
    show Below _ _ _
    (repeat' (first | (with_reducible exact Below.refl _ _) | (with_reducible assumption) | (with_reducible refine Below.alloc ?_ ?_ _) | (with_reducible refine below_drewN ?_ _) | (with_reducible refine Below.drew ?_) | (with_reducible refine Below.setCell ?_ ?_ _) | (with_reducible refine below_via (by assumption) ?_ ?_) | (with_reducible refine below_via (later_below _) ?_ ?_) | (with_reducible exact Nat.le_refl _) | omega | (simp; omega) | (simp; done)))
  clear hb
  go_wp2_with fail -- num
  refine (num_law _ _).mono ?_
  rintro e x4 ⟨rfl, hb⟩
  have K1 := Lib.hid (show Cells5 x4 _ _ _ _ _ _ by first | exact K1.out.below hb | exact (K1.out.alloc _).below hb)
  have HA : Hid (Below w.heap.size w x4) := by
    have h0 := HA.out
    have hs := h0.size
    show Below _ _ _
    (repeat' (first | (with_reducible exact Below.refl _ _) | (with_reducible assumption) | (with_reducible refine Below.alloc ?_ ?_ _) | (with_reducible refine below_drewN ?_ _) | (with_reducible refine Below.drew ?_) | (with_reducible refine Below.setCell ?_ ?_ _) | (with_reducible refine below_via (by assumption) ?_ ?_) | (with_reducible refine below_via (later_below _) ?_ ?_) | (with_reducible exact Nat.le_refl _) | omega | (simp; omega) | (simp; done)))
  clear hb
  go_wp2_with fail -- fixed
  refine (aw_c2 _ _ (HT.out.later ?_)).mono ?_
  · have h0 := HA.out
    have hs := h0.size
    (repeat' (first | (with_reducible exact Below.refl _ _) | (with_reducible assumption) | (with_reducible refine Below.alloc ?_ ?_ _) | (with_reducible refine below_drewN ?_ _) | (with_reducible refine Below.drew ?_) | (with_reducible refine Below.setCell ?_ ?_ _) | (with_reducible refine below_via (by assumption) ?_ ?_) | (with_reducible refine below_via (later_below _) ?_ ?_) | (with_reducible exact Nat.le_refl _) | omega | (simp; omega) | (simp; done)))
  rintro e x5 ⟨rfl, hb⟩
  have K1 := Lib.hid (show Cells5 x5 _ _ _ _ _ _ by first | exact K1.out.below hb | exact (K1.out.alloc _).below hb)
  have HA : Hid (Below w.heap.size w x5) := by
    have h0 := HA.out
    have hs := h0.size
    show Below _ _ _
    (repeat' (first | (with_reducible exact Below.refl _ _) | (with_reducible assumption) | (with_reducible refine Below.alloc ?_ ?_ _) | (with_reducible refine below_drewN ?_ _) | (with_reducible refine Below.drew ?_) | (with_reducible refine Below.setCell ?_ ?_ _) | (with_reducible refine below_via (by assumption) ?_ ?_) | (with_reducible refine below_via (later_below _) ?_ ?_) | (with_reducible exact Nat.le_refl _) | omega | (simp; omega) | (simp; done)))
  clear hb
  go_wp2_with fail -- num
  refine (num_law _ _).mono ?_
  rintro e x6 ⟨rfl, hb⟩
  have K1 := Lib.hid (show Cells5 x6 _ _ _ _ _ _ by first | exact K1.out.below hb | exact (K1.out.alloc _).below hb)
  have K2 : Hid (Cells5 x6 x5.heap.size 3 0 0 ⟨#[48, 46, 51, 51]⟩ 0) := (cells5_at _ _ _ _ _ _ _ _ rfl).below hb
  have HA : Hid (Below w.heap.size w x6) := by
    have h0 := HA.out
    have hs := h0.size
    show Below _ _ _
    (repeat' (first | (with_reducible exact Below.refl _ _) | (with_reducible assumption) | (with_reducible refine Below.alloc ?_ ?_ _) | (with_reducible refine below_drewN ?_ _) | (with_reducible refine Below.drew ?_) | (with_reducible refine Below.setCell ?_ ?_ _) | (with_reducible refine below_via (by assumption) ?_ ?_) | (with_reducible refine below_via (later_below _) ?_ ?_) | (with_reducible exact Nat.le_refl _) | omega | (simp; omega) | (simp; done)))
  clear hb
  go_wp2_with fail -- num
  refine (num_law _ _).mono ?_
  rintro e x7 ⟨rfl, hb⟩
  have K1 := Lib.hid (show Cells5 x7 _ _ _ _ _ _ by first | exact K1.out.below hb | exact (K1.out.alloc _).below hb)
  have K2 := Lib.hid (show Cells5 x7 _ _ _ _ _ _ by first | exact K2.out.below hb | exact (K2.out.alloc _).below hb)
  have HA : Hid (Below w.heap.size w x7) := by
    have h0 := HA.out
    have hs := h0.size
    show Below _ _ _
    (repeat' (first | (with_reducible exact Below.refl _ _) | (with_reducible assumption) | (with_reducible refine Below.alloc ?_ ?_ _) | (with_reducible refine below_drewN ?_ _) | (with_reducible refine Below.drew ?_) | (with_reducible refine Below.setCell ?_ ?_ _) | (with_reducible refine below_via (by assumption) ?_ ?_) | (with_reducible refine below_via (later_below _) ?_ ?_) | (with_reducible exact Nat.le_refl _) | omega | (simp; omega) | (simp; done)))
  clear hb
  go_wp2_with fail -- base
  refine (aw_c3 _ _ (HT.out.later ?_)).mono ?_
  · have h0 := HA.out
    have hs := h0.size
    (repeat' (first | (with_reducible exact Below.refl _ _) | (with_reducible assumption) | (with_reducible refine Below.alloc ?_ ?_ _) | (with_reducible refine below_drewN ?_ _) | (with_reducible refine Below.drew ?_) | (with_reducible refine Below.setCell ?_ ?_ _) | (with_reducible refine below_via (by assumption) ?_ ?_) | (with_reducible refine below_via (later_below _) ?_ ?_) | (with_reducible exact Nat.le_refl _) | omega | (simp; omega) | (simp; done)))
  rintro e x8 ⟨rfl, hb⟩
  have K1 := Lib.hid (show Cells5 x8 _ _ _ _ _ _ by first | exact K1.out.below hb | exact (K1.out.alloc _).below hb)
  have K2 := Lib.hid (show Cells5 x8 _ _ _ _ _ _ by first | exact K2.out.below hb | exact (K2.out.alloc _).below hb)
  have HA : Hid (Below w.heap.size w x8) := by
    have h0 := HA.out
    have hs := h0.size
    show Below _ _ _
    (repeat' (first | (with_reducible exact Below.refl _ _) | (with_reducible assumption) | (with_reducible refine Below.alloc ?_ ?_ _) | (with_reducible refine below_drewN ?_ _) | (with_reducible refine Below.drew ?_) | (with_reducible refine Below.setCell ?_ ?_ _) | (with_reducible refine below_via (by assumption) ?_ ?_) | (with_reducible refine below_via (later_below _) ?_ ?_) | (with_reducible exact Nat.le_refl _) | omega | (simp; omega) | (simp; done)))
  clear hb
  go_wp2_with fail -- num
  refine (num_law _ _).mono ?_
  rintro e x9 ⟨rfl, hb⟩
  have K1 := Lib.hid (show Cells5 x9 _ _ _ _ _ _ by first | exact K1.out.below hb | exact (K1.out.alloc _).below hb)
  have K2 := Lib.hid (show Cells5 x9 _ _ _ _ _ _ by first | exact K2.out.below hb | exact (K2.out.alloc _).below hb)
  have K3 : Hid (Cells5 x9 x8.heap.size 3 0 0 ⟨#[102, 102]⟩ 0) := (cells5_at _ _ _ _ _ _ _ _ rfl).below hb
  have HA : Hid (Below w.heap.size w x9) := by
    have h0 := HA.out
    have hs := h0.size
    show Below _ _ _
    (repeat' (first | (with_reducible exact Below.refl _ _) | (with_reducible assumption) | (with_reducible refine Below.alloc ?_ ?_ _) | (with_reducible refine below_drewN ?_ _) | (with_reducible refine Below.drew ?_) | (with_reducible refine Below.setCell ?_ ?_ _) | (with_reducible refine below_via (by assumption) ?_ ?_) | (with_reducible refine below_via (later_below _) ?_ ?_) | (with_reducible exact Nat.le_refl _) | omega | (simp; omega) | (simp; done)))
  clear hb
  go_wp2_with fail -- str
  refine (str_law _ _).mono ?_
  rintro e x10 ⟨rfl, hb⟩
  have K1 := Lib.hid (show Cells5 x10 _ _ _ _ _ _ by first | exact K1.out.below hb | exact (K1.out.alloc _).below hb)
  have K2 := Lib.hid (show Cells5 x10 _ _ _ _ _ _ by first | exact K2.out.below hb | exact (K2.out.alloc _).below hb)
  have K3 := Lib.hid (show Cells5 x10 _ _ _ _ _ _ by first | exact K3.out.below hb | exact (K3.out.alloc _).below hb)
  have HA : Hid (Below w.heap.size w x10) := by
    have h0 := HA.out
    have hs := h0.size
    show Below _ _ _
    (repeat' (first | (with_reducible exact Below.refl _ _) | (with_reducible assumption) | (with_reducible refine Below.alloc ?_ ?_ _) | (with_reducible refine below_drewN ?_ _) | (with_reducible refine Below.drew ?_) | (with_reducible refine Below.setCell ?_ ?_ _) | (with_reducible refine below_via (by assumption) ?_ ?_) | (with_reducible refine below_via (later_below _) ?_ ?_) | (with_reducible exact Nat.le_refl _) | omega | (simp; omega) | (simp; done)))
  clear hb
  go_wp2_with fail -- num
  refine (num_law _ _).mono ?_
  rintro e x11 ⟨rfl, hb⟩
  have K1 := Lib.hid (show Cells5 x11 _ _ _ _ _ _ by first | exact K1.out.below hb | exact (K1.out.alloc _).below hb)
  have K2 := Lib.hid (show Cells5 x11 _ _ _ _ _ _ by first | exact K2.out.below hb | exact (K2.out.alloc _).below hb)
  have K3 := Lib.hid (show Cells5 x11 _ _ _ _ _ _ by first | exact K3.out.below hb | exact (K3.out.alloc _).below hb)
  have HA : Hid (Below w.heap.size w x11) := by
    have h0 := HA.out
    have hs := h0.size
    show Below _ _ _
    (repeat' (first | (with_reducible exact Below.refl _ _) | (with_reducible assumption) | (with_reducible refine Below.alloc ?_ ?_ _) | (with_reducible refine below_drewN ?_ _) | (with_reducible refine Below.drew ?_) | (with_reducible refine Below.setCell ?_ ?_ _) | (with_reducible refine below_via (by assumption) ?_ ?_) | (with_reducible refine below_via (later_below _) ?_ ?_) | (with_reducible exact Nat.le_refl _) | omega | (simp; omega) | (simp; done)))
  clear hb
  go_wp2_with fail -- max
  refine (aw_c4 _ _ (HT.out.later ?_)).mono ?_
  · have h0 := HA.out
    have hs := h0.size
    (repeat' (first | (with_reducible exact Below.refl _ _) | (with_reducible assumption) | (with_reducible refine Below.alloc ?_ ?_ _) | (with_reducible refine below_drewN ?_ _) | (with_reducible refine Below.drew ?_) | (with_reducible refine Below.setCell ?_ ?_ _) | (with_reducible refine below_via (by assumption) ?_ ?_) | (with_reducible refine below_via (later_below _) ?_ ?_) | (with_reducible exact Nat.le_refl _) | omega | (simp; omega) | (simp; done)))
  rintro e x12 ⟨rfl, hb⟩
  have K1 := Lib.hid (show Cells5 x12 _ _ _ _ _ _ by first | exact K1.out.below hb | exact (K1.out.alloc _).below hb)
  have K2 := Lib.hid (show Cells5 x12 _ _ _ _ _ _ by first | exact K2.out.below hb | exact (K2.out.alloc _).below hb)
  have K3 := Lib.hid (show Cells5 x12 _ _ _ _ _ _ by first | exact K3.out.below hb | exact (K3.out.alloc _).below hb)
  have HA : Hid (Below w.heap.size w x12) := by
    have h0 := HA.out
    have hs := h0.size
    show Below _ _ _
    (repeat' (first | (with_reducible exact Below.refl _ _) | (with_reducible assumption) | (with_reducible refine Below.alloc ?_ ?_ _) | (with_reducible refine below_drewN ?_ _) | (with_reducible refine Below.drew ?_) | (with_reducible refine Below.setCell ?_ ?_ _) | (with_reducible refine below_via (by assumption) ?_ ?_) | (with_reducible refine below_via (later_below _) ?_ ?_) | (with_reducible exact Nat.le_refl _) | omega | (simp; omega) | (simp; done)))
  clear hb
  go_wp2_with fail -- str
  refine (str_law _ _).mono ?_
  rintro e x13 ⟨rfl, hb⟩
  have K1 := Lib.hid (show Cells5 x13 _ _ _ _ _ _ by first | exact K1.out.below hb | exact (K1.out.alloc _).below hb)
  have K2 := Lib.hid (show Cells5 x13 _ _ _ _ _ _ by first | exact K2.out.below hb | exact (K2.out.alloc _).below hb)
  have K3 := Lib.hid (show Cells5 x13 _ _ _ _ _ _ by first | exact K3.out.below hb | exact (K3.out.alloc _).below hb)
  have K4 : Hid (Cells5 x13 x12.heap.size 2 3 1 ⟨#[]⟩ 0) := (cells5_at _ _ _ _ _ _ _ _ rfl).below hb
  have HA : Hid (Below w.heap.size w x13) := by
    have h0 := HA.out
    have hs := h0.size
    show Below _ _ _
    (repeat' (first | (with_reducible exact Below.refl _ _) | (with_reducible assumption) | (with_reducible refine Below.alloc ?_ ?_ _) | (with_reducible refine below_drewN ?_ _) | (with_reducible refine Below.drew ?_) | (with_reducible refine Below.setCell ?_ ?_ _) | (with_reducible refine below_via (by assumption) ?_ ?_) | (with_reducible refine below_via (later_below _) ?_ ?_) | (with_reducible exact Nat.le_refl _) | omega | (simp; omega) | (simp; done)))
  clear hb
  go_wp2_with fail -- type
  refine (aw_c5 _ _ (HT.out.later ?_)).mono ?_
  · have h0 := HA.out
    have hs := h0.size
    (repeat' (first | (with_reducible exact Below.refl _ _) | (with_reducible assumption) | (with_reducible refine Below.alloc ?_ ?_ _) | (with_reducible refine below_drewN ?_ _) | (with_reducible refine Below.drew ?_) | (with_reducible refine Below.setCell ?_ ?_ _) | (with_reducible refine below_via (by assumption) ?_ ?_) | (with_reducible refine below_via (later_below _) ?_ ?_) | (with_reducible exact Nat.le_refl _) | omega | (simp; omega) | (simp; done)))
  rintro e x14 ⟨rfl, hb⟩
  have K1 := Lib.hid (show Cells5 x14 _ _ _ _ _ _ by first | exact K1.out.below hb | exact (K1.out.alloc _).below hb)
  have K2 := Lib.hid (show Cells5 x14 _ _ _ _ _ _ by first | exact K2.out.below hb | exact (K2.out.alloc _).below hb)
  have K3 := Lib.hid (show Cells5 x14 _ _ _ _ _ _ by first | exact K3.out.below hb | exact (K3.out.alloc _).below hb)
  have K4 := Lib.hid (show Cells5 x14 _ _ _ _ _ _ by first | exact K4.out.below hb | exact (K4.out.alloc _).below hb)
  have HA : Hid (Below w.heap.size w x14) := by
    have h0 := HA.out
    have hs := h0.size
    show Below _ _ _
    (repeat' (first | (with_reducible exact Below.refl _ _) | (with_reducible assumption) | (with_reducible refine Below.alloc ?_ ?_ _) | (with_reducible refine below_drewN ?_ _) | (with_reducible refine Below.drew ?_) | (with_reducible refine Below.setCell ?_ ?_ _) | (with_reducible refine below_via (by assumption) ?_ ?_) | (with_reducible refine below_via (later_below _) ?_ ?_) | (with_reducible exact Nat.le_refl _) | omega | (simp; omega) | (simp; done)))
  clear hb
  go_wp2_with fail -- the region
  have K1lt := K1.out.lt
  obtain ⟨K10, K11, K12, K13, K14⟩ := K1.out
  have K2lt := K2.out.lt
  obtain ⟨K20, K21, K22, K23, K24⟩ := K2.out
  have K3lt := K3.out.lt
  obtain ⟨K30, K31, K32, K33, K34⟩ := K3.out
  have K4lt := K4.out.lt
  obtain ⟨K40, K41, K42, K43, K44⟩ := K4.out
  (refine wp_region_calm (by kernel_rfl) (by kernel_rfl) ?_; refine calm_mem ?_; intro N hN hne hcu; (try simp at hN); subst hN; (repeat ((refine wpQuiet_step (fun K hK => ?_)); go_simp; (repeat (simp only [↓IntWalk.iteOmega]; go_simp)); (first | (refine hK _ ?_; clear hK K) | (apply Exists.intro; refine ⟨fun _ => ?_, hK _ ?_⟩; ((first | (go_at_call 23; exact calm_of (num_law _ _)) | (go_at_call 19; exact calm_of (str_law _ _)))); clear hK K)))); refine wpQuiet_nil ?_; intro _ hw'; obtain ⟨⟨w1, hb⟩, hw''⟩ := hw'; subst hw''; clear hcu hne; (try dsimp only); (refine mem hb ?_; intro N hN hz hc hf; (try simp at hN); subst hN))
  rename World => x15
  have HA : Hid (Below w.heap.size w x15) := by
    have h0 := HA.out
    have hs := h0.size
    show Below _ _ _
    (repeat' (first | (with_reducible exact Below.refl _ _) | (with_reducible assumption) | (with_reducible refine Below.alloc ?_ ?_ _) | (with_reducible refine below_drewN ?_ _) | (with_reducible refine Below.drew ?_) | (with_reducible refine Below.setCell ?_ ?_ _) | (with_reducible refine below_via (by assumption) ?_ ?_) | (with_reducible refine below_via (later_below _) ?_ ?_) | (with_reducible exact Nat.le_refl _) | omega | (simp; omega) | (simp; done)))
  clear hb hc hf hz K1lt K10 K11 K12 K13 K14 K1 K2lt K20 K21 K22 K23 K24 K2 K3lt K30 K31 K32 K33 K34 K3 K4lt K40 K41 K42 K43 K44 K4
  go_wp2_with fail -- message max
  refine (aw_c6 _ (HT.out.later ?_)).mono ?_
  · have h0 := HA.out
    have hs := h0.size
    (repeat' (first | (with_reducible exact Below.refl _ _) | (with_reducible assumption) | (with_reducible refine Below.alloc ?_ ?_ _) | (with_reducible refine below_drewN ?_ _) | (with_reducible refine Below.drew ?_) | (with_reducible refine Below.setCell ?_ ?_ _) | (with_reducible refine below_via (by assumption) ?_ ?_) | (with_reducible refine below_via (later_below _) ?_ ?_) | (with_reducible exact Nat.le_refl _) | omega | (simp; omega) | (simp; done)))
  rintro e x16 ⟨rfl, hb⟩
  have HA : Hid (Below w.heap.size w x16) := by
    have h0 := HA.out
    have hs := h0.size
    show Below _ _ _
    (repeat' (first | (with_reducible exact Below.refl _ _) | (with_reducible assumption) | (with_reducible refine Below.alloc ?_ ?_ _) | (with_reducible refine below_drewN ?_ _) | (with_reducible refine Below.drew ?_) | (with_reducible refine Below.setCell ?_ ?_ _) | (with_reducible refine below_via (by assumption) ?_ ?_) | (with_reducible refine below_via (later_below _) ?_ ?_) | (with_reducible exact Nat.le_refl _) | omega | (simp; omega) | (simp; done)))
  clear hb
  go_wp2_with fail -- frac
  refine (frac_law _ _ _).mono ?_
  rintro e x17 ⟨rfl, hb⟩
  have HA : Hid (Below w.heap.size w x17) := by
    have h0 := HA.out
    have hs := h0.size
    show Below _ _ _
    (repeat' (first | (with_reducible exact Below.refl _ _) | (with_reducible assumption) | (with_reducible refine Below.alloc ?_ ?_ _) | (with_reducible refine below_drewN ?_ _) | (with_reducible refine Below.drew ?_) | (with_reducible refine Below.setCell ?_ ?_ _) | (with_reducible refine below_via (by assumption) ?_ ?_) | (with_reducible refine below_via (later_below _) ?_ ?_) | (with_reducible exact Nat.le_refl _) | omega | (simp; omega) | (simp; done)))
  clear hb
  go_wp2_with fail -- message base
  refine (aw_c7 _ _ (HT.out.later ?_)).mono ?_
  · have h0 := HA.out
    have hs := h0.size
    (repeat' (first | (with_reducible exact Below.refl _ _) | (with_reducible assumption) | (with_reducible refine Below.alloc ?_ ?_ _) | (with_reducible refine below_drewN ?_ _) | (with_reducible refine Below.drew ?_) | (with_reducible refine Below.setCell ?_ ?_ _) | (with_reducible refine below_via (by assumption) ?_ ?_) | (with_reducible refine below_via (later_below _) ?_ ?_) | (with_reducible exact Nat.le_refl _) | omega | (simp; omega) | (simp; done)))
  rintro e x18 ⟨rfl, hb⟩
  have HA : Hid (Below w.heap.size w x18) := by
    have h0 := HA.out
    have hs := h0.size
    show Below _ _ _
    (repeat' (first | (with_reducible exact Below.refl _ _) | (with_reducible assumption) | (with_reducible refine Below.alloc ?_ ?_ _) | (with_reducible refine below_drewN ?_ _) | (with_reducible refine Below.drew ?_) | (with_reducible refine Below.setCell ?_ ?_ _) | (with_reducible refine below_via (by assumption) ?_ ?_) | (with_reducible refine below_via (later_below _) ?_ ?_) | (with_reducible exact Nat.le_refl _) | omega | (simp; omega) | (simp; done)))
  clear hb
  go_wp2_with fail -- message x
  refine (aw_c8 _).mono ?_
  rintro e x19 ⟨rfl, hb⟩
  have HA : Hid (Below w.heap.size w x19) := by
    have h0 := HA.out
    have hs := h0.size
    show Below _ _ _
    (repeat' (first | (with_reducible exact Below.refl _ _) | (with_reducible assumption) | (with_reducible refine Below.alloc ?_ ?_ _) | (with_reducible refine below_drewN ?_ _) | (with_reducible refine Below.drew ?_) | (with_reducible refine Below.setCell ?_ ?_ _) | (with_reducible refine below_via (by assumption) ?_ ?_) | (with_reducible refine below_via (later_below _) ?_ ?_) | (with_reducible exact Nat.le_refl _) | omega | (simp; omega) | (simp; done)))
  clear hb
  go_wp2_with fail -- Names
  refine (names_all _).mono ?_
  rintro e x20 ⟨⟨gN, rfl, hgN, hclN⟩, hb⟩
  have HA : Hid (Below w.heap.size w x20) := by
    have h0 := HA.out
    have hs := h0.size
    show Below _ _ _
    (repeat' (first | (with_reducible exact Below.refl _ _) | (with_reducible assumption) | (with_reducible refine Below.alloc ?_ ?_ _) | (with_reducible refine below_drewN ?_ _) | (with_reducible refine Below.drew ?_) | (with_reducible refine Below.setCell ?_ ?_ _) | (with_reducible refine below_via (by assumption) ?_ ?_) | (with_reducible refine below_via (later_below _) ?_ ?_) | (with_reducible exact Nat.le_refl _) | omega | (simp; omega) | (simp; done)))
  clear hb
  go_wp2_with fail -- end
  go_returns
  exact ⟨rfl, HA.out⟩
end Go.Proofs.YtfclmnglckikbaaGreatDoor
