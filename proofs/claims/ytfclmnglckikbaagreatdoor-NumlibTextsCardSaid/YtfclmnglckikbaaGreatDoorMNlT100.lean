/- A way through the law NumlibTexts: what the call returns there. -/
import Derived.Test.YtfclmnglckikbaaGreatDoorMNlTxt
import Derived.Test.YtfclmnglckikbaaGreatDoorMNlEq
import Derived.Test.YtfclmnglckikbaaGreatDoorMLaid
namespace Go.Proofs.YtfclmnglckikbaaGreatDoor
open Go.ChangeShapes Go.WideShapes Go.ChangeAt Go.RowKit Go.Joins
set_option linter.unusedVariables false
set_option linter.unusedSimpArgs false

theorem cell_drew100 (w : World) (p : Addr) : w.drew.cell? p = w.cell? p := rfl
set_option maxHeartbeats 8000000 in
set_option maxRecDepth 100000 in
theorem texts_100 (aP aQ n : Int) (S1 : ByteArray) (w : World) (p1 : -9223372036854775808 ≤ aP) (p2 : aP ≤ 9223372036854775807) (nn1 : -9223372036854775808 ≤ n) (nn2 : n ≤ 9223372036854775807) (hn : -100 ≤ n ∧ n ≤ 100) (d1 : decide (n < -100) = false) (d2 : decide (100 < n) = false) (b2 : (aQ != 1) = true) (HT : Hid (Tabs w)) (HW : Hid (∀ w', Tabs w' → Calls Tryz.prog 9 #[] w' fun e w'' => e = .returned (.bool true) ∧ Below w'.heap.size w' w'')) (HV : Hid (∀ w', Calls Tryz.prog 13 #[vV 2 aP aQ ⟨#[]⟩ 0] w' fun e w'' => e = .returned (.bool true) ∧ Below w'.heap.size w' w'')) (HF : Hid (∀ w', Tabs w' → Calls Tryz.prog 22 #[.agg #[.int .i64 aP, .int .i64 aQ], .int .i64 n] w' fun e w'' => e = .returned (.tuple #[.string S1, .int .i64 0]) ∧ Below w'.heap.size w' w'')) (HR1 : Hid (∀ (W : World) (B : Nat), Tabs W → CellsAt W B 0 (2) (aP) (aQ) (⟨#[]⟩) (0) → CellsAt W B 5 (2) (n) (1) (⟨#[]⟩) (0) → Calls Tryz.prog 18 #[.string ⟨#[110, 117, 109, 98, 101, 114, 46, 102, 105, 120, 101, 100]⟩, .slice (some ⟨B, 0, none⟩) 2 2] W fun e w'' => e = .returned (.tuple #[vV 3 0 0 S1 0, .bool true]) ∧ Below W.heap.size W w'')) (HR2 : Hid (∀ (w' : World) (t : TypeId) (B : Nat), B = w'.heap.size → Tabs (w'.alloc (.cells #[.int .i64 2, .int .i64 aP, .int .i64 aQ, .string ⟨#[]⟩, .int .i64 0] t)) → Calls Tryz.prog 18 #[.string ⟨#[110, 117, 109, 98, 101, 114, 46, 98, 97, 115, 101]⟩, .slice (some ⟨B, 0, none⟩) 1 1] (w'.alloc (.cells #[.int .i64 2, .int .i64 aP, .int .i64 aQ, .string ⟨#[]⟩, .int .i64 0] t)) fun e w'' => e = .returned (.tuple #[vV 0 0 0 ⟨#[]⟩ 0, .bool false]) ∧ Below (w'.alloc (.cells #[.int .i64 2, .int .i64 aP, .int .i64 aQ, .string ⟨#[]⟩, .int .i64 0] t)).heap.size (w'.alloc (.cells #[.int .i64 2, .int .i64 aP, .int .i64 aQ, .string ⟨#[]⟩, .int .i64 0] t)) w'')) :
    Calls Tryz.prog 7 #[.agg #[.int .i64 aP, .int .i64 aQ], .int .i64 n] w fun e w' => e = .returned (.bool true) ∧ Below w.heap.size w w' := by
  obtain ⟨hn1, hn2⟩ := hn
  have HA : Hid (Below w.heap.size w w) := Below.refl _ _
  go_enter Tryz.func7, Tryz.ntmps7
  go_wp2_with fail -- Valid
  refine (HV.out _).mono ?_
  rintro e x1 ⟨rfl, hb⟩
  have KA := Lib.hid (show Cells2 x1 w.heap.size (.int .i64 aP) (.int .i64 aQ) from by first | (with_reducible exact (cells2_at _ _ _ _).below hb) | (with_reducible exact ((cells2_at _ _ _ _).alloc _).below hb))
  have KV := Lib.hid (show Cells5 x1 (w.heap.size + 1) 2 aP aQ ⟨#[]⟩ 0 from by first | (with_reducible exact (cells5_at _ _ _ _ _ _ _ _ (by simp)).below hb) | (with_reducible exact ((cells5_at _ _ _ _ _ _ _ _ (by simp)).alloc _).below hb))
  have HA : Hid (Below w.heap.size w x1) := by
    have h0 := HA.out
    have hs := h0.size
    show Below _ _ _
    (repeat' (first | (with_reducible exact Below.refl _ _) | (with_reducible assumption) | (with_reducible refine Below.alloc ?_ ?_ _) | (with_reducible refine below_drewN ?_ _) | (with_reducible refine Below.drew ?_) | (with_reducible refine Below.setCell ?_ ?_ _) | (with_reducible refine below_via (by assumption) ?_ ?_) | (with_reducible refine below_via (later_below _) ?_ ?_) | (with_reducible exact Nat.le_refl _) | omega | (simp; omega) | (simp; done)))
  clear hb
  have KAlt := cell_lt KA.out.1
  obtain ⟨KA0, KA1⟩ := KA.out
  go_wp2_with fail -- Fixed
  clear KAlt KA0 KA1
  refine (HF.out _ (HT.out.later ?_)).mono ?_
  · have h0 := HA.out
    have hs := h0.size
    (repeat' (first | (with_reducible exact Below.refl _ _) | (with_reducible assumption) | (with_reducible refine Below.alloc ?_ ?_ _) | (with_reducible refine below_drewN ?_ _) | (with_reducible refine Below.drew ?_) | (with_reducible refine Below.setCell ?_ ?_ _) | (with_reducible refine below_via (by assumption) ?_ ?_) | (with_reducible refine below_via (later_below _) ?_ ?_) | (with_reducible exact Nat.le_refl _) | omega | (simp; omega) | (simp; done)))
  rintro e x2 ⟨rfl, hb⟩
  have KA := Lib.hid (show Cells2 x2 w.heap.size (.int .i64 aP) (.int .i64 aQ) from by first | (with_reducible exact (KA.out).below hb) | (with_reducible exact (KA.out.alloc _).below hb) | (with_reducible exact ((KA.out.alloc _).alloc _).below hb))
  have KV := Lib.hid (show Cells5 x2 (w.heap.size + 1) 2 aP aQ ⟨#[]⟩ 0 from by first | (with_reducible exact (KV.out).below hb) | (with_reducible exact (KV.out.alloc _).below hb) | (with_reducible exact ((KV.out.alloc _).alloc _).below hb))
  have HA : Hid (Below w.heap.size w x2) := by
    have h0 := HA.out
    have hs := h0.size
    show Below _ _ _
    (repeat' (first | (with_reducible exact Below.refl _ _) | (with_reducible assumption) | (with_reducible refine Below.alloc ?_ ?_ _) | (with_reducible refine below_drewN ?_ _) | (with_reducible refine Below.drew ?_) | (with_reducible refine Below.setCell ?_ ?_ _) | (with_reducible refine below_via (by assumption) ?_ ?_) | (with_reducible refine below_via (later_below _) ?_ ?_) | (with_reducible exact Nat.le_refl _) | omega | (simp; omega) | (simp; done)))
  clear hb
  have KVlt := cell_lt KV.out.1
  obtain ⟨KV0, KV1, KV2, KV3, KV4⟩ := KV.out
  go_upto_region 5 with fail
  go_cut [8, 9] (fun pp kk wx => ∃ B : Nat, pp = .pointer (some ⟨B, 0, none⟩) ∧ kk = .bool true ∧ Hid (Below w.heap.size w wx) ∧ Hid (Cells2 wx w.heap.size (.int .i64 aP) (.int .i64 aQ)) ∧ Hid (Cells5 wx (w.heap.size + 1) 2 aP aQ ⟨#[]⟩ 0) ∧ Hid (Cells5 wx B 3 0 0 S1 0))
  case first =>
    go_region_with (first | (go_at_call 23; (with_reducible refine (num_law _ _).mono ?_); rintro e y1 ⟨rfl, hb⟩; (refine mem hb ?_; intro N hN hz hc hf; (try simp at hN); subst hN)) | (go_at_call 18; (with_reducible refine (HR1.out _ _ (HT.out.later ?_) ?_ ?_).mono ?_); (focus (have h0 := HA.out; have hs := h0.size; (repeat' (first | (with_reducible exact Below.refl _ _) | (with_reducible assumption) | (with_reducible refine Below.alloc ?_ ?_ _) | (with_reducible refine below_drewN ?_ _) | (with_reducible refine Below.drew ?_) | (with_reducible refine Below.setCell ?_ ?_ _) | (with_reducible refine below_via (by assumption) ?_ ?_) | (with_reducible refine below_via (later_below _) ?_ ?_) | (with_reducible exact Nat.le_refl _) | omega | (simp; omega) | (simp; done))))); (focus (unfold CellsAt; simp [cell_alloc_if])); (focus (unfold CellsAt; simp [cell_alloc_if])); rintro e y2 ⟨rfl, hb⟩; (refine mem hb ?_; intro N hN hz hc hf; (try simp at hN); subst hN)))
    all_goals
      go_wp2_with fail
      go_meet
      have h0 := HA.out
      have hs := h0.size
      obtain ⟨KA0, KA1⟩ := KA.out
      have KAlt0 := cell_lt KA0
      refine ⟨_, rfl, rfl, ?_, ?_, ?_, ?_⟩
      · show Below _ _ _
        (repeat' (first | (with_reducible exact Below.refl _ _) | (with_reducible assumption) | (with_reducible refine Below.alloc ?_ ?_ _) | (with_reducible refine below_drewN ?_ _) | (with_reducible refine Below.drew ?_) | (with_reducible refine Below.setCell ?_ ?_ _) | (with_reducible refine below_via (by assumption) ?_ ?_) | (with_reducible refine below_via (later_below _) ?_ ?_) | (with_reducible exact Nat.le_refl _) | omega | (simp; omega) | (simp; done)))
      all_goals
        ((first | (show Cells2 _ _ _ _; unfold Cells2; refine ⟨?_, ?_⟩) | (show Cells5 _ _ _ _ _ _ _; unfold Cells5; refine ⟨?_, ?_, ?_, ?_, ?_⟩)) <;> simp only [↓IntWalk.iteOmega, cell_set_if, cell_alloc_if, World.size_alloc, World.size_setCell, Option.map_some, cell_drew100, *] <;> (first | done | rfl | assumption))
  clear KVlt KV0 KV1 KV2 KV3 KV4
  obtain ⟨B5, rfl, rfl, HA, KA, KV, KX⟩ := hcut
  have KXlt := cell_lt KX.out.1
  obtain ⟨KX0, KX1, KX2, KX3, KX4⟩ := KX.out
  go_wp2_with fail
  have hBw := HA.out
  (refine wp_region_calm (by kernel_rfl) (by kernel_rfl) ?_; refine calm_mem ?_; intro N hN hne hcu; (try simp at hN); subst hN; (repeat ((refine wpQuiet_step (fun K hK => ?_)); go_simp; (repeat (simp only [↓IntWalk.iteOmega]; go_simp)); (first | (refine hK _ ?_; clear hK K) | (apply Exists.intro; refine ⟨fun _ => ?_, hK _ ?_⟩; (first | (go_at_call 19; exact calm_of (str_law _ _))); clear hK K)))); refine wpQuiet_nil ?_; intro _ hw'; obtain ⟨⟨w1, hb⟩, hw''⟩ := hw'; subst hw''; clear hcu hne; (try dsimp only); (refine mem hb ?_; intro N hN hz hc hf; (try simp at hN); subst hN))
  clear KXlt KX0 KX1 KX2 KX3 KX4
  have KA := Lib.hid (KA.out.below hb)
  have KV := Lib.hid (KV.out.below hb)
  have KX := Lib.hid (KX.out.below hb)
  have HA := Lib.hid (HA.out.trans (hb.mono HA.out.size))
  clear hb hc hf
  have KVlt := cell_lt KV.out.1
  obtain ⟨KV0, KV1, KV2, KV3, KV4⟩ := KV.out
  go_wp2_with fail -- base
  clear KVlt KV0 KV1 KV2 KV3 KV4
  refine (HR2.out _ _ _ ?_ (HT.out.later ?_)).mono ?_
  · simp
  · have h0 := HA.out
    have hs := h0.size
    (repeat' (first | (with_reducible exact Below.refl _ _) | (with_reducible assumption) | (with_reducible refine Below.alloc ?_ ?_ _) | (with_reducible refine below_drewN ?_ _) | (with_reducible refine Below.drew ?_) | (with_reducible refine Below.setCell ?_ ?_ _) | (with_reducible refine below_via (by assumption) ?_ ?_) | (with_reducible refine below_via (later_below _) ?_ ?_) | (with_reducible exact Nat.le_refl _) | omega | (simp; omega) | (simp; done)))
  rintro e x4 ⟨rfl, hb⟩
  have KA := Lib.hid (show Cells2 x4 w.heap.size (.int .i64 aP) (.int .i64 aQ) from by first | (with_reducible exact (KA.out).below hb) | (with_reducible exact (KA.out.alloc _).below hb) | (with_reducible exact ((KA.out.alloc _).alloc _).below hb))
  have KV := Lib.hid (show Cells5 x4 (w.heap.size + 1) 2 aP aQ ⟨#[]⟩ 0 from by first | (with_reducible exact (KV.out).below hb) | (with_reducible exact (KV.out.alloc _).below hb) | (with_reducible exact ((KV.out.alloc _).alloc _).below hb))
  have KX := Lib.hid (show Cells5 x4 B5 3 0 0 S1 0 from by first | (with_reducible exact (KX.out).below hb) | (with_reducible exact (KX.out.alloc _).below hb) | (with_reducible exact ((KX.out.alloc _).alloc _).below hb))
  have HA : Hid (Below w.heap.size w x4) := by
    have h0 := HA.out
    have hs := h0.size
    show Below _ _ _
    (repeat' (first | (with_reducible exact Below.refl _ _) | (with_reducible assumption) | (with_reducible refine Below.alloc ?_ ?_ _) | (with_reducible refine below_drewN ?_ _) | (with_reducible refine Below.drew ?_) | (with_reducible refine Below.setCell ?_ ?_ _) | (with_reducible refine below_via (by assumption) ?_ ?_) | (with_reducible refine below_via (later_below _) ?_ ?_) | (with_reducible exact Nat.le_refl _) | omega | (simp; omega) | (simp; done)))
  clear hb
  have KAlt := cell_lt KA.out.1
  obtain ⟨KA0, KA1⟩ := KA.out
  go_wp2_with fail -- awake
  clear KAlt KA0 KA1
  refine (HW.out _ (HT.out.later ?_)).mono ?_
  · have h0 := HA.out
    have hs := h0.size
    (repeat' (first | (with_reducible exact Below.refl _ _) | (with_reducible assumption) | (with_reducible refine Below.alloc ?_ ?_ _) | (with_reducible refine below_drewN ?_ _) | (with_reducible refine Below.drew ?_) | (with_reducible refine Below.setCell ?_ ?_ _) | (with_reducible refine below_via (by assumption) ?_ ?_) | (with_reducible refine below_via (later_below _) ?_ ?_) | (with_reducible exact Nat.le_refl _) | omega | (simp; omega) | (simp; done)))
  rintro e x5 ⟨rfl, hb⟩
  have KA := Lib.hid (show Cells2 x5 w.heap.size (.int .i64 aP) (.int .i64 aQ) from by first | (with_reducible exact (KA.out).below hb) | (with_reducible exact (KA.out.alloc _).below hb) | (with_reducible exact ((KA.out.alloc _).alloc _).below hb))
  have KV := Lib.hid (show Cells5 x5 (w.heap.size + 1) 2 aP aQ ⟨#[]⟩ 0 from by first | (with_reducible exact (KV.out).below hb) | (with_reducible exact (KV.out.alloc _).below hb) | (with_reducible exact ((KV.out.alloc _).alloc _).below hb))
  have KX := Lib.hid (show Cells5 x5 B5 3 0 0 S1 0 from by first | (with_reducible exact (KX.out).below hb) | (with_reducible exact (KX.out.alloc _).below hb) | (with_reducible exact ((KX.out.alloc _).alloc _).below hb))
  have KY := Lib.hid (show Cells5 x5 x4.heap.size 0 0 0 ⟨#[]⟩ 0 from by first | (with_reducible exact (cells5_s _ _ _ _ _ _ _).below hb) | (with_reducible exact ((cells5_s _ _ _ _ _ _ _).alloc _).below hb))
  have HA : Hid (Below w.heap.size w x5) := by
    have h0 := HA.out
    have hs := h0.size
    show Below _ _ _
    (repeat' (first | (with_reducible exact Below.refl _ _) | (with_reducible assumption) | (with_reducible refine Below.alloc ?_ ?_ _) | (with_reducible refine below_drewN ?_ _) | (with_reducible refine Below.drew ?_) | (with_reducible refine Below.setCell ?_ ?_ _) | (with_reducible refine below_via (by assumption) ?_ ?_) | (with_reducible refine below_via (later_below _) ?_ ?_) | (with_reducible exact Nat.le_refl _) | omega | (simp; omega) | (simp; done)))
  clear hb
  go_wp2_with fail -- end
  go_returns
  exact ⟨rfl, HA.out⟩
end Go.Proofs.YtfclmnglckikbaaGreatDoor
