/- The law NumlibRounds holds: for every input it returns true, and each argument reads as it did, where the library's tables read as its text lays them. No other conditions. -/
import Derived.Test.YtfclmnglckikbaaGreatDoorMNlH
import Derived.Test.YtfclmnglckikbaaGreatDoorMLaid
import Derived.Test.YtfclmnglckikbaaGreatDoorCards
import Derived.Test.YtfclmnglckikbaaGreatDoorTie
namespace Go.Proofs.YtfclmnglckikbaaGreatDoor.numlibRounds
open Go.ChangeShapes Go.WideShapes Go.ChangeAt Go.RowKit Go.Joins
open Go.ChangeMaps (open_string shut_string)
set_option linter.unusedVariables false

set_option maxHeartbeats 4000000 in
set_option maxRecDepth 100000 in
theorem walk (aP aQ : Int) (waP : (Lit.int .i64 aP).wf = true) (waQ : (Lit.int .i64 aQ).wf = true) (w : World) (hT : Tabs w) :
    Calls Tryz.prog 6 #[.agg #[.int .i64 aP, .int .i64 aQ]] w fun e w' => e = .returned (.bool true) ∧ Below w.heap.size w w' := by
  obtain ⟨p1, p2⟩ := bounds_i64 waP
  have HT := Lib.hid hT
  clear hT
  have HW : Hid (∀ w', Tabs w' → Calls Tryz.prog 9 #[] w' fun e w'' => e = .returned (.bool true) ∧ Below w'.heap.size w' w'') := fun w' hT' => awake_any w' hT'
  have HV : Hid (∀ w', Calls Tryz.prog 13 #[vV 2 aP aQ ⟨#[]⟩ 0] w' fun e w'' => e = .returned (.bool (vldB aP aQ)) ∧ Below w'.heap.size w' w'') := fun w' => by have h := rvv_v 2 aP aQ ⟨#[]⟩ 0 w' (by decide) p1 p2; rw [valid2] at h; exact h
  cases hv : vldB aP aQ
  · rw [hv] at HV
    clear hv
    go_enter Tryz.func6, Tryz.ntmps6
    go_wp2_with (first | (go_at_call 13; (with_reducible refine (HV.out _).mono ?_); rintro e w9 ⟨rfl, hb⟩; (refine mem hb ?_; intro N hN hz hc hf; (try simp at hN); subst hN)) | (go_at_call 9; (with_reducible refine (HW.out _ (HT.out.later ?_)).mono ?_); (focus ((repeat' (first | (with_reducible exact Below.refl _ _) | (with_reducible assumption) | (with_reducible refine Below.alloc ?_ ?_ _) | (with_reducible refine below_drewN ?_ _) | (with_reducible refine Below.drew ?_) | (with_reducible refine Below.setCell ?_ ?_ _) | (with_reducible refine below_via (by assumption) ?_ ?_) | (with_reducible refine below_via (later_below _) ?_ ?_) | (with_reducible exact Nat.le_refl _) | omega | (simp; omega) | (simp; done))))); rintro e w9 ⟨rfl, hb⟩; (refine mem hb ?_; intro N hN hz hc hf; (try simp at hN); subst hN)))
    go_returns
    refine ⟨rfl, ?_⟩
    (repeat' (first | (with_reducible exact Below.refl _ _) | (with_reducible assumption) | (with_reducible refine Below.alloc ?_ ?_ _) | (with_reducible refine below_drewN ?_ _) | (with_reducible refine Below.drew ?_) | (with_reducible refine Below.setCell ?_ ?_ _) | (with_reducible refine below_via (by assumption) ?_ ?_) | (with_reducible refine below_via (later_below _) ?_ ?_) | (with_reducible exact Nat.le_refl _) | omega | (simp; omega) | (simp; done)))
  · rw [hv] at HV
    obtain ⟨b1, b2, b3, b4⟩ := vld_bd hv
    obtain ⟨-, f1, f2⟩ := floor_T hv
    obtain ⟨-, c1, c2, c3, -⟩ := ceil_T hv
    obtain ⟨-, g1, -⟩ := floor_T (neg_vld hv)
    have e1 := bg_floor hv
    have e2 := bg_ceil hv
    have e3 := bg_floor (neg_vld hv)
    have fb := vld_bd f1
    have cb := vld_bd c1
    have gb := vld_bd g1
    have hneg : negT aP aQ = (-aP, aQ, 0) := by unfold negT; rw [if_pos hv]
    obtain ⟨X1, hX1⟩ : ∃ X, cmpT (aP.fdiv aQ) 1 aP aQ = X := ⟨_, rfl⟩
    obtain ⟨X2, hX2⟩ : ∃ X, cmpT (-((-aP).fdiv aQ)) 1 aP aQ = X := ⟨_, rfl⟩
    rw [hX1] at f2
    rw [hX2] at c2
    generalize aP.fdiv aQ = F at *
    generalize (-aP).fdiv aQ = G at *
    have HR1 : Hid (∀ (w' : World) (t : TypeId) (B : Nat), B = w'.heap.size → Tabs (w'.alloc (.cells #[.int .i64 2, .int .i64 aP, .int .i64 aQ, .string ⟨#[]⟩, .int .i64 0] t)) → Calls Tryz.prog 18 #[.string ⟨#[110, 117, 109, 98, 101, 114, 46, 102, 108, 111, 111, 114]⟩, .slice (some ⟨B, 0, none⟩) 1 1] (w'.alloc (.cells #[.int .i64 2, .int .i64 aP, .int .i64 aQ, .string ⟨#[]⟩, .int .i64 0] t)) fun e w'' => e = .returned (.tuple #[vV 2 F 1 ⟨#[]⟩ 0, .bool true]) ∧ Below (w'.alloc (.cells #[.int .i64 2, .int .i64 aP, .int .i64 aQ, .string ⟨#[]⟩, .int .i64 0] t)).heap.size (w'.alloc (.cells #[.int .i64 2, .int .i64 aP, .int .i64 aQ, .string ⟨#[]⟩, .int .i64 0] t)) w'') := fun w' t B hB hT' => by
      subst hB
      have E : Env (w'.alloc (.cells #[.int .i64 2, .int .i64 aP, .int .i64 aQ, .string ⟨#[]⟩, .int .i64 0] t)) (some ⟨w'.heap.size, 0, none⟩) 1 1 [⟨2, aP, aQ, ⟨#[]⟩, 0⟩] := env1 hT' ⟨show (-9223372036854775808 : Int) ≤ aP by omega, show aP ≤ (9223372036854775807 : Int) by omega, by first | assumption | (show (0 : Nat) ≤ 9223372036854775807; omega)⟩ (at_new _ _ _ 0 _ _ _ _ _ rfl rfl rfl rfl rfl)
      have h := result_at E 5 (by omega)
      rw [e1] at h
      exact h
    have HR2 : Hid (∀ (w' : World) (t : TypeId) (B : Nat), B = w'.heap.size → Tabs (w'.alloc (.cells #[.int .i64 2, .int .i64 aP, .int .i64 aQ, .string ⟨#[]⟩, .int .i64 0] t)) → Calls Tryz.prog 18 #[.string ⟨#[110, 117, 109, 98, 101, 114, 46, 99, 101, 105, 108]⟩, .slice (some ⟨B, 0, none⟩) 1 1] (w'.alloc (.cells #[.int .i64 2, .int .i64 aP, .int .i64 aQ, .string ⟨#[]⟩, .int .i64 0] t)) fun e w'' => e = .returned (.tuple #[vV 2 (-G) 1 ⟨#[]⟩ 0, .bool true]) ∧ Below (w'.alloc (.cells #[.int .i64 2, .int .i64 aP, .int .i64 aQ, .string ⟨#[]⟩, .int .i64 0] t)).heap.size (w'.alloc (.cells #[.int .i64 2, .int .i64 aP, .int .i64 aQ, .string ⟨#[]⟩, .int .i64 0] t)) w'') := fun w' t B hB hT' => by
      subst hB
      have E : Env (w'.alloc (.cells #[.int .i64 2, .int .i64 aP, .int .i64 aQ, .string ⟨#[]⟩, .int .i64 0] t)) (some ⟨w'.heap.size, 0, none⟩) 1 1 [⟨2, aP, aQ, ⟨#[]⟩, 0⟩] := env1 hT' ⟨show (-9223372036854775808 : Int) ≤ aP by omega, show aP ≤ (9223372036854775807 : Int) by omega, by first | assumption | (show (0 : Nat) ≤ 9223372036854775807; omega)⟩ (at_new _ _ _ 0 _ _ _ _ _ rfl rfl rfl rfl rfl)
      have h := result_at E 2 (by omega)
      rw [e2] at h
      exact h
    have HR3 : Hid (∀ (w' : World) (t : TypeId) (B : Nat), B = w'.heap.size → Tabs (w'.alloc (.cells #[.int .i64 2, .int .i64 (-aP), .int .i64 aQ, .string ⟨#[]⟩, .int .i64 0] t)) → Calls Tryz.prog 18 #[.string ⟨#[110, 117, 109, 98, 101, 114, 46, 102, 108, 111, 111, 114]⟩, .slice (some ⟨B, 0, none⟩) 1 1] (w'.alloc (.cells #[.int .i64 2, .int .i64 (-aP), .int .i64 aQ, .string ⟨#[]⟩, .int .i64 0] t)) fun e w'' => e = .returned (.tuple #[vV 2 G 1 ⟨#[]⟩ 0, .bool true]) ∧ Below (w'.alloc (.cells #[.int .i64 2, .int .i64 (-aP), .int .i64 aQ, .string ⟨#[]⟩, .int .i64 0] t)).heap.size (w'.alloc (.cells #[.int .i64 2, .int .i64 (-aP), .int .i64 aQ, .string ⟨#[]⟩, .int .i64 0] t)) w'') := fun w' t B hB hT' => by
      subst hB
      have E : Env (w'.alloc (.cells #[.int .i64 2, .int .i64 (-aP), .int .i64 aQ, .string ⟨#[]⟩, .int .i64 0] t)) (some ⟨w'.heap.size, 0, none⟩) 1 1 [⟨2, (-aP), aQ, ⟨#[]⟩, 0⟩] := env1 hT' ⟨show (-9223372036854775808 : Int) ≤ (-aP) by omega, show (-aP) ≤ (9223372036854775807 : Int) by omega, by first | assumption | (show (0 : Nat) ≤ 9223372036854775807; omega)⟩ (at_new _ _ _ 0 _ _ _ _ _ rfl rfl rfl rfl rfl)
      have h := result_at E 5 (by omega)
      rw [e3] at h
      exact h
    have HN : Hid (∀ w', Calls Tryz.prog 20 #[.agg #[.int .i64 aP, .int .i64 aQ]] w' fun e w'' => e = .returned (.tuple #[.agg #[.int .i64 (-aP), .int .i64 aQ], .int .i64 0]) ∧ Below w'.heap.size w' w'') := fun w' => by have h := neg_any aP aQ w' p1 p2; rw [hneg] at h; exact h
    have HC1 : Hid (∀ w', Calls Tryz.prog 21 #[.agg #[.int .i64 F, .int .i64 1], .agg #[.int .i64 aP, .int .i64 aQ]] w' fun e w'' => e = .returned (.int .i64 X1) ∧ Below w'.heap.size w' w'') := fun w' => by have h := cmp_any F 1 aP aQ w' (by omega) (by omega) (by omega) (by omega); rw [hX1] at h; exact h
    have HC2 : Hid (∀ w', Calls Tryz.prog 21 #[.agg #[.int .i64 (-G), .int .i64 1], .agg #[.int .i64 aP, .int .i64 aQ]] w' fun e w'' => e = .returned (.int .i64 X2) ∧ Below w'.heap.size w' w'') := fun w' => by have h := cmp_any (-G) 1 aP aQ w' (by omega) (by omega) (by omega) (by omega); rw [hX2] at h; exact h
    obtain ⟨-, -, fb3, fb4⟩ := fb
    obtain ⟨-, -, cb3, cb4⟩ := cb
    obtain ⟨-, -, gb3, gb4⟩ := gb
    clear hv f1 c1 g1 e1 e2 e3 hneg hX1 hX2
    have HA : Hid (Below w.heap.size w w) := Below.refl _ _
    go_enter Tryz.func6, Tryz.ntmps6
    go_wp2_with fail -- Valid
    refine (HV.out _).mono ?_
    rintro e x1 ⟨rfl, hb⟩
    have KA := Lib.hid (show Cells2 x1 w.heap.size (.int .i64 aP) (.int .i64 aQ) from by first | (with_reducible exact (cells2_at _ _ _ _).below hb) | (with_reducible exact ((cells2_at _ _ _ _).alloc _).below hb))
    have KV := Lib.hid (show Cells5 x1 (w.heap.size + 1) 2 aP aQ ⟨#[]⟩ 0 from by first | (with_reducible exact (cells5_at _ _ _ _ _ _ _ _ (by simp)).below hb) | (with_reducible exact ((cells5_at _ _ _ _ _ _ _ _ (by simp)).alloc _).below hb))
    have HA : Hid (Below w.heap.size w x1) := by
      have h0 := HA.out
      have hs := h0.size
      show Below _ _ _
      (repeat' (first | (with_reducible exact Below.refl _ _) | (with_reducible assumption) | (with_reducible refine Below.alloc ?_ ?_ _) | (with_reducible refine below_drewN ?_ _) | (with_reducible refine Below.drew ?_) | (with_reducible refine Below.setCell ?_ ?_ _) | (with_reducible refine below_via (by assumption) ?_ ?_) | (with_reducible refine below_via (later_below _) ?_ ?_) | (with_reducible exact Nat.le_refl _) | omega | (simp; omega) | (simp; done)))
    clear hb
    have KAlt := cell_lt KA.out.1
    obtain ⟨KA0, KA1⟩ := KA.out
    go_wp2_with fail -- Neg
    clear KAlt KA0 KA1
    refine (HN.out _).mono ?_
    rintro e x2 ⟨rfl, hb⟩
    have KA := Lib.hid (show Cells2 x2 w.heap.size (.int .i64 aP) (.int .i64 aQ) from by first | (with_reducible exact (KA.out).below hb) | (with_reducible exact (KA.out.alloc _).below hb) | (with_reducible exact ((KA.out.alloc _).alloc _).below hb))
    have KV := Lib.hid (show Cells5 x2 (w.heap.size + 1) 2 aP aQ ⟨#[]⟩ 0 from by first | (with_reducible exact (KV.out).below hb) | (with_reducible exact (KV.out.alloc _).below hb) | (with_reducible exact ((KV.out.alloc _).alloc _).below hb))
    have HA : Hid (Below w.heap.size w x2) := by
      have h0 := HA.out
      have hs := h0.size
      show Below _ _ _
      (repeat' (first | (with_reducible exact Below.refl _ _) | (with_reducible assumption) | (with_reducible refine Below.alloc ?_ ?_ _) | (with_reducible refine below_drewN ?_ _) | (with_reducible refine Below.drew ?_) | (with_reducible refine Below.setCell ?_ ?_ _) | (with_reducible refine below_via (by assumption) ?_ ?_) | (with_reducible refine below_via (later_below _) ?_ ?_) | (with_reducible exact Nat.le_refl _) | omega | (simp; omega) | (simp; done)))
    clear hb
    have KVlt := cell_lt KV.out.1
    obtain ⟨KV0, KV1, KV2, KV3, KV4⟩ := KV.out
    go_wp2_with fail -- floor
    clear KVlt KV0 KV1 KV2 KV3 KV4
    refine (HR1.out _ _ _ ?_ (HT.out.later ?_)).mono ?_
    · simp
    · have h0 := HA.out
      have hs := h0.size
      (repeat' (first | (with_reducible exact Below.refl _ _) | (with_reducible assumption) | (with_reducible refine Below.alloc ?_ ?_ _) | (with_reducible refine below_drewN ?_ _) | (with_reducible refine Below.drew ?_) | (with_reducible refine Below.setCell ?_ ?_ _) | (with_reducible refine below_via (by assumption) ?_ ?_) | (with_reducible refine below_via (later_below _) ?_ ?_) | (with_reducible exact Nat.le_refl _) | omega | (simp; omega) | (simp; done)))
    rintro e x3 ⟨rfl, hb⟩
    have KA := Lib.hid (show Cells2 x3 w.heap.size (.int .i64 aP) (.int .i64 aQ) from by first | (with_reducible exact (KA.out).below hb) | (with_reducible exact (KA.out.alloc _).below hb) | (with_reducible exact ((KA.out.alloc _).alloc _).below hb))
    have KV := Lib.hid (show Cells5 x3 (w.heap.size + 1) 2 aP aQ ⟨#[]⟩ 0 from by first | (with_reducible exact (KV.out).below hb) | (with_reducible exact (KV.out.alloc _).below hb) | (with_reducible exact ((KV.out.alloc _).alloc _).below hb))
    have K4 := Lib.hid (show Cells2 x3 x2.heap.size (.int .i64 (-aP)) (.int .i64 aQ) from by first | (with_reducible exact (cells2_at _ _ _ _).below hb) | (with_reducible exact ((cells2_at _ _ _ _).alloc _).below hb))
    have HA : Hid (Below w.heap.size w x3) := by
      have h0 := HA.out
      have hs := h0.size
      show Below _ _ _
      (repeat' (first | (with_reducible exact Below.refl _ _) | (with_reducible assumption) | (with_reducible refine Below.alloc ?_ ?_ _) | (with_reducible refine below_drewN ?_ _) | (with_reducible refine Below.drew ?_) | (with_reducible refine Below.setCell ?_ ?_ _) | (with_reducible refine below_via (by assumption) ?_ ?_) | (with_reducible refine below_via (later_below _) ?_ ?_) | (with_reducible exact Nat.le_refl _) | omega | (simp; omega) | (simp; done)))
    clear hb
    have KVlt := cell_lt KV.out.1
    obtain ⟨KV0, KV1, KV2, KV3, KV4⟩ := KV.out
    go_wp2_with fail -- ceil
    clear KVlt KV0 KV1 KV2 KV3 KV4
    refine (HR2.out _ _ _ ?_ (HT.out.later ?_)).mono ?_
    · simp
    · have h0 := HA.out
      have hs := h0.size
      (repeat' (first | (with_reducible exact Below.refl _ _) | (with_reducible assumption) | (with_reducible refine Below.alloc ?_ ?_ _) | (with_reducible refine below_drewN ?_ _) | (with_reducible refine Below.drew ?_) | (with_reducible refine Below.setCell ?_ ?_ _) | (with_reducible refine below_via (by assumption) ?_ ?_) | (with_reducible refine below_via (later_below _) ?_ ?_) | (with_reducible exact Nat.le_refl _) | omega | (simp; omega) | (simp; done)))
    rintro e x4 ⟨rfl, hb⟩
    have KA := Lib.hid (show Cells2 x4 w.heap.size (.int .i64 aP) (.int .i64 aQ) from by first | (with_reducible exact (KA.out).below hb) | (with_reducible exact (KA.out.alloc _).below hb) | (with_reducible exact ((KA.out.alloc _).alloc _).below hb))
    have KV := Lib.hid (show Cells5 x4 (w.heap.size + 1) 2 aP aQ ⟨#[]⟩ 0 from by first | (with_reducible exact (KV.out).below hb) | (with_reducible exact (KV.out.alloc _).below hb) | (with_reducible exact ((KV.out.alloc _).alloc _).below hb))
    have K4 := Lib.hid (show Cells2 x4 x2.heap.size (.int .i64 (-aP)) (.int .i64 aQ) from by first | (with_reducible exact (K4.out).below hb) | (with_reducible exact (K4.out.alloc _).below hb) | (with_reducible exact ((K4.out.alloc _).alloc _).below hb))
    have K6 := Lib.hid (show Cells5 x4 x3.heap.size 2 F 1 ⟨#[]⟩ 0 from by first | (with_reducible exact (cells5_s _ _ _ _ _ _ _).below hb) | (with_reducible exact ((cells5_s _ _ _ _ _ _ _).alloc _).below hb))
    have HA : Hid (Below w.heap.size w x4) := by
      have h0 := HA.out
      have hs := h0.size
      show Below _ _ _
      (repeat' (first | (with_reducible exact Below.refl _ _) | (with_reducible assumption) | (with_reducible refine Below.alloc ?_ ?_ _) | (with_reducible refine below_drewN ?_ _) | (with_reducible refine Below.drew ?_) | (with_reducible refine Below.setCell ?_ ?_ _) | (with_reducible refine below_via (by assumption) ?_ ?_) | (with_reducible refine below_via (later_below _) ?_ ?_) | (with_reducible exact Nat.le_refl _) | omega | (simp; omega) | (simp; done)))
    clear hb
    have K4lt := cell_lt K4.out.1
    obtain ⟨K40, K41⟩ := K4.out
    go_wp2_with fail -- floor2
    clear K4lt K40 K41
    refine (HR3.out _ _ _ ?_ (HT.out.later ?_)).mono ?_
    · simp
    · have h0 := HA.out
      have hs := h0.size
      (repeat' (first | (with_reducible exact Below.refl _ _) | (with_reducible assumption) | (with_reducible refine Below.alloc ?_ ?_ _) | (with_reducible refine below_drewN ?_ _) | (with_reducible refine Below.drew ?_) | (with_reducible refine Below.setCell ?_ ?_ _) | (with_reducible refine below_via (by assumption) ?_ ?_) | (with_reducible refine below_via (later_below _) ?_ ?_) | (with_reducible exact Nat.le_refl _) | omega | (simp; omega) | (simp; done)))
    rintro e x5 ⟨rfl, hb⟩
    have KA := Lib.hid (show Cells2 x5 w.heap.size (.int .i64 aP) (.int .i64 aQ) from by first | (with_reducible exact (KA.out).below hb) | (with_reducible exact (KA.out.alloc _).below hb) | (with_reducible exact ((KA.out.alloc _).alloc _).below hb))
    have KV := Lib.hid (show Cells5 x5 (w.heap.size + 1) 2 aP aQ ⟨#[]⟩ 0 from by first | (with_reducible exact (KV.out).below hb) | (with_reducible exact (KV.out.alloc _).below hb) | (with_reducible exact ((KV.out.alloc _).alloc _).below hb))
    have K4 := Lib.hid (show Cells2 x5 x2.heap.size (.int .i64 (-aP)) (.int .i64 aQ) from by first | (with_reducible exact (K4.out).below hb) | (with_reducible exact (K4.out.alloc _).below hb) | (with_reducible exact ((K4.out.alloc _).alloc _).below hb))
    have K6 := Lib.hid (show Cells5 x5 x3.heap.size 2 F 1 ⟨#[]⟩ 0 from by first | (with_reducible exact (K6.out).below hb) | (with_reducible exact (K6.out.alloc _).below hb) | (with_reducible exact ((K6.out.alloc _).alloc _).below hb))
    have K8 := Lib.hid (show Cells5 x5 x4.heap.size 2 (-G) 1 ⟨#[]⟩ 0 from by first | (with_reducible exact (cells5_s _ _ _ _ _ _ _).below hb) | (with_reducible exact ((cells5_s _ _ _ _ _ _ _).alloc _).below hb))
    have HA : Hid (Below w.heap.size w x5) := by
      have h0 := HA.out
      have hs := h0.size
      show Below _ _ _
      (repeat' (first | (with_reducible exact Below.refl _ _) | (with_reducible assumption) | (with_reducible refine Below.alloc ?_ ?_ _) | (with_reducible refine below_drewN ?_ _) | (with_reducible refine Below.drew ?_) | (with_reducible refine Below.setCell ?_ ?_ _) | (with_reducible refine below_via (by assumption) ?_ ?_) | (with_reducible refine below_via (later_below _) ?_ ?_) | (with_reducible exact Nat.le_refl _) | omega | (simp; omega) | (simp; done)))
    clear hb
    have K6lt := cell_lt K6.out.1
    obtain ⟨K60, K61, K62, K63, K64⟩ := K6.out
    have K8lt := cell_lt K8.out.1
    obtain ⟨K80, K81, K82, K83, K84⟩ := K8.out
    have KAlt := cell_lt KA.out.1
    obtain ⟨KA0, KA1⟩ := KA.out
    go_wp2_with fail -- Cmp
    clear K6lt K60 K61 K62 K63 K64 K8lt K80 K81 K82 K83 K84 KAlt KA0 KA1
    refine (HC1.out _).mono ?_
    rintro e x6 ⟨rfl, hb⟩
    have KA := Lib.hid (show Cells2 x6 w.heap.size (.int .i64 aP) (.int .i64 aQ) from by first | (with_reducible exact (KA.out).below hb) | (with_reducible exact (KA.out.alloc _).below hb) | (with_reducible exact ((KA.out.alloc _).alloc _).below hb))
    have KV := Lib.hid (show Cells5 x6 (w.heap.size + 1) 2 aP aQ ⟨#[]⟩ 0 from by first | (with_reducible exact (KV.out).below hb) | (with_reducible exact (KV.out.alloc _).below hb) | (with_reducible exact ((KV.out.alloc _).alloc _).below hb))
    have K4 := Lib.hid (show Cells2 x6 x2.heap.size (.int .i64 (-aP)) (.int .i64 aQ) from by first | (with_reducible exact (K4.out).below hb) | (with_reducible exact (K4.out.alloc _).below hb) | (with_reducible exact ((K4.out.alloc _).alloc _).below hb))
    have K6 := Lib.hid (show Cells5 x6 x3.heap.size 2 F 1 ⟨#[]⟩ 0 from by first | (with_reducible exact (K6.out).below hb) | (with_reducible exact (K6.out.alloc _).below hb) | (with_reducible exact ((K6.out.alloc _).alloc _).below hb))
    have K8 := Lib.hid (show Cells5 x6 x4.heap.size 2 (-G) 1 ⟨#[]⟩ 0 from by first | (with_reducible exact (K8.out).below hb) | (with_reducible exact (K8.out.alloc _).below hb) | (with_reducible exact ((K8.out.alloc _).alloc _).below hb))
    have K10 := Lib.hid (show Cells5 x6 x5.heap.size 2 G 1 ⟨#[]⟩ 0 from by first | (with_reducible exact (cells5_s _ _ _ _ _ _ _).below hb) | (with_reducible exact ((cells5_s _ _ _ _ _ _ _).alloc _).below hb))
    have HA : Hid (Below w.heap.size w x6) := by
      have h0 := HA.out
      have hs := h0.size
      show Below _ _ _
      (repeat' (first | (with_reducible exact Below.refl _ _) | (with_reducible assumption) | (with_reducible refine Below.alloc ?_ ?_ _) | (with_reducible refine below_drewN ?_ _) | (with_reducible refine Below.drew ?_) | (with_reducible refine Below.setCell ?_ ?_ _) | (with_reducible refine below_via (by assumption) ?_ ?_) | (with_reducible refine below_via (later_below _) ?_ ?_) | (with_reducible exact Nat.le_refl _) | omega | (simp; omega) | (simp; done)))
    clear hb
    have K8lt := cell_lt K8.out.1
    obtain ⟨K80, K81, K82, K83, K84⟩ := K8.out
    have KAlt := cell_lt KA.out.1
    obtain ⟨KA0, KA1⟩ := KA.out
    go_wp2_with fail -- Cmp2
    clear K8lt K80 K81 K82 K83 K84 KAlt KA0 KA1
    refine (HC2.out _).mono ?_
    rintro e x7 ⟨rfl, hb⟩
    have KA := Lib.hid (show Cells2 x7 w.heap.size (.int .i64 aP) (.int .i64 aQ) from by first | (with_reducible exact (KA.out).below hb) | (with_reducible exact (KA.out.alloc _).below hb) | (with_reducible exact ((KA.out.alloc _).alloc _).below hb))
    have KV := Lib.hid (show Cells5 x7 (w.heap.size + 1) 2 aP aQ ⟨#[]⟩ 0 from by first | (with_reducible exact (KV.out).below hb) | (with_reducible exact (KV.out.alloc _).below hb) | (with_reducible exact ((KV.out.alloc _).alloc _).below hb))
    have K4 := Lib.hid (show Cells2 x7 x2.heap.size (.int .i64 (-aP)) (.int .i64 aQ) from by first | (with_reducible exact (K4.out).below hb) | (with_reducible exact (K4.out.alloc _).below hb) | (with_reducible exact ((K4.out.alloc _).alloc _).below hb))
    have K6 := Lib.hid (show Cells5 x7 x3.heap.size 2 F 1 ⟨#[]⟩ 0 from by first | (with_reducible exact (K6.out).below hb) | (with_reducible exact (K6.out.alloc _).below hb) | (with_reducible exact ((K6.out.alloc _).alloc _).below hb))
    have K8 := Lib.hid (show Cells5 x7 x4.heap.size 2 (-G) 1 ⟨#[]⟩ 0 from by first | (with_reducible exact (K8.out).below hb) | (with_reducible exact (K8.out.alloc _).below hb) | (with_reducible exact ((K8.out.alloc _).alloc _).below hb))
    have K10 := Lib.hid (show Cells5 x7 x5.heap.size 2 G 1 ⟨#[]⟩ 0 from by first | (with_reducible exact (K10.out).below hb) | (with_reducible exact (K10.out.alloc _).below hb) | (with_reducible exact ((K10.out.alloc _).alloc _).below hb))
    have HA : Hid (Below w.heap.size w x7) := by
      have h0 := HA.out
      have hs := h0.size
      show Below _ _ _
      (repeat' (first | (with_reducible exact Below.refl _ _) | (with_reducible assumption) | (with_reducible refine Below.alloc ?_ ?_ _) | (with_reducible refine below_drewN ?_ _) | (with_reducible refine Below.drew ?_) | (with_reducible refine Below.setCell ?_ ?_ _) | (with_reducible refine below_via (by assumption) ?_ ?_) | (with_reducible refine below_via (later_below _) ?_ ?_) | (with_reducible exact Nat.le_refl _) | omega | (simp; omega) | (simp; done)))
    clear hb
    have K8lt := cell_lt K8.out.1
    obtain ⟨K80, K81, K82, K83, K84⟩ := K8.out
    have K10lt := cell_lt K10.out.1
    obtain ⟨K100, K101, K102, K103, K104⟩ := K10.out
    have K6lt := cell_lt K6.out.1
    obtain ⟨K60, K61, K62, K63, K64⟩ := K6.out
    go_wp2_with fail -- awake
    clear K8lt K80 K81 K82 K83 K84 K10lt K100 K101 K102 K103 K104 K6lt K60 K61 K62 K63 K64
    refine (HW.out _ (HT.out.later ?_)).mono ?_
    · have h0 := HA.out
      have hs := h0.size
      (repeat' (first | (with_reducible exact Below.refl _ _) | (with_reducible assumption) | (with_reducible refine Below.alloc ?_ ?_ _) | (with_reducible refine below_drewN ?_ _) | (with_reducible refine Below.drew ?_) | (with_reducible refine Below.setCell ?_ ?_ _) | (with_reducible refine below_via (by assumption) ?_ ?_) | (with_reducible refine below_via (later_below _) ?_ ?_) | (with_reducible exact Nat.le_refl _) | omega | (simp; omega) | (simp; done)))
    rintro e x8 ⟨rfl, hb⟩
    have KA := Lib.hid (show Cells2 x8 w.heap.size (.int .i64 aP) (.int .i64 aQ) from by first | (with_reducible exact (KA.out).below hb) | (with_reducible exact (KA.out.alloc _).below hb) | (with_reducible exact ((KA.out.alloc _).alloc _).below hb))
    have KV := Lib.hid (show Cells5 x8 (w.heap.size + 1) 2 aP aQ ⟨#[]⟩ 0 from by first | (with_reducible exact (KV.out).below hb) | (with_reducible exact (KV.out.alloc _).below hb) | (with_reducible exact ((KV.out.alloc _).alloc _).below hb))
    have K4 := Lib.hid (show Cells2 x8 x2.heap.size (.int .i64 (-aP)) (.int .i64 aQ) from by first | (with_reducible exact (K4.out).below hb) | (with_reducible exact (K4.out.alloc _).below hb) | (with_reducible exact ((K4.out.alloc _).alloc _).below hb))
    have K6 := Lib.hid (show Cells5 x8 x3.heap.size 2 F 1 ⟨#[]⟩ 0 from by first | (with_reducible exact (K6.out).below hb) | (with_reducible exact (K6.out.alloc _).below hb) | (with_reducible exact ((K6.out.alloc _).alloc _).below hb))
    have K8 := Lib.hid (show Cells5 x8 x4.heap.size 2 (-G) 1 ⟨#[]⟩ 0 from by first | (with_reducible exact (K8.out).below hb) | (with_reducible exact (K8.out.alloc _).below hb) | (with_reducible exact ((K8.out.alloc _).alloc _).below hb))
    have K10 := Lib.hid (show Cells5 x8 x5.heap.size 2 G 1 ⟨#[]⟩ 0 from by first | (with_reducible exact (K10.out).below hb) | (with_reducible exact (K10.out.alloc _).below hb) | (with_reducible exact ((K10.out.alloc _).alloc _).below hb))
    have HA : Hid (Below w.heap.size w x8) := by
      have h0 := HA.out
      have hs := h0.size
      show Below _ _ _
      (repeat' (first | (with_reducible exact Below.refl _ _) | (with_reducible assumption) | (with_reducible refine Below.alloc ?_ ?_ _) | (with_reducible refine below_drewN ?_ _) | (with_reducible refine Below.drew ?_) | (with_reducible refine Below.setCell ?_ ?_ _) | (with_reducible refine below_via (by assumption) ?_ ?_) | (with_reducible refine below_via (later_below _) ?_ ?_) | (with_reducible exact Nat.le_refl _) | omega | (simp; omega) | (simp; done)))
    clear hb
    go_wp2_with fail -- end
    go_returns
    exact ⟨rfl, HA.out⟩

set_option maxHeartbeats 8000000 in
set_option maxRecDepth 100000 in
theorem lifted (os : Os) (started : os.Started) (H : Type) (enc : TypeId × Value → H) :
    ReturnsInHanded {} Tryz.checked os 6 .any (fun w args => (Rows.numlibRoundsSpec.pre enc Tryz.prog Tryz.f6 Rows.numlibRoundsRow.domain false w args ∧ laidMetH Tryz.prog laidS w) ∧ sizedMet enc Tryz.prog Tryz.f6 (OpenSpec.ofChange Rows.numlibRoundsSpec) false w args) (Rows.numlibRoundsSpec.post enc Tryz.prog Tryz.f6 false true false false) := by
  refine returnsInHanded_of_change_and (C := Tryz.checked) (X := fun w _ => laidMetH Tryz.prog laidS w) (fun _ _ _ hh h => h.of_heap hh) own started (by kernel_rfl) Tryz.func6
    (ChangeSpec.witness_shaped (enc := enc) (C := Tryz.checked) (os := os) (X := fun w _ => laidMetH Tryz.prog laidS w) false (World.laidAll Tryz.prog os laidS) #[.agg #[.int .i64 0, .int .i64 0]] 8 (World.laidAll_os _ _ _) (start_shaped os) (by kernel_rfl) (by kernel_rfl) (by kernel_rfl) (start_met os _)) ?_
  intro W base args ds gs before hval0 hW hcnd _ hL _
  have hT := laid_tabs hL
  have hval : ∀ (j : Nat) t v, Tryz.f6.params[j]? = some t → args[j]? = some v → Value.okWide Tryz.prog W .any base t v := hval0
  have hW' := hW
  obtain ⟨p, q, hA0, hV, rfl, hfz, hnd⟩ := hW
  have hA : DataW.TrodAll enc Tryz.prog W 0 (fun _ => true) true Tryz.f6.params.toList args.toList ds p := hA0
  rw [Tryz.params6] at hA hval
  obtain ⟨v0, vs0, d0, ds0, p0, q0, hargs, rfl, rfl, h0, r0⟩ := trodAll_cons hA
  obtain ⟨rfl, rfl, rfl⟩ := trodAll_nil r0
  obtain rfl : args = #[v0] := by cases args; simp_all
  obtain ⟨rfl, rfl⟩ := trodVars_none hV
  have k0 := h0
  have lt0 : ∀ x ∈ p0, x.block < W.heap.size := by obtain ⟨m, hm⟩ := k0; exact DataW.trod_lt m _ _ _ hm
  obtain ⟨c0, e0, y0, z0, m0, rfl, -, -, hy0, hz0⟩ := open_agg2 Tryz.underlying30 (by kernel_rfl) (by kernel_rfl) (hval 0 30 v0 rfl rfl) h0
  obtain ⟨aP, f0, -, waP⟩ := DataW.trod_int Tryz.underlying3 hy0
  obtain ⟨aQ, g0, -, waQ⟩ := DataW.trod_int Tryz.underlying3 hz0
  simp only [List.cons.injEq, and_true] at f0 g0
  subst f0 g0
  clear hA0 hval0
  refine (walk aP aQ waP waQ W hT).mono fun e W' ⟨he, bel⟩ => ?_
  subst he
  exact ⟨_, rfl, _, _, _, [], _, [], hW', trodAll_mk1 (shut_bool Tryz.underlying4 _), (trodAll_cons_mk (Below.trod laidOut (by kernel_rfl) (of_decide_eq_true (by kernel_rfl)) k0 bel lt0) trodAll_mk0), rfl, bel.frame _, fun h => by cases h⟩

theorem over : Rows.numlibRoundsRow.holds Tryz.pinned (OpenSpec.ofChange Rows.numlibRoundsSpec) :=
  OpenClaim.holds_of_wide 6 Tryz.f6 rfl rfl rfl rfl rfl rfl rfl ⟨rfl, rfl, rfl, rfl, rfl⟩ rfl rfl rfl rfl rfl (by kernel_rfl) Tryz.func6 (by kernel_rfl)
    (of_decide_eq_true (by kernel_rfl)) (by unfold Func.isWrapper; first | (rw [if_pos (by decide +kernel)]; kernel_rfl) | (rw [if_neg (by decide +kernel)]; exact ⟨rfl, rfl⟩))
    (fun os started H enc _ => lifted os started H enc)

/-- The given statement: the row, tied. -/
theorem proved : Rows.NumlibRoundsCardSaid :=
  Claim7.holds_tied_plain_at .later [] [.data, .data, .data, .data, .pinned] true _ false over (fun _ h => by cases h) (by kernel_rfl) (fun _ h => by cases h) numlibRounds_row_tie rfl ⟨rfl, rfl⟩ (by kernel_rfl) rfl
    (fun f fn hf hfn => by
      obtain rfl : f = 6 := Option.some.inj ((show Tryz.prog.funcNamed Rows.numlibRoundsRow.func = some 6 by kernel_rfl).symm.trans hf) |>.symm
      obtain rfl : fn = Tryz.f6 := (Option.some.inj (Tryz.func6.symm.trans hfn)).symm
      exact ⟨by kernel_rfl, fun j t ht => by
        rw [Tryz.params6] at ht
        have hm : t ∈ [30] := by simpa using Array.mem_of_getElem? ht
        have hall : ([30].all fun u => !Tryz.prog.wantsStandIn u) = true := by kernel_rfl
        exact (show Tryz.prog.wantsStandIn t = false by simpa using List.all_eq_true.1 hall t hm)⟩)
    (by kernel_rfl)
#print axioms proved
end Go.Proofs.YtfclmnglckikbaaGreatDoor.numlibRounds
