/- The law NumlibTypes holds: for every input it returns true, and each argument reads as it did, where the library's tables read as its text lays them. No other conditions. -/
import Derived.Test.YtfclmnglckikbaaGreatDoorMNlAw
import Derived.Test.YtfclmnglckikbaaGreatDoorMValW2
import Derived.Test.YtfclmnglckikbaaGreatDoorMValLaw
import Derived.Test.YtfclmnglckikbaaGreatDoorMLaid
import Derived.Test.YtfclmnglckikbaaGreatDoorCards
import Derived.Test.YtfclmnglckikbaaGreatDoorTie
namespace Go.Proofs.YtfclmnglckikbaaGreatDoor.numlibTypes
open Go.ChangeShapes Go.WideShapes Go.ChangeAt Go.RowKit Go.Joins
open Go.ChangeMaps (open_string shut_string)
set_option linter.unusedVariables false

set_option maxHeartbeats 4000000 in
set_option maxRecDepth 100000 in
theorem walk (vK vP vQ : Int) (vS : ByteArray) (vR : Int) (wvK : (Lit.int .i64 vK).wf = true) (wvP : (Lit.int .i64 vP).wf = true) (wvQ : (Lit.int .i64 vQ).wf = true) (wvS : vS.size ≤ maxLen) (wvR : (Lit.int .i64 vR).wf = true) (w : World) (hT : Tabs w) :
    Calls Tryz.prog 5 #[vV vK vP vQ vS vR] w fun e w' => e = .returned (.bool true) ∧ Below w.heap.size w w' := by
  obtain ⟨vk1, vk2⟩ := bounds_i64 wvK
  obtain ⟨vp1, vp2⟩ := bounds_i64 wvP
  obtain ⟨vr1, vr2⟩ := bounds_i64 wvR
  have vsz : vS.size ≤ 9223372036854775807 := by unfold maxLen at wvS; omega
  have HT := Lib.hid hT
  clear hT
  have HW : Hid (∀ w', Tabs w' → Calls Tryz.prog 9 #[] w' fun e w'' => e = .returned (.bool true) ∧ Below w'.heap.size w' w'') := fun w' hT' => awake_any w' hT'
  have HV : Hid (∀ w', Calls Tryz.prog 13 #[vV vK vP vQ vS vR] w' fun e w'' => e = .returned (.bool (validV vK vP vQ vS vR)) ∧ Below w'.heap.size w' w'') := fun w' => rvv_v _ _ _ _ _ w' vsz vp1 vp2
  have HS1 : Hid (∀ w', Calls Tryz.prog 19 #[.string ⟨#[102, 114, 97, 99, 116, 105, 111, 110]⟩] w' fun e w'' => e = .returned (vV 3 0 0 ⟨#[102, 114, 97, 99, 116, 105, 111, 110]⟩ 0) ∧ Below w'.heap.size w' w'') := fun w' => str_law _ w'
  have HS2 : Hid (∀ w', Calls Tryz.prog 19 #[.string ⟨#[105, 110, 116, 101, 103, 101, 114]⟩] w' fun e w'' => e = .returned (vV 3 0 0 ⟨#[105, 110, 116, 101, 103, 101, 114]⟩ 0) ∧ Below w'.heap.size w' w'') := fun w' => str_law _ w'
  cases hv : validV vK vP vQ vS vR
  · rw [hv] at HV
    clear hv
    go_enter Tryz.func5, Tryz.ntmps5
    go_wp2_with (first | (go_at_call 13; (with_reducible refine (HV.out _).mono ?_); rintro e w9 ⟨rfl, hb⟩; (refine mem hb ?_; intro N hN hz hc hf; (try simp at hN); subst hN)) | (go_at_call 9; (with_reducible refine (HW.out _ (HT.out.later ?_)).mono ?_); (focus ((repeat' (first | (with_reducible exact Below.refl _ _) | (with_reducible assumption) | (with_reducible refine Below.alloc ?_ ?_ _) | (with_reducible refine below_drewN ?_ _) | (with_reducible refine Below.drew ?_) | (with_reducible refine Below.setCell ?_ ?_ _) | (with_reducible refine below_via (by assumption) ?_ ?_) | (with_reducible refine below_via (later_below _) ?_ ?_) | (with_reducible exact Nat.le_refl _) | omega | (simp; omega) | (simp; done))))); rintro e w9 ⟨rfl, hb⟩; (refine mem hb ?_; intro N hN hz hc hf; (try simp at hN); subst hN)))
    ((try simp only [Exit.inBlock, Exit.then]); refine bodyPost_ret (by first | (simp [results, Tryz.results5, go_sem, *]; done) | (simp [results, Tryz.results5, go_sem, *]; rfl) | (simp [results, Tryz.results5, go_sem, ↓IntWalk.iteOmega, *]; try rfl)) rfl ?_)
    refine ⟨rfl, ?_⟩
    (repeat' (first | (with_reducible exact Below.refl _ _) | (with_reducible assumption) | (with_reducible refine Below.alloc ?_ ?_ _) | (with_reducible refine below_drewN ?_ _) | (with_reducible refine Below.drew ?_) | (with_reducible refine Below.setCell ?_ ?_ _) | (with_reducible refine below_via (by assumption) ?_ ?_) | (with_reducible refine below_via (later_below _) ?_ ?_) | (with_reducible exact Nat.le_refl _) | omega | (simp; omega) | (simp; done)))
  · rw [hv] at HV
    clear hv
    by_cases hk : vK = 2
    · subst hk
      by_cases hq : vQ = 1
      · subst hq
        have HR : Hid (∀ (w' : World) (t : TypeId) (B : Nat), B = w'.heap.size → Tabs (w'.alloc (.cells #[.int .i64 2, .int .i64 vP, .int .i64 1, .string vS, .int .i64 vR] t)) → Calls Tryz.prog 18 #[.string ⟨#[110, 117, 109, 98, 101, 114, 46, 116, 121, 112, 101]⟩, .slice (some ⟨B, 0, none⟩) 1 1] (w'.alloc (.cells #[.int .i64 2, .int .i64 vP, .int .i64 1, .string vS, .int .i64 vR] t)) fun e w'' => e = .returned (.tuple #[vV 3 0 0 ⟨#[105, 110, 116, 101, 103, 101, 114]⟩ 0, .bool true]) ∧ Below (w'.alloc (.cells #[.int .i64 2, .int .i64 vP, .int .i64 1, .string vS, .int .i64 vR] t)).heap.size (w'.alloc (.cells #[.int .i64 2, .int .i64 vP, .int .i64 1, .string vS, .int .i64 vR] t)) w'') := fun w' t B hB hT' => by
          subst hB
          have E : Env (w'.alloc (.cells #[.int .i64 2, .int .i64 vP, .int .i64 1, .string vS, .int .i64 vR] t)) (some ⟨w'.heap.size, 0, none⟩) 1 1 [⟨2, vP, 1, vS, vR⟩] := env1 hT' ⟨show (-9223372036854775808 : Int) ≤ vP by omega, show vP ≤ (9223372036854775807 : Int) by omega, by first | assumption | (show (0 : Nat) ≤ 9223372036854775807; omega)⟩ (at_new _ _ _ 0 _ _ _ _ _ rfl rfl rfl rfl rfl)
          have h := result_at E 10 (by omega)
          rw [show beginA 10 [⟨2, vP, 1, vS, vR⟩] = .inl ⟨3, 0, 0, ⟨#[105, 110, 116, 101, 103, 101, 114]⟩, 0⟩ from rfl] at h
          exact h
        go_enter Tryz.func5, Tryz.ntmps5
        go_wp2_with (first | (go_at_call 13; (with_reducible refine (HV.out _).mono ?_); rintro e w9 ⟨rfl, hb⟩; (refine mem hb ?_; intro N hN hz hc hf; (try simp at hN); subst hN)) | (go_at_call 18; (first | (with_reducible refine (HR.out _ _ _ ?_ (HT.out.later ?_)).mono ?_)); (focus (simp; done)); ((focus ((repeat' (first | (with_reducible exact Below.refl _ _) | (with_reducible assumption) | (with_reducible refine Below.alloc ?_ ?_ _) | (with_reducible refine below_drewN ?_ _) | (with_reducible refine Below.drew ?_) | (with_reducible refine Below.setCell ?_ ?_ _) | (with_reducible refine below_via (by assumption) ?_ ?_) | (with_reducible refine below_via (later_below _) ?_ ?_) | (with_reducible exact Nat.le_refl _) | omega | (simp; omega) | (simp; done)))))); rintro e w8 ⟨rfl, hb⟩; (refine mem hb ?_; intro N hN hz hc hf; (try simp at hN); subst hN)) | (go_at_call 19; (with_reducible refine (HS1.out _).mono ?_); rintro e w7 ⟨rfl, hb⟩; (refine mem hb ?_; intro N hN hz hc hf; (try simp at hN); subst hN)) | (go_at_call 19; (with_reducible refine (HS2.out _).mono ?_); rintro e w6 ⟨rfl, hb⟩; (refine mem hb ?_; intro N hN hz hc hf; (try simp at hN); subst hN)) | (go_at_call 9; (with_reducible refine (HW.out _ (HT.out.later ?_)).mono ?_); (focus ((repeat' (first | (with_reducible exact Below.refl _ _) | (with_reducible assumption) | (with_reducible refine Below.alloc ?_ ?_ _) | (with_reducible refine below_drewN ?_ _) | (with_reducible refine Below.drew ?_) | (with_reducible refine Below.setCell ?_ ?_ _) | (with_reducible refine below_via (by assumption) ?_ ?_) | (with_reducible refine below_via (later_below _) ?_ ?_) | (with_reducible exact Nat.le_refl _) | omega | (simp; omega) | (simp; done))))); rintro e w9 ⟨rfl, hb⟩; (refine mem hb ?_; intro N hN hz hc hf; (try simp at hN); subst hN)))
        ((try simp only [Exit.inBlock, Exit.then]); refine bodyPost_ret (by first | (simp [results, Tryz.results5, go_sem, *]; done) | (simp [results, Tryz.results5, go_sem, *]; rfl) | (simp [results, Tryz.results5, go_sem, ↓IntWalk.iteOmega, *]; try rfl)) rfl ?_)
        refine ⟨rfl, ?_⟩
        (repeat' (first | (with_reducible exact Below.refl _ _) | (with_reducible assumption) | (with_reducible refine Below.alloc ?_ ?_ _) | (with_reducible refine below_drewN ?_ _) | (with_reducible refine Below.drew ?_) | (with_reducible refine Below.setCell ?_ ?_ _) | (with_reducible refine below_via (by assumption) ?_ ?_) | (with_reducible refine below_via (later_below _) ?_ ?_) | (with_reducible exact Nat.le_refl _) | omega | (simp; omega) | (simp; done)))
      · have hq2 : (vQ == 1) = false := by simpa using hq
        have e : beginA 10 [⟨2, vP, vQ, vS, vR⟩] = .inl ⟨3, 0, 0, ⟨#[102, 114, 97, 99, 116, 105, 111, 110]⟩, 0⟩ := by
          show Sum.inl (kindA ⟨2, vP, vQ, vS, vR⟩) = _
          unfold kindA
          rw [if_pos rfl, if_neg hq]
          rfl
        have HR : Hid (∀ (w' : World) (t : TypeId) (B : Nat), B = w'.heap.size → Tabs (w'.alloc (.cells #[.int .i64 2, .int .i64 vP, .int .i64 vQ, .string vS, .int .i64 vR] t)) → Calls Tryz.prog 18 #[.string ⟨#[110, 117, 109, 98, 101, 114, 46, 116, 121, 112, 101]⟩, .slice (some ⟨B, 0, none⟩) 1 1] (w'.alloc (.cells #[.int .i64 2, .int .i64 vP, .int .i64 vQ, .string vS, .int .i64 vR] t)) fun e w'' => e = .returned (.tuple #[vV 3 0 0 ⟨#[102, 114, 97, 99, 116, 105, 111, 110]⟩ 0, .bool true]) ∧ Below (w'.alloc (.cells #[.int .i64 2, .int .i64 vP, .int .i64 vQ, .string vS, .int .i64 vR] t)).heap.size (w'.alloc (.cells #[.int .i64 2, .int .i64 vP, .int .i64 vQ, .string vS, .int .i64 vR] t)) w'') := fun w' t B hB hT' => by
          subst hB
          have E : Env (w'.alloc (.cells #[.int .i64 2, .int .i64 vP, .int .i64 vQ, .string vS, .int .i64 vR] t)) (some ⟨w'.heap.size, 0, none⟩) 1 1 [⟨2, vP, vQ, vS, vR⟩] := env1 hT' ⟨show (-9223372036854775808 : Int) ≤ vP by omega, show vP ≤ (9223372036854775807 : Int) by omega, by first | assumption | (show (0 : Nat) ≤ 9223372036854775807; omega)⟩ (at_new _ _ _ 0 _ _ _ _ _ rfl rfl rfl rfl rfl)
          have h := result_at E 10 (by omega)
          rw [e] at h
          exact h
        clear e hq
        go_enter Tryz.func5, Tryz.ntmps5
        go_wp2_with (first | (go_at_call 13; (with_reducible refine (HV.out _).mono ?_); rintro e w9 ⟨rfl, hb⟩; (refine mem hb ?_; intro N hN hz hc hf; (try simp at hN); subst hN)) | (go_at_call 18; (first | (with_reducible refine (HR.out _ _ _ ?_ (HT.out.later ?_)).mono ?_)); (focus (simp; done)); ((focus ((repeat' (first | (with_reducible exact Below.refl _ _) | (with_reducible assumption) | (with_reducible refine Below.alloc ?_ ?_ _) | (with_reducible refine below_drewN ?_ _) | (with_reducible refine Below.drew ?_) | (with_reducible refine Below.setCell ?_ ?_ _) | (with_reducible refine below_via (by assumption) ?_ ?_) | (with_reducible refine below_via (later_below _) ?_ ?_) | (with_reducible exact Nat.le_refl _) | omega | (simp; omega) | (simp; done)))))); rintro e w8 ⟨rfl, hb⟩; (refine mem hb ?_; intro N hN hz hc hf; (try simp at hN); subst hN)) | (go_at_call 19; (with_reducible refine (HS1.out _).mono ?_); rintro e w7 ⟨rfl, hb⟩; (refine mem hb ?_; intro N hN hz hc hf; (try simp at hN); subst hN)) | (go_at_call 19; (with_reducible refine (HS2.out _).mono ?_); rintro e w6 ⟨rfl, hb⟩; (refine mem hb ?_; intro N hN hz hc hf; (try simp at hN); subst hN)) | (go_at_call 9; (with_reducible refine (HW.out _ (HT.out.later ?_)).mono ?_); (focus ((repeat' (first | (with_reducible exact Below.refl _ _) | (with_reducible assumption) | (with_reducible refine Below.alloc ?_ ?_ _) | (with_reducible refine below_drewN ?_ _) | (with_reducible refine Below.drew ?_) | (with_reducible refine Below.setCell ?_ ?_ _) | (with_reducible refine below_via (by assumption) ?_ ?_) | (with_reducible refine below_via (later_below _) ?_ ?_) | (with_reducible exact Nat.le_refl _) | omega | (simp; omega) | (simp; done))))); rintro e w9 ⟨rfl, hb⟩; (refine mem hb ?_; intro N hN hz hc hf; (try simp at hN); subst hN)))
        ((try simp only [Exit.inBlock, Exit.then]); refine bodyPost_ret (by first | (simp [results, Tryz.results5, go_sem, *]; done) | (simp [results, Tryz.results5, go_sem, *]; rfl) | (simp [results, Tryz.results5, go_sem, ↓IntWalk.iteOmega, *]; try rfl)) rfl ?_)
        refine ⟨rfl, ?_⟩
        (repeat' (first | (with_reducible exact Below.refl _ _) | (with_reducible assumption) | (with_reducible refine Below.alloc ?_ ?_ _) | (with_reducible refine below_drewN ?_ _) | (with_reducible refine Below.drew ?_) | (with_reducible refine Below.setCell ?_ ?_ _) | (with_reducible refine below_via (by assumption) ?_ ?_) | (with_reducible refine below_via (later_below _) ?_ ?_) | (with_reducible exact Nat.le_refl _) | omega | (simp; omega) | (simp; done)))
    · have hk2 : (vK == 2) = false := by simpa using hk
      have e : beginA 10 [⟨vK, vP, vQ, vS, vR⟩] = .inl ⟨0, 0, 0, ⟨#[]⟩, 0⟩ := by
        show Sum.inl (kindA ⟨vK, vP, vQ, vS, vR⟩) = _
        unfold kindA
        rw [if_neg hk]
        rfl
      have HR : Hid (∀ (w' : World) (t : TypeId) (B : Nat), B = w'.heap.size → Tabs (w'.alloc (.cells #[.int .i64 vK, .int .i64 vP, .int .i64 vQ, .string vS, .int .i64 vR] t)) → Calls Tryz.prog 18 #[.string ⟨#[110, 117, 109, 98, 101, 114, 46, 116, 121, 112, 101]⟩, .slice (some ⟨B, 0, none⟩) 1 1] (w'.alloc (.cells #[.int .i64 vK, .int .i64 vP, .int .i64 vQ, .string vS, .int .i64 vR] t)) fun e w'' => e = .returned (.tuple #[vV 0 0 0 ⟨#[]⟩ 0, .bool true]) ∧ Below (w'.alloc (.cells #[.int .i64 vK, .int .i64 vP, .int .i64 vQ, .string vS, .int .i64 vR] t)).heap.size (w'.alloc (.cells #[.int .i64 vK, .int .i64 vP, .int .i64 vQ, .string vS, .int .i64 vR] t)) w'') := fun w' t B hB hT' => by
        subst hB
        have E : Env (w'.alloc (.cells #[.int .i64 vK, .int .i64 vP, .int .i64 vQ, .string vS, .int .i64 vR] t)) (some ⟨w'.heap.size, 0, none⟩) 1 1 [⟨vK, vP, vQ, vS, vR⟩] := env1 hT' ⟨show (-9223372036854775808 : Int) ≤ vP by omega, show vP ≤ (9223372036854775807 : Int) by omega, by first | assumption | (show (0 : Nat) ≤ 9223372036854775807; omega)⟩ (at_new _ _ _ 0 _ _ _ _ _ rfl rfl rfl rfl rfl)
        have h := result_at E 10 (by omega)
        rw [e] at h
        exact h
      clear e hk
      go_enter Tryz.func5, Tryz.ntmps5
      go_wp2_with (first | (go_at_call 13; (with_reducible refine (HV.out _).mono ?_); rintro e w9 ⟨rfl, hb⟩; (refine mem hb ?_; intro N hN hz hc hf; (try simp at hN); subst hN)) | (go_at_call 18; (first | (with_reducible refine (HR.out _ _ _ ?_ (HT.out.later ?_)).mono ?_)); (focus (simp; done)); ((focus ((repeat' (first | (with_reducible exact Below.refl _ _) | (with_reducible assumption) | (with_reducible refine Below.alloc ?_ ?_ _) | (with_reducible refine below_drewN ?_ _) | (with_reducible refine Below.drew ?_) | (with_reducible refine Below.setCell ?_ ?_ _) | (with_reducible refine below_via (by assumption) ?_ ?_) | (with_reducible refine below_via (later_below _) ?_ ?_) | (with_reducible exact Nat.le_refl _) | omega | (simp; omega) | (simp; done)))))); rintro e w8 ⟨rfl, hb⟩; (refine mem hb ?_; intro N hN hz hc hf; (try simp at hN); subst hN)) | (go_at_call 19; (with_reducible refine (HS1.out _).mono ?_); rintro e w7 ⟨rfl, hb⟩; (refine mem hb ?_; intro N hN hz hc hf; (try simp at hN); subst hN)) | (go_at_call 19; (with_reducible refine (HS2.out _).mono ?_); rintro e w6 ⟨rfl, hb⟩; (refine mem hb ?_; intro N hN hz hc hf; (try simp at hN); subst hN)) | (go_at_call 9; (with_reducible refine (HW.out _ (HT.out.later ?_)).mono ?_); (focus ((repeat' (first | (with_reducible exact Below.refl _ _) | (with_reducible assumption) | (with_reducible refine Below.alloc ?_ ?_ _) | (with_reducible refine below_drewN ?_ _) | (with_reducible refine Below.drew ?_) | (with_reducible refine Below.setCell ?_ ?_ _) | (with_reducible refine below_via (by assumption) ?_ ?_) | (with_reducible refine below_via (later_below _) ?_ ?_) | (with_reducible exact Nat.le_refl _) | omega | (simp; omega) | (simp; done))))); rintro e w9 ⟨rfl, hb⟩; (refine mem hb ?_; intro N hN hz hc hf; (try simp at hN); subst hN)))
      ((try simp only [Exit.inBlock, Exit.then]); refine bodyPost_ret (by first | (simp [results, Tryz.results5, go_sem, *]; done) | (simp [results, Tryz.results5, go_sem, *]; rfl) | (simp [results, Tryz.results5, go_sem, ↓IntWalk.iteOmega, *]; try rfl)) rfl ?_)
      refine ⟨rfl, ?_⟩
      (repeat' (first | (with_reducible exact Below.refl _ _) | (with_reducible assumption) | (with_reducible refine Below.alloc ?_ ?_ _) | (with_reducible refine below_drewN ?_ _) | (with_reducible refine Below.drew ?_) | (with_reducible refine Below.setCell ?_ ?_ _) | (with_reducible refine below_via (by assumption) ?_ ?_) | (with_reducible refine below_via (later_below _) ?_ ?_) | (with_reducible exact Nat.le_refl _) | omega | (simp; omega) | (simp; done)))

set_option maxHeartbeats 8000000 in
set_option maxRecDepth 100000 in
theorem lifted (os : Os) (started : os.Started) (H : Type) (enc : TypeId × Value → H) :
    ReturnsInHanded {} Tryz.checked os 5 .any (fun w args => (Rows.numlibTypesSpec.pre enc Tryz.prog Tryz.f5 Rows.numlibTypesRow.domain false w args ∧ laidMetH Tryz.prog laidS w) ∧ sizedMet enc Tryz.prog Tryz.f5 (OpenSpec.ofChange Rows.numlibTypesSpec) false w args) (Rows.numlibTypesSpec.post enc Tryz.prog Tryz.f5 false true false false) := by
  refine returnsInHanded_of_change_and (C := Tryz.checked) (X := fun w _ => laidMetH Tryz.prog laidS w) (fun _ _ _ hh h => h.of_heap hh) own started (by kernel_rfl) Tryz.func5
    (ChangeSpec.witness_shaped (enc := enc) (C := Tryz.checked) (os := os) (X := fun w _ => laidMetH Tryz.prog laidS w) false (World.laidAll Tryz.prog os laidS) #[.agg #[.int .i64 0, .int .i64 0, .int .i64 0, .string ⟨#[]⟩, .int .i64 0]] 8 (World.laidAll_os _ _ _) (start_shaped os) (by kernel_rfl) (by kernel_rfl) (by kernel_rfl) (start_met os _)) ?_
  intro W base args ds gs before hval0 hW hcnd _ hL _
  have hT := laid_tabs hL
  have hval : ∀ (j : Nat) t v, Tryz.f5.params[j]? = some t → args[j]? = some v → Value.okWide Tryz.prog W .any base t v := hval0
  have hW' := hW
  obtain ⟨p, q, hA0, hV, rfl, hfz, hnd⟩ := hW
  have hA : DataW.TrodAll enc Tryz.prog W 0 (fun _ => true) true Tryz.f5.params.toList args.toList ds p := hA0
  rw [Tryz.params5] at hA hval
  obtain ⟨v0, vs0, d0, ds0, p0, q0, hargs, rfl, rfl, h0, r0⟩ := trodAll_cons hA
  obtain ⟨rfl, rfl, rfl⟩ := trodAll_nil r0
  obtain rfl : args = #[v0] := by cases args; simp_all
  obtain ⟨rfl, rfl⟩ := trodVars_none hV
  have k0 := h0
  have lt0 : ∀ x ∈ p0, x.block < W.heap.size := by obtain ⟨m, hm⟩ := k0; exact DataW.trod_lt m _ _ _ hm
  obtain ⟨vK, vP, vQ, vS, vR, rfl, wvK, wvP, wvQ, wvS, wvR⟩ := open_val (hval 0 32 v0 rfl rfl) h0
  clear hA0 hval0
  refine (walk vK vP vQ vS vR wvK wvP wvQ wvS wvR W hT).mono fun e W' ⟨he, bel⟩ => ?_
  subst he
  exact ⟨_, rfl, _, _, _, [], _, [], hW', trodAll_mk1 (shut_bool Tryz.underlying4 _), (trodAll_cons_mk (Below.trod laidOut (by kernel_rfl) (of_decide_eq_true (by kernel_rfl)) k0 bel lt0) trodAll_mk0), rfl, bel.frame _, fun h => by cases h⟩

theorem over : Rows.numlibTypesRow.holds Tryz.pinned (OpenSpec.ofChange Rows.numlibTypesSpec) :=
  OpenClaim.holds_of_wide 5 Tryz.f5 rfl rfl rfl rfl rfl rfl rfl ⟨rfl, rfl, rfl, rfl, rfl⟩ rfl rfl rfl rfl rfl (by kernel_rfl) Tryz.func5 (by kernel_rfl)
    (of_decide_eq_true (by kernel_rfl)) (by unfold Func.isWrapper; first | (rw [if_pos (by decide +kernel)]; kernel_rfl) | (rw [if_neg (by decide +kernel)]; exact ⟨rfl, rfl⟩))
    (fun os started H enc _ => lifted os started H enc)

/-- The given statement: the row, tied. -/
theorem proved : Rows.NumlibTypesCardSaid :=
  Claim7.holds_tied_plain_at .later [] [.data, .data, .data, .data, .pinned] true _ false over (fun _ h => by cases h) (by kernel_rfl) (fun _ h => by cases h) numlibTypes_row_tie rfl ⟨rfl, rfl⟩ (by kernel_rfl) rfl
    (fun f fn hf hfn => by
      obtain rfl : f = 5 := Option.some.inj ((show Tryz.prog.funcNamed Rows.numlibTypesRow.func = some 5 by kernel_rfl).symm.trans hf) |>.symm
      obtain rfl : fn = Tryz.f5 := (Option.some.inj (Tryz.func5.symm.trans hfn)).symm
      exact ⟨by kernel_rfl, fun j t ht => by
        rw [Tryz.params5] at ht
        have hm : t ∈ [32] := by simpa using Array.mem_of_getElem? ht
        have hall : ([32].all fun u => !Tryz.prog.wantsStandIn u) = true := by kernel_rfl
        exact (show Tryz.prog.wantsStandIn t = false by simpa using List.all_eq_true.1 hall t hm)⟩)
    (by kernel_rfl)
#print axioms proved
end Go.Proofs.YtfclmnglckikbaaGreatDoor.numlibTypes
