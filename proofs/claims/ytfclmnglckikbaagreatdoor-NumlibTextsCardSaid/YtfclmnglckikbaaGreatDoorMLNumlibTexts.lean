/- The law NumlibTexts holds: for every input it returns true, and each argument reads as it did, where the library's tables read as its text lays them. No other conditions. -/
import Derived.Test.YtfclmnglckikbaaGreatDoorMNlT111
import Derived.Test.YtfclmnglckikbaaGreatDoorMNlT110
import Derived.Test.YtfclmnglckikbaaGreatDoorMNlT100
import Derived.Test.YtfclmnglckikbaaGreatDoorMNlT011
import Derived.Test.YtfclmnglckikbaaGreatDoorMNlT010
import Derived.Test.YtfclmnglckikbaaGreatDoorMNlT000
import Derived.Test.YtfclmnglckikbaaGreatDoorMLaid
import Derived.Test.YtfclmnglckikbaaGreatDoorCards
import Derived.Test.YtfclmnglckikbaaGreatDoorTie
namespace Go.Proofs.YtfclmnglckikbaaGreatDoor.numlibTexts
open Go.ChangeShapes Go.WideShapes Go.ChangeAt Go.RowKit Go.Joins
open Go.ChangeMaps (open_string shut_string)
set_option linter.unusedVariables false

set_option maxHeartbeats 4000000 in
set_option maxRecDepth 100000 in
theorem walk (aP aQ : Int) (waP : (Lit.int .i64 aP).wf = true) (waQ : (Lit.int .i64 aQ).wf = true) (n : Int) (wn : (Lit.int .i64 n).wf = true) (w : World) (hT : Tabs w) :
    Calls Tryz.prog 7 #[.agg #[.int .i64 aP, .int .i64 aQ], .int .i64 n] w fun e w' => e = .returned (.bool true) ∧ Below w.heap.size w w' := by
  obtain ⟨p1, p2⟩ := bounds_i64 waP
  have HT := Lib.hid hT
  clear hT
  have HW : Hid (∀ w', Tabs w' → Calls Tryz.prog 9 #[] w' fun e w'' => e = .returned (.bool true) ∧ Below w'.heap.size w' w'') := fun w' hT' => awake_any w' hT'
  have HV : Hid (∀ w', Calls Tryz.prog 13 #[vV 2 aP aQ ⟨#[]⟩ 0] w' fun e w'' => e = .returned (.bool (vldB aP aQ)) ∧ Below w'.heap.size w' w'') := fun w' => by have h := rvv_v 2 aP aQ ⟨#[]⟩ 0 w' (by decide) p1 p2; rw [valid2] at h; exact h
  obtain ⟨nn1, nn2⟩ := bounds_i64 wn
  cases hv : vldB aP aQ
  · rw [hv] at HV
    clear hv
    go_enter Tryz.func7, Tryz.ntmps7
    go_wp2_with (first | (go_at_call 13; (with_reducible refine (HV.out _).mono ?_); rintro e w9 ⟨rfl, hb⟩; (refine mem hb ?_; intro N hN hz hc hf; (try simp at hN); subst hN)) | (go_at_call 9; (with_reducible refine (HW.out _ (HT.out.later ?_)).mono ?_); (focus ((repeat' (first | (with_reducible exact Below.refl _ _) | (with_reducible assumption) | (with_reducible refine Below.alloc ?_ ?_ _) | (with_reducible refine below_drewN ?_ _) | (with_reducible refine Below.drew ?_) | (with_reducible refine Below.setCell ?_ ?_ _) | (with_reducible refine below_via (by assumption) ?_ ?_) | (with_reducible refine below_via (later_below _) ?_ ?_) | (with_reducible exact Nat.le_refl _) | omega | (simp; omega) | (simp; done))))); rintro e w9 ⟨rfl, hb⟩; (refine mem hb ?_; intro N hN hz hc hf; (try simp at hN); subst hN)))
    go_returns
    refine ⟨rfl, ?_⟩
    (repeat' (first | (with_reducible exact Below.refl _ _) | (with_reducible assumption) | (with_reducible refine Below.alloc ?_ ?_ _) | (with_reducible refine below_drewN ?_ _) | (with_reducible refine Below.drew ?_) | (with_reducible refine Below.setCell ?_ ?_ _) | (with_reducible refine below_via (by assumption) ?_ ?_) | (with_reducible refine below_via (later_below _) ?_ ?_) | (with_reducible exact Nat.le_refl _) | omega | (simp; omega) | (simp; done)))
  · rw [hv] at HV
    by_cases hl : n < -100
    · have d1 : decide (n < -100) = true := by simpa using hl
      clear hv
      go_enter Tryz.func7, Tryz.ntmps7
      go_wp2_with (first | (go_at_call 13; (with_reducible refine (HV.out _).mono ?_); rintro e w9 ⟨rfl, hb⟩; (refine mem hb ?_; intro N hN hz hc hf; (try simp at hN); subst hN)) | (go_at_call 9; (with_reducible refine (HW.out _ (HT.out.later ?_)).mono ?_); (focus ((repeat' (first | (with_reducible exact Below.refl _ _) | (with_reducible assumption) | (with_reducible refine Below.alloc ?_ ?_ _) | (with_reducible refine below_drewN ?_ _) | (with_reducible refine Below.drew ?_) | (with_reducible refine Below.setCell ?_ ?_ _) | (with_reducible refine below_via (by assumption) ?_ ?_) | (with_reducible refine below_via (later_below _) ?_ ?_) | (with_reducible exact Nat.le_refl _) | omega | (simp; omega) | (simp; done))))); rintro e w9 ⟨rfl, hb⟩; (refine mem hb ?_; intro N hN hz hc hf; (try simp at hN); subst hN)))
      go_returns
      refine ⟨rfl, ?_⟩
      (repeat' (first | (with_reducible exact Below.refl _ _) | (with_reducible assumption) | (with_reducible refine Below.alloc ?_ ?_ _) | (with_reducible refine below_drewN ?_ _) | (with_reducible refine Below.drew ?_) | (with_reducible refine Below.setCell ?_ ?_ _) | (with_reducible refine below_via (by assumption) ?_ ?_) | (with_reducible refine below_via (later_below _) ?_ ?_) | (with_reducible exact Nat.le_refl _) | omega | (simp; omega) | (simp; done)))
    · by_cases hh : 100 < n
      · have d1 : decide (n < -100) = false := by simp; omega
        have d2 : decide (100 < n) = true := by simpa using hh
        clear hv
        go_enter Tryz.func7, Tryz.ntmps7
        go_wp2_with (first | (go_at_call 13; (with_reducible refine (HV.out _).mono ?_); rintro e w9 ⟨rfl, hb⟩; (refine mem hb ?_; intro N hN hz hc hf; (try simp at hN); subst hN)) | (go_at_call 9; (with_reducible refine (HW.out _ (HT.out.later ?_)).mono ?_); (focus ((repeat' (first | (with_reducible exact Below.refl _ _) | (with_reducible assumption) | (with_reducible refine Below.alloc ?_ ?_ _) | (with_reducible refine below_drewN ?_ _) | (with_reducible refine Below.drew ?_) | (with_reducible refine Below.setCell ?_ ?_ _) | (with_reducible refine below_via (by assumption) ?_ ?_) | (with_reducible refine below_via (later_below _) ?_ ?_) | (with_reducible exact Nat.le_refl _) | omega | (simp; omega) | (simp; done))))); rintro e w9 ⟨rfl, hb⟩; (refine mem hb ?_; intro N hN hz hc hf; (try simp at hN); subst hN)))
        go_returns
        refine ⟨rfl, ?_⟩
        (repeat' (first | (with_reducible exact Below.refl _ _) | (with_reducible assumption) | (with_reducible refine Below.alloc ?_ ?_ _) | (with_reducible refine below_drewN ?_ _) | (with_reducible refine Below.drew ?_) | (with_reducible refine Below.setCell ?_ ?_ _) | (with_reducible refine below_via (by assumption) ?_ ?_) | (with_reducible refine below_via (later_below _) ?_ ?_) | (with_reducible exact Nat.le_refl _) | omega | (simp; omega) | (simp; done)))
      · have hn : -100 ≤ n ∧ n ≤ 100 := by omega
        have d1 : decide (n < -100) = false := by simp; omega
        have d2 : decide (100 < n) = false := by simp; omega
        clear hl hh
        obtain ⟨b1, b2, b3, b4⟩ := vld_bd hv
        obtain ⟨hn1, hn2⟩ := hn
        have hn := And.intro hn1 hn2
        by_cases hq : aQ = 1
        · subst hq
          obtain ⟨S1, hS1⟩ : ∃ S, mkS (fixL aP 1 n).1 = S := ⟨_, rfl⟩
          obtain ⟨E1, hE1⟩ : ∃ E, (fixL aP 1 n).2 = E := ⟨_, rfl⟩
          have e1 := bg_fixed hv hn
          rw [hS1, hE1] at e1
          have HF : Hid (∀ w', Tabs w' → Calls Tryz.prog 22 #[.agg #[.int .i64 aP, .int .i64 1], .int .i64 n] w' fun e w'' => e = .returned (.tuple #[.string S1, .int .i64 E1]) ∧ Below w'.heap.size w' w'') := fun w' hT' => by have h := fixed_any aP 1 n w' p1 p2 hT'; unfold strE at h; rw [hS1, hE1] at h; exact h
          clear hS1 hE1
          by_cases h1 : E1 = 0
          · subst h1
            rw [if_pos rfl] at e1
            have e2 := bg_base_ten hv
            obtain ⟨S2, hS2⟩ : ∃ S, mkS (textL aP 1) = S := ⟨_, rfl⟩
            rw [hS2] at e2
            have HT1 : Hid (∀ w', Tabs w' → Calls Tryz.prog 25 #[.agg #[.int .i64 aP, .int .i64 1]] w' fun e w'' => e = .returned (.string S2) ∧ Below w'.heap.size w' w'') := fun w' hT' => by have h := text_any aP 1 w' p1 p2 hT'; rw [hS2] at h; exact h
            have e3 := bg_base hv hn
            obtain ⟨S3, hS3⟩ : ∃ S, mkS (baseL aP n).1 = S := ⟨_, rfl⟩
            obtain ⟨E3, hE3⟩ : ∃ E, (baseL aP n).2 = E := ⟨_, rfl⟩
            rw [hS3, hE3] at e3
            have HB : Hid (∀ w', Tabs w' → Calls Tryz.prog 24 #[.int .i64 aP, .int .i64 n] w' fun e w'' => e = .returned (.tuple #[.string S3, .int .i64 E3]) ∧ Below w'.heap.size w' w'') := fun w' hT' => by have h := base_any aP n p1 p2 w' hT'; unfold strE at h; rw [hS3, hE3] at h; exact h
            clear hS2 hS3 hE3
            by_cases h3 : E3 = 0
            · subst h3
              rw [if_pos rfl] at e3
              have HR1 : Hid (∀ (W : World) (B : Nat), Tabs W → CellsAt W B 0 (2) (aP) (1) (⟨#[]⟩) (0) → CellsAt W B 5 (2) (n) (1) (⟨#[]⟩) (0) → Calls Tryz.prog 18 #[.string ⟨#[110, 117, 109, 98, 101, 114, 46, 102, 105, 120, 101, 100]⟩, .slice (some ⟨B, 0, none⟩) 2 2] W fun e w'' => e = .returned (.tuple #[vV 3 0 0 S1 0, .bool true]) ∧ Below W.heap.size W w'') := fun W B hT' c0 c5 => by
                have E : Env W (some ⟨B, 0, none⟩) 2 2 [⟨2, aP, 1, ⟨#[]⟩, 0⟩, ⟨2, n, 1, ⟨#[]⟩, 0⟩] := env2 hT' ⟨show (-9223372036854775808 : Int) ≤ aP by omega, show aP ≤ (9223372036854775807 : Int) by omega, by first | assumption | (show (0 : Nat) ≤ 9223372036854775807; omega)⟩ ⟨show (-9223372036854775808 : Int) ≤ n by omega, show n ≤ (9223372036854775807 : Int) by omega, by first | assumption | (show (0 : Nat) ≤ 9223372036854775807; omega)⟩ c0 c5
                have h := result_at E 4 (by omega)
                rw [e1] at h
                exact h
              have HR2 : Hid (∀ (w' : World) (t : TypeId) (B : Nat), B = w'.heap.size → Tabs (w'.alloc (.cells #[.int .i64 2, .int .i64 aP, .int .i64 1, .string ⟨#[]⟩, .int .i64 0] t)) → Calls Tryz.prog 18 #[.string ⟨#[110, 117, 109, 98, 101, 114, 46, 98, 97, 115, 101]⟩, .slice (some ⟨B, 0, none⟩) 1 1] (w'.alloc (.cells #[.int .i64 2, .int .i64 aP, .int .i64 1, .string ⟨#[]⟩, .int .i64 0] t)) fun e w'' => e = .returned (.tuple #[vV 3 0 0 S2 0, .bool true]) ∧ Below (w'.alloc (.cells #[.int .i64 2, .int .i64 aP, .int .i64 1, .string ⟨#[]⟩, .int .i64 0] t)).heap.size (w'.alloc (.cells #[.int .i64 2, .int .i64 aP, .int .i64 1, .string ⟨#[]⟩, .int .i64 0] t)) w'') := fun w' t B hB hT' => by
                subst hB
                have E : Env (w'.alloc (.cells #[.int .i64 2, .int .i64 aP, .int .i64 1, .string ⟨#[]⟩, .int .i64 0] t)) (some ⟨w'.heap.size, 0, none⟩) 1 1 [⟨2, aP, 1, ⟨#[]⟩, 0⟩] := env1 hT' ⟨show (-9223372036854775808 : Int) ≤ aP by omega, show aP ≤ (9223372036854775807 : Int) by omega, by first | assumption | (show (0 : Nat) ≤ 9223372036854775807; omega)⟩ (at_new _ _ _ 0 _ _ _ _ _ rfl rfl rfl rfl rfl)
                have h := result_at E 1 (by omega)
                rw [e2] at h
                exact h
              have HR3 : Hid (∀ (W : World) (B : Nat), Tabs W → CellsAt W B 0 (2) (aP) (1) (⟨#[]⟩) (0) → CellsAt W B 5 (2) (n) (1) (⟨#[]⟩) (0) → Calls Tryz.prog 18 #[.string ⟨#[110, 117, 109, 98, 101, 114, 46, 98, 97, 115, 101]⟩, .slice (some ⟨B, 0, none⟩) 2 2] W fun e w'' => e = .returned (.tuple #[vV 3 0 0 S3 0, .bool true]) ∧ Below W.heap.size W w'') := fun W B hT' c0 c5 => by
                have E : Env W (some ⟨B, 0, none⟩) 2 2 [⟨2, aP, 1, ⟨#[]⟩, 0⟩, ⟨2, n, 1, ⟨#[]⟩, 0⟩] := env2 hT' ⟨show (-9223372036854775808 : Int) ≤ aP by omega, show aP ≤ (9223372036854775807 : Int) by omega, by first | assumption | (show (0 : Nat) ≤ 9223372036854775807; omega)⟩ ⟨show (-9223372036854775808 : Int) ≤ n by omega, show n ≤ (9223372036854775807 : Int) by omega, by first | assumption | (show (0 : Nat) ≤ 9223372036854775807; omega)⟩ c0 c5
                have h := result_at E 1 (by omega)
                rw [e3] at h
                exact h
              exact texts_111 aP n S1 S2 S3 w p1 p2 nn1 nn2 hn d1 d2 HT HW HV HF HT1 HB HR1 HR2 HR3
            · rw [if_neg h3] at e3
              have b3 : (E3 == 0) = false := by simpa using h3
              clear h3
              have HR1 : Hid (∀ (W : World) (B : Nat), Tabs W → CellsAt W B 0 (2) (aP) (1) (⟨#[]⟩) (0) → CellsAt W B 5 (2) (n) (1) (⟨#[]⟩) (0) → Calls Tryz.prog 18 #[.string ⟨#[110, 117, 109, 98, 101, 114, 46, 102, 105, 120, 101, 100]⟩, .slice (some ⟨B, 0, none⟩) 2 2] W fun e w'' => e = .returned (.tuple #[vV 3 0 0 S1 0, .bool true]) ∧ Below W.heap.size W w'') := fun W B hT' c0 c5 => by
                have E : Env W (some ⟨B, 0, none⟩) 2 2 [⟨2, aP, 1, ⟨#[]⟩, 0⟩, ⟨2, n, 1, ⟨#[]⟩, 0⟩] := env2 hT' ⟨show (-9223372036854775808 : Int) ≤ aP by omega, show aP ≤ (9223372036854775807 : Int) by omega, by first | assumption | (show (0 : Nat) ≤ 9223372036854775807; omega)⟩ ⟨show (-9223372036854775808 : Int) ≤ n by omega, show n ≤ (9223372036854775807 : Int) by omega, by first | assumption | (show (0 : Nat) ≤ 9223372036854775807; omega)⟩ c0 c5
                have h := result_at E 4 (by omega)
                rw [e1] at h
                exact h
              have HR2 : Hid (∀ (w' : World) (t : TypeId) (B : Nat), B = w'.heap.size → Tabs (w'.alloc (.cells #[.int .i64 2, .int .i64 aP, .int .i64 1, .string ⟨#[]⟩, .int .i64 0] t)) → Calls Tryz.prog 18 #[.string ⟨#[110, 117, 109, 98, 101, 114, 46, 98, 97, 115, 101]⟩, .slice (some ⟨B, 0, none⟩) 1 1] (w'.alloc (.cells #[.int .i64 2, .int .i64 aP, .int .i64 1, .string ⟨#[]⟩, .int .i64 0] t)) fun e w'' => e = .returned (.tuple #[vV 3 0 0 S2 0, .bool true]) ∧ Below (w'.alloc (.cells #[.int .i64 2, .int .i64 aP, .int .i64 1, .string ⟨#[]⟩, .int .i64 0] t)).heap.size (w'.alloc (.cells #[.int .i64 2, .int .i64 aP, .int .i64 1, .string ⟨#[]⟩, .int .i64 0] t)) w'') := fun w' t B hB hT' => by
                subst hB
                have E : Env (w'.alloc (.cells #[.int .i64 2, .int .i64 aP, .int .i64 1, .string ⟨#[]⟩, .int .i64 0] t)) (some ⟨w'.heap.size, 0, none⟩) 1 1 [⟨2, aP, 1, ⟨#[]⟩, 0⟩] := env1 hT' ⟨show (-9223372036854775808 : Int) ≤ aP by omega, show aP ≤ (9223372036854775807 : Int) by omega, by first | assumption | (show (0 : Nat) ≤ 9223372036854775807; omega)⟩ (at_new _ _ _ 0 _ _ _ _ _ rfl rfl rfl rfl rfl)
                have h := result_at E 1 (by omega)
                rw [e2] at h
                exact h
              have HR3 : Hid (∀ (W : World) (B : Nat), Tabs W → CellsAt W B 0 (2) (aP) (1) (⟨#[]⟩) (0) → CellsAt W B 5 (2) (n) (1) (⟨#[]⟩) (0) → Calls Tryz.prog 18 #[.string ⟨#[110, 117, 109, 98, 101, 114, 46, 98, 97, 115, 101]⟩, .slice (some ⟨B, 0, none⟩) 2 2] W fun e w'' => e = .returned (.tuple #[vV 0 0 0 ⟨#[]⟩ 0, .bool false]) ∧ Below W.heap.size W w'') := fun W B hT' c0 c5 => by
                have E : Env W (some ⟨B, 0, none⟩) 2 2 [⟨2, aP, 1, ⟨#[]⟩, 0⟩, ⟨2, n, 1, ⟨#[]⟩, 0⟩] := env2 hT' ⟨show (-9223372036854775808 : Int) ≤ aP by omega, show aP ≤ (9223372036854775807 : Int) by omega, by first | assumption | (show (0 : Nat) ≤ 9223372036854775807; omega)⟩ ⟨show (-9223372036854775808 : Int) ≤ n by omega, show n ≤ (9223372036854775807 : Int) by omega, by first | assumption | (show (0 : Nat) ≤ 9223372036854775807; omega)⟩ c0 c5
                have h := result_at E 1 (by omega)
                rw [e3] at h
                exact h
              exact texts_110 aP n E3 S1 S2 S3 w p1 p2 nn1 nn2 hn d1 d2 b3 HT HW HV HF HT1 HB HR1 HR2 HR3
          · rw [if_neg h1] at e1
            have b1 : (E1 == 0) = false := by simpa using h1
            clear h1
            have e2 := bg_base_ten hv
            obtain ⟨S2, hS2⟩ : ∃ S, mkS (textL aP 1) = S := ⟨_, rfl⟩
            rw [hS2] at e2
            have HT1 : Hid (∀ w', Tabs w' → Calls Tryz.prog 25 #[.agg #[.int .i64 aP, .int .i64 1]] w' fun e w'' => e = .returned (.string S2) ∧ Below w'.heap.size w' w'') := fun w' hT' => by have h := text_any aP 1 w' p1 p2 hT'; rw [hS2] at h; exact h
            have e3 := bg_base hv hn
            obtain ⟨S3, hS3⟩ : ∃ S, mkS (baseL aP n).1 = S := ⟨_, rfl⟩
            obtain ⟨E3, hE3⟩ : ∃ E, (baseL aP n).2 = E := ⟨_, rfl⟩
            rw [hS3, hE3] at e3
            have HB : Hid (∀ w', Tabs w' → Calls Tryz.prog 24 #[.int .i64 aP, .int .i64 n] w' fun e w'' => e = .returned (.tuple #[.string S3, .int .i64 E3]) ∧ Below w'.heap.size w' w'') := fun w' hT' => by have h := base_any aP n p1 p2 w' hT'; unfold strE at h; rw [hS3, hE3] at h; exact h
            clear hS2 hS3 hE3
            by_cases h3 : E3 = 0
            · subst h3
              rw [if_pos rfl] at e3
              have HR1 : Hid (∀ (W : World) (B : Nat), Tabs W → CellsAt W B 0 (2) (aP) (1) (⟨#[]⟩) (0) → CellsAt W B 5 (2) (n) (1) (⟨#[]⟩) (0) → Calls Tryz.prog 18 #[.string ⟨#[110, 117, 109, 98, 101, 114, 46, 102, 105, 120, 101, 100]⟩, .slice (some ⟨B, 0, none⟩) 2 2] W fun e w'' => e = .returned (.tuple #[vV 0 0 0 ⟨#[]⟩ 0, .bool false]) ∧ Below W.heap.size W w'') := fun W B hT' c0 c5 => by
                have E : Env W (some ⟨B, 0, none⟩) 2 2 [⟨2, aP, 1, ⟨#[]⟩, 0⟩, ⟨2, n, 1, ⟨#[]⟩, 0⟩] := env2 hT' ⟨show (-9223372036854775808 : Int) ≤ aP by omega, show aP ≤ (9223372036854775807 : Int) by omega, by first | assumption | (show (0 : Nat) ≤ 9223372036854775807; omega)⟩ ⟨show (-9223372036854775808 : Int) ≤ n by omega, show n ≤ (9223372036854775807 : Int) by omega, by first | assumption | (show (0 : Nat) ≤ 9223372036854775807; omega)⟩ c0 c5
                have h := result_at E 4 (by omega)
                rw [e1] at h
                exact h
              have HR2 : Hid (∀ (w' : World) (t : TypeId) (B : Nat), B = w'.heap.size → Tabs (w'.alloc (.cells #[.int .i64 2, .int .i64 aP, .int .i64 1, .string ⟨#[]⟩, .int .i64 0] t)) → Calls Tryz.prog 18 #[.string ⟨#[110, 117, 109, 98, 101, 114, 46, 98, 97, 115, 101]⟩, .slice (some ⟨B, 0, none⟩) 1 1] (w'.alloc (.cells #[.int .i64 2, .int .i64 aP, .int .i64 1, .string ⟨#[]⟩, .int .i64 0] t)) fun e w'' => e = .returned (.tuple #[vV 3 0 0 S2 0, .bool true]) ∧ Below (w'.alloc (.cells #[.int .i64 2, .int .i64 aP, .int .i64 1, .string ⟨#[]⟩, .int .i64 0] t)).heap.size (w'.alloc (.cells #[.int .i64 2, .int .i64 aP, .int .i64 1, .string ⟨#[]⟩, .int .i64 0] t)) w'') := fun w' t B hB hT' => by
                subst hB
                have E : Env (w'.alloc (.cells #[.int .i64 2, .int .i64 aP, .int .i64 1, .string ⟨#[]⟩, .int .i64 0] t)) (some ⟨w'.heap.size, 0, none⟩) 1 1 [⟨2, aP, 1, ⟨#[]⟩, 0⟩] := env1 hT' ⟨show (-9223372036854775808 : Int) ≤ aP by omega, show aP ≤ (9223372036854775807 : Int) by omega, by first | assumption | (show (0 : Nat) ≤ 9223372036854775807; omega)⟩ (at_new _ _ _ 0 _ _ _ _ _ rfl rfl rfl rfl rfl)
                have h := result_at E 1 (by omega)
                rw [e2] at h
                exact h
              have HR3 : Hid (∀ (W : World) (B : Nat), Tabs W → CellsAt W B 0 (2) (aP) (1) (⟨#[]⟩) (0) → CellsAt W B 5 (2) (n) (1) (⟨#[]⟩) (0) → Calls Tryz.prog 18 #[.string ⟨#[110, 117, 109, 98, 101, 114, 46, 98, 97, 115, 101]⟩, .slice (some ⟨B, 0, none⟩) 2 2] W fun e w'' => e = .returned (.tuple #[vV 3 0 0 S3 0, .bool true]) ∧ Below W.heap.size W w'') := fun W B hT' c0 c5 => by
                have E : Env W (some ⟨B, 0, none⟩) 2 2 [⟨2, aP, 1, ⟨#[]⟩, 0⟩, ⟨2, n, 1, ⟨#[]⟩, 0⟩] := env2 hT' ⟨show (-9223372036854775808 : Int) ≤ aP by omega, show aP ≤ (9223372036854775807 : Int) by omega, by first | assumption | (show (0 : Nat) ≤ 9223372036854775807; omega)⟩ ⟨show (-9223372036854775808 : Int) ≤ n by omega, show n ≤ (9223372036854775807 : Int) by omega, by first | assumption | (show (0 : Nat) ≤ 9223372036854775807; omega)⟩ c0 c5
                have h := result_at E 1 (by omega)
                rw [e3] at h
                exact h
              exact texts_011 aP n E1 S1 S2 S3 w p1 p2 nn1 nn2 hn d1 d2 b1 HT HW HV HF HT1 HB HR1 HR2 HR3
            · rw [if_neg h3] at e3
              have b3 : (E3 == 0) = false := by simpa using h3
              clear h3
              have HR1 : Hid (∀ (W : World) (B : Nat), Tabs W → CellsAt W B 0 (2) (aP) (1) (⟨#[]⟩) (0) → CellsAt W B 5 (2) (n) (1) (⟨#[]⟩) (0) → Calls Tryz.prog 18 #[.string ⟨#[110, 117, 109, 98, 101, 114, 46, 102, 105, 120, 101, 100]⟩, .slice (some ⟨B, 0, none⟩) 2 2] W fun e w'' => e = .returned (.tuple #[vV 0 0 0 ⟨#[]⟩ 0, .bool false]) ∧ Below W.heap.size W w'') := fun W B hT' c0 c5 => by
                have E : Env W (some ⟨B, 0, none⟩) 2 2 [⟨2, aP, 1, ⟨#[]⟩, 0⟩, ⟨2, n, 1, ⟨#[]⟩, 0⟩] := env2 hT' ⟨show (-9223372036854775808 : Int) ≤ aP by omega, show aP ≤ (9223372036854775807 : Int) by omega, by first | assumption | (show (0 : Nat) ≤ 9223372036854775807; omega)⟩ ⟨show (-9223372036854775808 : Int) ≤ n by omega, show n ≤ (9223372036854775807 : Int) by omega, by first | assumption | (show (0 : Nat) ≤ 9223372036854775807; omega)⟩ c0 c5
                have h := result_at E 4 (by omega)
                rw [e1] at h
                exact h
              have HR2 : Hid (∀ (w' : World) (t : TypeId) (B : Nat), B = w'.heap.size → Tabs (w'.alloc (.cells #[.int .i64 2, .int .i64 aP, .int .i64 1, .string ⟨#[]⟩, .int .i64 0] t)) → Calls Tryz.prog 18 #[.string ⟨#[110, 117, 109, 98, 101, 114, 46, 98, 97, 115, 101]⟩, .slice (some ⟨B, 0, none⟩) 1 1] (w'.alloc (.cells #[.int .i64 2, .int .i64 aP, .int .i64 1, .string ⟨#[]⟩, .int .i64 0] t)) fun e w'' => e = .returned (.tuple #[vV 3 0 0 S2 0, .bool true]) ∧ Below (w'.alloc (.cells #[.int .i64 2, .int .i64 aP, .int .i64 1, .string ⟨#[]⟩, .int .i64 0] t)).heap.size (w'.alloc (.cells #[.int .i64 2, .int .i64 aP, .int .i64 1, .string ⟨#[]⟩, .int .i64 0] t)) w'') := fun w' t B hB hT' => by
                subst hB
                have E : Env (w'.alloc (.cells #[.int .i64 2, .int .i64 aP, .int .i64 1, .string ⟨#[]⟩, .int .i64 0] t)) (some ⟨w'.heap.size, 0, none⟩) 1 1 [⟨2, aP, 1, ⟨#[]⟩, 0⟩] := env1 hT' ⟨show (-9223372036854775808 : Int) ≤ aP by omega, show aP ≤ (9223372036854775807 : Int) by omega, by first | assumption | (show (0 : Nat) ≤ 9223372036854775807; omega)⟩ (at_new _ _ _ 0 _ _ _ _ _ rfl rfl rfl rfl rfl)
                have h := result_at E 1 (by omega)
                rw [e2] at h
                exact h
              have HR3 : Hid (∀ (W : World) (B : Nat), Tabs W → CellsAt W B 0 (2) (aP) (1) (⟨#[]⟩) (0) → CellsAt W B 5 (2) (n) (1) (⟨#[]⟩) (0) → Calls Tryz.prog 18 #[.string ⟨#[110, 117, 109, 98, 101, 114, 46, 98, 97, 115, 101]⟩, .slice (some ⟨B, 0, none⟩) 2 2] W fun e w'' => e = .returned (.tuple #[vV 0 0 0 ⟨#[]⟩ 0, .bool false]) ∧ Below W.heap.size W w'') := fun W B hT' c0 c5 => by
                have E : Env W (some ⟨B, 0, none⟩) 2 2 [⟨2, aP, 1, ⟨#[]⟩, 0⟩, ⟨2, n, 1, ⟨#[]⟩, 0⟩] := env2 hT' ⟨show (-9223372036854775808 : Int) ≤ aP by omega, show aP ≤ (9223372036854775807 : Int) by omega, by first | assumption | (show (0 : Nat) ≤ 9223372036854775807; omega)⟩ ⟨show (-9223372036854775808 : Int) ≤ n by omega, show n ≤ (9223372036854775807 : Int) by omega, by first | assumption | (show (0 : Nat) ≤ 9223372036854775807; omega)⟩ c0 c5
                have h := result_at E 1 (by omega)
                rw [e3] at h
                exact h
              exact texts_010 aP n E1 E3 S1 S2 S3 w p1 p2 nn1 nn2 hn d1 d2 b1 b3 HT HW HV HF HT1 HB HR1 HR2 HR3
        · obtain ⟨S1, hS1⟩ : ∃ S, mkS (fixL aP aQ n).1 = S := ⟨_, rfl⟩
          obtain ⟨E1, hE1⟩ : ∃ E, (fixL aP aQ n).2 = E := ⟨_, rfl⟩
          have e1 := bg_fixed hv hn
          rw [hS1, hE1] at e1
          have HF : Hid (∀ w', Tabs w' → Calls Tryz.prog 22 #[.agg #[.int .i64 aP, .int .i64 aQ], .int .i64 n] w' fun e w'' => e = .returned (.tuple #[.string S1, .int .i64 E1]) ∧ Below w'.heap.size w' w'') := fun w' hT' => by have h := fixed_any aP aQ n w' p1 p2 hT'; unfold strE at h; rw [hS1, hE1] at h; exact h
          clear hS1 hE1
          by_cases h1 : E1 = 0
          · subst h1
            rw [if_pos rfl] at e1
            have e2 := bg_base_no hv hq
            have b2 : (aQ != 1) = true := by simpa using hq
            clear hq
            have HR1 : Hid (∀ (W : World) (B : Nat), Tabs W → CellsAt W B 0 (2) (aP) (aQ) (⟨#[]⟩) (0) → CellsAt W B 5 (2) (n) (1) (⟨#[]⟩) (0) → Calls Tryz.prog 18 #[.string ⟨#[110, 117, 109, 98, 101, 114, 46, 102, 105, 120, 101, 100]⟩, .slice (some ⟨B, 0, none⟩) 2 2] W fun e w'' => e = .returned (.tuple #[vV 3 0 0 S1 0, .bool true]) ∧ Below W.heap.size W w'') := fun W B hT' c0 c5 => by
              have E : Env W (some ⟨B, 0, none⟩) 2 2 [⟨2, aP, aQ, ⟨#[]⟩, 0⟩, ⟨2, n, 1, ⟨#[]⟩, 0⟩] := env2 hT' ⟨show (-9223372036854775808 : Int) ≤ aP by omega, show aP ≤ (9223372036854775807 : Int) by omega, by first | assumption | (show (0 : Nat) ≤ 9223372036854775807; omega)⟩ ⟨show (-9223372036854775808 : Int) ≤ n by omega, show n ≤ (9223372036854775807 : Int) by omega, by first | assumption | (show (0 : Nat) ≤ 9223372036854775807; omega)⟩ c0 c5
              have h := result_at E 4 (by omega)
              rw [e1] at h
              exact h
            have HR2 : Hid (∀ (w' : World) (t : TypeId) (B : Nat), B = w'.heap.size → Tabs (w'.alloc (.cells #[.int .i64 2, .int .i64 aP, .int .i64 aQ, .string ⟨#[]⟩, .int .i64 0] t)) → Calls Tryz.prog 18 #[.string ⟨#[110, 117, 109, 98, 101, 114, 46, 98, 97, 115, 101]⟩, .slice (some ⟨B, 0, none⟩) 1 1] (w'.alloc (.cells #[.int .i64 2, .int .i64 aP, .int .i64 aQ, .string ⟨#[]⟩, .int .i64 0] t)) fun e w'' => e = .returned (.tuple #[vV 0 0 0 ⟨#[]⟩ 0, .bool false]) ∧ Below (w'.alloc (.cells #[.int .i64 2, .int .i64 aP, .int .i64 aQ, .string ⟨#[]⟩, .int .i64 0] t)).heap.size (w'.alloc (.cells #[.int .i64 2, .int .i64 aP, .int .i64 aQ, .string ⟨#[]⟩, .int .i64 0] t)) w'') := fun w' t B hB hT' => by
              subst hB
              have E : Env (w'.alloc (.cells #[.int .i64 2, .int .i64 aP, .int .i64 aQ, .string ⟨#[]⟩, .int .i64 0] t)) (some ⟨w'.heap.size, 0, none⟩) 1 1 [⟨2, aP, aQ, ⟨#[]⟩, 0⟩] := env1 hT' ⟨show (-9223372036854775808 : Int) ≤ aP by omega, show aP ≤ (9223372036854775807 : Int) by omega, by first | assumption | (show (0 : Nat) ≤ 9223372036854775807; omega)⟩ (at_new _ _ _ 0 _ _ _ _ _ rfl rfl rfl rfl rfl)
              have h := result_at E 1 (by omega)
              rw [e2] at h
              exact h
            exact texts_100 aP aQ n S1 w p1 p2 nn1 nn2 hn d1 d2 b2 HT HW HV HF HR1 HR2
          · rw [if_neg h1] at e1
            have b1 : (E1 == 0) = false := by simpa using h1
            clear h1
            have e2 := bg_base_no hv hq
            have b2 : (aQ != 1) = true := by simpa using hq
            clear hq
            have HR1 : Hid (∀ (W : World) (B : Nat), Tabs W → CellsAt W B 0 (2) (aP) (aQ) (⟨#[]⟩) (0) → CellsAt W B 5 (2) (n) (1) (⟨#[]⟩) (0) → Calls Tryz.prog 18 #[.string ⟨#[110, 117, 109, 98, 101, 114, 46, 102, 105, 120, 101, 100]⟩, .slice (some ⟨B, 0, none⟩) 2 2] W fun e w'' => e = .returned (.tuple #[vV 0 0 0 ⟨#[]⟩ 0, .bool false]) ∧ Below W.heap.size W w'') := fun W B hT' c0 c5 => by
              have E : Env W (some ⟨B, 0, none⟩) 2 2 [⟨2, aP, aQ, ⟨#[]⟩, 0⟩, ⟨2, n, 1, ⟨#[]⟩, 0⟩] := env2 hT' ⟨show (-9223372036854775808 : Int) ≤ aP by omega, show aP ≤ (9223372036854775807 : Int) by omega, by first | assumption | (show (0 : Nat) ≤ 9223372036854775807; omega)⟩ ⟨show (-9223372036854775808 : Int) ≤ n by omega, show n ≤ (9223372036854775807 : Int) by omega, by first | assumption | (show (0 : Nat) ≤ 9223372036854775807; omega)⟩ c0 c5
              have h := result_at E 4 (by omega)
              rw [e1] at h
              exact h
            have HR2 : Hid (∀ (w' : World) (t : TypeId) (B : Nat), B = w'.heap.size → Tabs (w'.alloc (.cells #[.int .i64 2, .int .i64 aP, .int .i64 aQ, .string ⟨#[]⟩, .int .i64 0] t)) → Calls Tryz.prog 18 #[.string ⟨#[110, 117, 109, 98, 101, 114, 46, 98, 97, 115, 101]⟩, .slice (some ⟨B, 0, none⟩) 1 1] (w'.alloc (.cells #[.int .i64 2, .int .i64 aP, .int .i64 aQ, .string ⟨#[]⟩, .int .i64 0] t)) fun e w'' => e = .returned (.tuple #[vV 0 0 0 ⟨#[]⟩ 0, .bool false]) ∧ Below (w'.alloc (.cells #[.int .i64 2, .int .i64 aP, .int .i64 aQ, .string ⟨#[]⟩, .int .i64 0] t)).heap.size (w'.alloc (.cells #[.int .i64 2, .int .i64 aP, .int .i64 aQ, .string ⟨#[]⟩, .int .i64 0] t)) w'') := fun w' t B hB hT' => by
              subst hB
              have E : Env (w'.alloc (.cells #[.int .i64 2, .int .i64 aP, .int .i64 aQ, .string ⟨#[]⟩, .int .i64 0] t)) (some ⟨w'.heap.size, 0, none⟩) 1 1 [⟨2, aP, aQ, ⟨#[]⟩, 0⟩] := env1 hT' ⟨show (-9223372036854775808 : Int) ≤ aP by omega, show aP ≤ (9223372036854775807 : Int) by omega, by first | assumption | (show (0 : Nat) ≤ 9223372036854775807; omega)⟩ (at_new _ _ _ 0 _ _ _ _ _ rfl rfl rfl rfl rfl)
              have h := result_at E 1 (by omega)
              rw [e2] at h
              exact h
            exact texts_000 aP aQ n E1 S1 w p1 p2 nn1 nn2 hn d1 d2 b2 b1 HT HW HV HF HR1 HR2

set_option maxHeartbeats 8000000 in
set_option maxRecDepth 100000 in
theorem lifted (os : Os) (started : os.Started) (H : Type) (enc : TypeId × Value → H) :
    ReturnsInHanded {} Tryz.checked os 7 .any (fun w args => (Rows.numlibTextsSpec.pre enc Tryz.prog Tryz.f7 Rows.numlibTextsRow.domain false w args ∧ laidMetH Tryz.prog laidS w) ∧ sizedMet enc Tryz.prog Tryz.f7 (OpenSpec.ofChange Rows.numlibTextsSpec) false w args) (Rows.numlibTextsSpec.post enc Tryz.prog Tryz.f7 false true false false) := by
  refine returnsInHanded_of_change_and (C := Tryz.checked) (X := fun w _ => laidMetH Tryz.prog laidS w) (fun _ _ _ hh h => h.of_heap hh) own started (by kernel_rfl) Tryz.func7
    (ChangeSpec.witness_shaped (enc := enc) (C := Tryz.checked) (os := os) (X := fun w _ => laidMetH Tryz.prog laidS w) false (World.laidAll Tryz.prog os laidS) #[.agg #[.int .i64 0, .int .i64 0], .int .i64 0] 8 (World.laidAll_os _ _ _) (start_shaped os) (by kernel_rfl) (by kernel_rfl) (by kernel_rfl) (start_met os _)) ?_
  intro W base args ds gs before hval0 hW hcnd _ hL _
  have hT := laid_tabs hL
  have hval : ∀ (j : Nat) t v, Tryz.f7.params[j]? = some t → args[j]? = some v → Value.okWide Tryz.prog W .any base t v := hval0
  have hW' := hW
  obtain ⟨p, q, hA0, hV, rfl, hfz, hnd⟩ := hW
  have hA : DataW.TrodAll enc Tryz.prog W 0 (fun _ => true) true Tryz.f7.params.toList args.toList ds p := hA0
  rw [Tryz.params7] at hA hval
  obtain ⟨v0, vs0, d0, ds0, p0, q0, hargs, rfl, rfl, h0, r0⟩ := trodAll_cons hA
  obtain ⟨v1, vs1, d1, ds1, p1, q1, rfl, rfl, rfl, h1, r1⟩ := trodAll_cons r0
  obtain ⟨rfl, rfl, rfl⟩ := trodAll_nil r1
  obtain rfl : args = #[v0, v1] := by cases args; simp_all
  obtain ⟨rfl, rfl⟩ := trodVars_none hV
  have k0 := h0
  have lt0 : ∀ x ∈ p0, x.block < W.heap.size := by obtain ⟨m, hm⟩ := k0; exact DataW.trod_lt m _ _ _ hm
  obtain ⟨c0, e0, y0, z0, m0, rfl, -, -, hy0, hz0⟩ := open_agg2 Tryz.underlying30 (by kernel_rfl) (by kernel_rfl) (hval 0 30 v0 rfl rfl) h0
  obtain ⟨aP, f0, -, waP⟩ := DataW.trod_int Tryz.underlying3 hy0
  obtain ⟨aQ, g0, -, waQ⟩ := DataW.trod_int Tryz.underlying3 hz0
  simp only [List.cons.injEq, and_true] at f0 g0
  subst f0 g0
  have k1 := h1
  have lt1 : ∀ x ∈ p1, x.block < W.heap.size := by obtain ⟨m, hm⟩ := k1; exact DataW.trod_lt m _ _ _ hm
  obtain ⟨n, rfl, -, -, wn⟩ := open_int Tryz.underlying3 (hval 1 3 v1 rfl rfl) h1
  clear hA0 hval0
  refine (walk aP aQ waP waQ n wn W hT).mono fun e W' ⟨he, bel⟩ => ?_
  subst he
  exact ⟨_, rfl, _, _, _, [], _, [], hW', trodAll_mk1 (shut_bool Tryz.underlying4 _), (trodAll_cons_mk (Below.trod laidOut (by kernel_rfl) (of_decide_eq_true (by kernel_rfl)) k0 bel lt0) (trodAll_cons_mk (Below.trod laidOut (by kernel_rfl) (of_decide_eq_true (by kernel_rfl)) k1 bel lt1) trodAll_mk0)), rfl, bel.frame _, fun h => by cases h⟩

theorem over : Rows.numlibTextsRow.holds Tryz.pinned (OpenSpec.ofChange Rows.numlibTextsSpec) :=
  OpenClaim.holds_of_wide 7 Tryz.f7 rfl rfl rfl rfl rfl rfl rfl ⟨rfl, rfl, rfl, rfl, rfl⟩ rfl rfl rfl rfl rfl (by kernel_rfl) Tryz.func7 (by kernel_rfl)
    (of_decide_eq_true (by kernel_rfl)) (by unfold Func.isWrapper; first | (rw [if_pos (by decide +kernel)]; kernel_rfl) | (rw [if_neg (by decide +kernel)]; exact ⟨rfl, rfl⟩))
    (fun os started H enc _ => lifted os started H enc)

/-- The given statement: the row, tied. -/
theorem proved : Rows.NumlibTextsCardSaid :=
  Claim7.holds_tied_plain_at .later [] [.data, .data, .data, .data, .pinned] true _ false over (fun _ h => by cases h) (by kernel_rfl) (fun _ h => by cases h) numlibTexts_row_tie rfl ⟨rfl, rfl⟩ (by kernel_rfl) rfl
    (fun f fn hf hfn => by
      obtain rfl : f = 7 := Option.some.inj ((show Tryz.prog.funcNamed Rows.numlibTextsRow.func = some 7 by kernel_rfl).symm.trans hf) |>.symm
      obtain rfl : fn = Tryz.f7 := (Option.some.inj (Tryz.func7.symm.trans hfn)).symm
      exact ⟨by kernel_rfl, fun j t ht => by
        rw [Tryz.params7] at ht
        have hm : t ∈ [30, 3] := by simpa using Array.mem_of_getElem? ht
        have hall : ([30, 3].all fun u => !Tryz.prog.wantsStandIn u) = true := by kernel_rfl
        exact (show Tryz.prog.wantsStandIn t = false by simpa using List.all_eq_true.1 hall t hm)⟩)
    (by kernel_rfl)
#print axioms proved
end Go.Proofs.YtfclmnglckikbaaGreatDoor.numlibTexts
