/- The law FormattingPlain holds: for every input it returns true, and each argument reads as it did, where the library's tables read as its text lays them. No other conditions. -/
import Derived.Test.YtemlijadhdejeaaGreatDoorMFmLv
import Derived.Test.YtemlijadhdejeaaGreatDoorMFmDup
import Derived.Test.YtemlijadhdejeaaGreatDoorMLaid
import Derived.Test.YtemlijadhdejeaaGreatDoorCards
import Derived.Test.YtemlijadhdejeaaGreatDoorTie
namespace Go.Proofs.YtemlijadhdejeaaGreatDoor.formattingPlain
open Go.ChangeShapes Go.WideShapes Go.ChangeAt Go.RowKit Go.Joins
open Go.ChangeMaps (open_string shut_string)
set_option linter.unusedVariables false

set_option maxHeartbeats 8000000 in
set_option maxRecDepth 100000 in
theorem walk (s : ByteArray) (ws : s.size ≤ maxLen) (w : World) (hS : w.ShapedOpen Tryz.prog) (hT : Tabs w) :
    Calls Tryz.prog 10 #[.string s] w fun e w' => e = .returned (.bool true) ∧ Below w.heap.size w w' := by
  unfold maxLen at ws
  have HT := Lib.hid hT
  clear hT
  have HW : Hid (∀ w', Tabs w' → Calls Tryz.prog 11 #[] w' fun e w'' => e = .returned (.bool true) ∧ Below w'.heap.size w' w'') := fun w' h => lives_any w' h
  by_cases hl : 1000 < s.size
  · have h1 : decide (1000 < (s.size : Int)) = true := by simp; omega
    clear hl hS
    go_enter Tryz.func10, Tryz.ntmps10
    go_wp2_with (first | (go_at_call 11; (with_reducible refine (HW.out _ (HT.out.later ?_)).mono ?_); (focus ((repeat' (first | (with_reducible exact Below.refl _ _) | (with_reducible assumption) | (with_reducible refine Below.alloc ?_ ?_ _) | (with_reducible refine below_drewN ?_ _) | (with_reducible refine Below.drew ?_) | (with_reducible refine Below.setCell ?_ ?_ _) | (with_reducible refine below_via (by assumption) ?_ ?_) | (with_reducible refine below_via (later_below _) ?_ ?_) | (with_reducible exact Nat.le_refl _) | omega | (simp; omega) | (simp; done))))); rintro e w9 ⟨rfl, hb9⟩))
    go_returns
    refine ⟨rfl, ?_⟩
    (repeat' (first | (with_reducible exact Below.refl _ _) | (with_reducible assumption) | (with_reducible refine Below.alloc ?_ ?_ _) | (with_reducible refine below_drewN ?_ _) | (with_reducible refine Below.drew ?_) | (with_reducible refine Below.setCell ?_ ?_ _) | (with_reducible refine below_via (by assumption) ?_ ?_) | (with_reducible refine below_via (later_below _) ?_ ?_) | (with_reducible exact Nat.le_refl _) | omega | (simp; omega) | (simp; done)))
  · have h1 : decide (1000 < (s.size : Int)) = false := by simp; omega
    have hsl : s.data.toList.length = s.size := by simp
    have HD := Lib.hid (dup_any s w hS (by omega))
    have hdl := dup_len s.data.toList
    have HF : Hid (∀ w', Tabs w' → Calls Tryz.prog 15 #[.string (mkS (dupL s.data.toList)), .slice none 0 0] w' fun e w'' => e = .returned (.tuple #[.string s, .int .i64 0, .int .i64 0]) ∧ Below w'.heap.size w' w'') := fun w' h => by
      have h := fformat_any (mkS (dupL s.data.toList)) none 0 [] w' (by rw [mkS_size]; omega) (Nat.zero_le _) (fun v hv => by cases hv) (.inl rfl) h
      rw [mkS_list, fmtR_dup _ (by omega), mkS_of] at h
      exact h
    clear hl hsl hdl hS
    go_enter Tryz.func10, Tryz.ntmps10
    go_wp2_with (first | (go_at_call 11; (with_reducible refine (HW.out _ (HT.out.later ?_)).mono ?_); (focus ((repeat' (first | (with_reducible exact Below.refl _ _) | (with_reducible assumption) | (with_reducible refine Below.alloc ?_ ?_ _) | (with_reducible refine below_drewN ?_ _) | (with_reducible refine Below.drew ?_) | (with_reducible refine Below.setCell ?_ ?_ _) | (with_reducible refine below_via (by assumption) ?_ ?_) | (with_reducible refine below_via (later_below _) ?_ ?_) | (with_reducible exact Nat.le_refl _) | omega | (simp; omega) | (simp; done))))); rintro e w9 ⟨rfl, hb9⟩) | (go_at_call 25; (with_reducible refine HD.out.mono ?_); rintro e w1 ⟨rfl, hb1⟩; have hz1 := hb1.size) | (go_at_call 15; (with_reducible refine (HF.out _ (HT.out.later hb1)).mono ?_); rintro e w2 ⟨rfl, hb2⟩; have hz2 := hb2.size))
    go_returns
    refine ⟨rfl, ?_⟩
    (repeat' (first | (with_reducible exact Below.refl _ _) | (with_reducible assumption) | (with_reducible refine Below.alloc ?_ ?_ _) | (with_reducible refine below_drewN ?_ _) | (with_reducible refine Below.drew ?_) | (with_reducible refine Below.setCell ?_ ?_ _) | (with_reducible refine below_via (by assumption) ?_ ?_) | (with_reducible refine below_via (later_below _) ?_ ?_) | (with_reducible exact Nat.le_refl _) | omega | (simp; omega) | (simp; done)))

set_option maxHeartbeats 8000000 in
set_option maxRecDepth 100000 in
theorem lifted (os : Os) (started : os.Started) (H : Type) (enc : TypeId × Value → H) :
    ReturnsInHanded {} Tryz.checked os 10 .any (fun w args => (Rows.formattingPlainSpec.pre enc Tryz.prog Tryz.f10 Rows.formattingPlainRow.domain false w args ∧ laidMetH Tryz.prog laidS w) ∧ sizedMet enc Tryz.prog Tryz.f10 (OpenSpec.ofChange Rows.formattingPlainSpec) false w args) (Rows.formattingPlainSpec.post enc Tryz.prog Tryz.f10 false true false false) := by
  refine handed_open (C := Tryz.checked) (X := fun w _ => laidMetH Tryz.prog laidS w) (fun _ _ _ hh h => h.of_heap hh) own started (by kernel_rfl) Tryz.func10
    (ChangeSpec.witness_shaped (enc := enc) (C := Tryz.checked) (os := os) (X := fun w _ => laidMetH Tryz.prog laidS w) false (World.laidAll Tryz.prog os laidS) #[.string ⟨#[]⟩] 8 (World.laidAll_os _ _ _) (start_shaped os) (by kernel_rfl) (by kernel_rfl) (by kernel_rfl) (start_met os _)) ?_
  intro W base args ds gs before hS hval0 hW hcnd hL
  have hT := laid_tabs hL
  have hval : ∀ (j : Nat) t v, Tryz.f10.params[j]? = some t → args[j]? = some v → Value.okWide Tryz.prog W .any base t v := hval0
  have hW' := hW
  obtain ⟨p, q, hA0, hV, rfl, hfz, hnd⟩ := hW
  have hA : DataW.TrodAll enc Tryz.prog W 0 (fun _ => true) true Tryz.f10.params.toList args.toList ds p := hA0
  rw [Tryz.params10] at hA hval
  obtain ⟨v0, vs0, d0, ds0, p0, q0, hargs, rfl, rfl, h0, r0⟩ := trodAll_cons hA
  obtain ⟨rfl, rfl, rfl⟩ := trodAll_nil r0
  obtain rfl : args = #[v0] := by cases args; simp_all
  obtain ⟨rfl, rfl⟩ := trodVars_none hV
  have k0 := h0
  have lt0 : ∀ x ∈ p0, x.block < W.heap.size := by obtain ⟨m, hm⟩ := k0; exact DataW.trod_lt m _ _ _ hm
  obtain ⟨s, rfl, -, -, ws⟩ := open_string Tryz.underlying9 (hval 0 9 v0 rfl rfl) h0
  clear hA0 hval0
  refine (walk s ws W hS hT).mono fun e W' ⟨he, bel⟩ => ?_
  subst he
  exact ⟨_, rfl, _, _, _, [], _, [], hW', trodAll_mk1 (shut_bool Tryz.underlying4 _), (trodAll_cons_mk (Below.trod laidOut (by kernel_rfl) (of_decide_eq_true (by kernel_rfl)) k0 bel lt0) trodAll_mk0), rfl, bel.frame _, fun h => by cases h⟩

theorem over : Rows.formattingPlainRow.holds Tryz.pinned (OpenSpec.ofChange Rows.formattingPlainSpec) :=
  OpenClaim.holds_of_wide 10 Tryz.f10 rfl rfl rfl rfl rfl rfl rfl ⟨rfl, rfl, rfl, rfl, rfl⟩ rfl rfl rfl rfl rfl (by kernel_rfl) Tryz.func10 (by kernel_rfl)
    (of_decide_eq_true (by kernel_rfl)) (by unfold Func.isWrapper; first | (rw [if_pos (by decide +kernel)]; kernel_rfl) | (rw [if_neg (by decide +kernel)]; exact ⟨rfl, rfl⟩))
    (fun os started H enc _ => lifted os started H enc)

/-- The given statement: the row, tied. -/
theorem proved : Rows.FormattingPlainCardSaid :=
  Claim7.holds_tied_plain_at .later [] [.data, .data, .data, .data, .pinned, .pinned] true _ false over (fun _ h => by cases h) (by kernel_rfl) (fun _ h => by cases h) formattingPlain_row_tie rfl ⟨rfl, rfl⟩ (by kernel_rfl) rfl
    (fun f fn hf hfn => by
      obtain rfl : f = 10 := Option.some.inj ((show Tryz.prog.funcNamed Rows.formattingPlainRow.func = some 10 by kernel_rfl).symm.trans hf) |>.symm
      obtain rfl : fn = Tryz.f10 := (Option.some.inj (Tryz.func10.symm.trans hfn)).symm
      exact ⟨by kernel_rfl, fun j t ht => by
        rw [Tryz.params10] at ht
        have hm : t ∈ [9] := by simpa using Array.mem_of_getElem? ht
        have hall : ([9].all fun u => !Tryz.prog.wantsStandIn u) = true := by kernel_rfl
        exact (show Tryz.prog.wantsStandIn t = false by simpa using List.all_eq_true.1 hall t hm)⟩)
    (by kernel_rfl)
#print axioms proved
end Go.Proofs.YtemlijadhdejeaaGreatDoor.formattingPlain
