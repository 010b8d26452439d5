/- The law LexerScan holds: for every input it returns true, and each argument reads as it did, where the library's tables read as its text lays them. No other conditions. -/
import Derived.Test.YtgjeljhodflbgaaDoorMLxE
import Derived.Test.YtgjeljhodflbgaaDoorMLxR6
import Derived.Test.YtgjeljhodflbgaaDoorMLaid
import Derived.Test.YtgjeljhodflbgaaDoorCards
import Derived.Test.YtgjeljhodflbgaaDoorTie
namespace Go.Proofs.YtgjeljhodflbgaaDoor.lexerScan
open Go.ChangeShapes Go.WideShapes Go.ChangeAt Go.RowKit Go.Joins
open Go.ChangeMaps (open_string shut_string)
set_option linter.unusedVariables false

set_option maxHeartbeats 8000000 in
set_option maxRecDepth 100000 in
theorem walk (s : ByteArray) (ws : s.size ≤ maxLen) (w : World) (hT : Tabs w) :
    Calls Tryd.prog 3 #[.string s] w fun e w' => e = .returned (.bool true) ∧ Below w.heap.size w w' := by
  unfold maxLen at ws
  have HT := Lib.hid hT
  clear hT
  have HW : Hid (∀ w', Tabs w' → Calls Tryd.prog 11 #[] w' fun e w'' => e = .returned (.bool true) ∧ Below w'.heap.size w' w'') := fun w' h => lives_any w' h
  by_cases hl : 3000 < s.size
  · have h1 : decide (3000 < (s.size : Int)) = true := by simp; omega
    go_enter Tryd.func3, Tryd.ntmps3
    go_wp2_with fail
    refine (HW.out _ (HT.out.later (Below.refl _ _))).mono ?_
    rintro e w9 ⟨rfl, hb9⟩
    go_wp2_with fail
    go_returns
    exact ⟨rfl, hb9⟩
  · have h1 : decide (3000 < (s.size : Int)) = false := by simp; omega
    have hS1 := fun w' h => scan_prog s w' (by omega) h
    have hS2 := fun w' => r3scan_any s w' (by omega)
    have hlen := (scan_reads s.data.toList.length s.data.toList 0 1 (Nat.le_refl _)).2.2
    obtain ⟨⟨T, ln, E⟩, hR⟩ : ∃ R, scanA s.data.toList 0 1 = R := ⟨_, rfl⟩
    rw [hR] at hS1 hS2 hlen
    dsimp only at hS1 hS2 hlen
    simp at hlen
    have S1 := Lib.hid hS1
    have S2 := Lib.hid hS2
    clear hS1 hS2 hR
    go_enter Tryd.func3, Tryd.ntmps3
    go_wp2_with fail
    refine (S1.out _ (HT.out.later (Below.refl _ _))).mono ?_
    rintro e w1 ⟨⟨v, rfl, hown⟩, hb1⟩
    obtain ⟨a1, cap1, rfl, hcap1, ht1⟩ := own_toksAt hown
    have K1 := Lib.hid ht1
    have B1 := Lib.hid hb1
    clear hown ht1 hb1
    go_wp2_with fail
    refine (S2.out _).mono ?_
    rintro e w2 ⟨⟨v, rfl, hown⟩, hb2⟩
    obtain ⟨a2, cap2, rfl, hcap2, ht2⟩ := own_toksAt hown
    have K1 := Lib.hid (K1.out.later hb2)
    have K2 := Lib.hid ht2
    have B2 := Lib.hid (B1.out.trans (hb2.mono B1.out.size))
    clear hown ht2 hb2
    have hSM : Hid (∀ w', Below w2.heap.size w2 w' → Calls Tryd.prog 14 #[.slice a1 T.length cap1, .slice a2 T.length cap2] w' fun e w'' => e = .returned (.bool true) ∧ Below w'.heap.size w' w'') := fun w' hb => same_yes T a1 a2 cap1 cap2 w' (by omega) (K1.out.later hb) (K2.out.later hb)
    go_wp2_with fail
    refine (hSM.out _ (Below.refl _ _)).mono ?_
    rintro e w3 ⟨rfl, hb3⟩
    have B3 := Lib.hid (B2.out.trans (hb3.mono B2.out.size))
    clear hb3 hSM
    go_wp2_with fail -- last
    refine (HW.out _ (HT.out.later B3.out)).mono ?_
    rintro e w9 ⟨rfl, hb9⟩
    go_wp2_with fail
    go_returns
    exact ⟨rfl, (B3.out).trans (hb9.mono (B3.out).size)⟩

set_option maxRecDepth 100000 in
theorem lifted (os : Os) (started : os.Started) (H : Type) (enc : TypeId × Value → H) :
    ReturnsInHanded {} Tryd.checked os 3 .any (fun w args => (Rows.lexerScanSpec.pre enc Tryd.prog Tryd.f3 Rows.lexerScanRow.domain false w args ∧ laidMetH Tryd.prog laidS w) ∧ sizedMet enc Tryd.prog Tryd.f3 (OpenSpec.ofChange Rows.lexerScanSpec) false w args) (Rows.lexerScanSpec.post enc Tryd.prog Tryd.f3 false true false false) := by
  refine returnsInHanded_of_change_and (C := Tryd.checked) (X := fun w _ => laidMetH Tryd.prog laidS w) (fun _ _ _ hh h => h.of_heap hh) own started (by kernel_rfl) Tryd.func3
    (ChangeSpec.witness_shaped (enc := enc) (C := Tryd.checked) (os := os) (X := fun w _ => laidMetH Tryd.prog laidS w) false (World.laidAll Tryd.prog os laidS) #[.string ⟨#[]⟩] 8 (World.laidAll_os _ _ _) (start_shaped os) (by kernel_rfl) (by kernel_rfl) (by kernel_rfl) (start_met os _)) ?_
  intro W base args ds gs before hval0 hW hcnd _ hL _
  have hT := laid_tabs hL
  have hval : ∀ (j : Nat) t v, Tryd.f3.params[j]? = some t → args[j]? = some v → Value.okWide Tryd.prog W .any base t v := hval0
  have hW' := hW
  obtain ⟨p, q, hA0, hV, rfl, hfz, hnd⟩ := hW
  have hA : DataW.TrodAll enc Tryd.prog W 0 (fun _ => true) true Tryd.f3.params.toList args.toList ds p := hA0
  rw [Tryd.params3] at hA hval
  obtain ⟨v0, vs0, d0, ds0, p0, q0, hargs, rfl, rfl, h0, r0⟩ := trodAll_cons hA
  obtain ⟨rfl, rfl, rfl⟩ := trodAll_nil r0
  obtain rfl : args = #[v0] := by cases args; simp_all
  obtain ⟨rfl, rfl⟩ := trodVars_none hV
  have k0 := h0
  have lt0 : ∀ x ∈ p0, x.block < W.heap.size := by obtain ⟨m, hm⟩ := k0; exact DataW.trod_lt m _ _ _ hm
  obtain ⟨s, rfl, -, -, ws⟩ := open_string Tryd.underlying9 (hval 0 9 v0 rfl rfl) h0
  clear hA0 hval0
  refine (walk s ws W hT).mono fun e W' ⟨he, bel⟩ => ?_
  subst he
  exact ⟨_, rfl, _, _, _, [], _, [], hW', trodAll_mk1 (shut_bool Tryd.underlying4 _), (trodAll_cons_mk (Below.trod laidOut (by kernel_rfl) (of_decide_eq_true (by kernel_rfl)) k0 bel lt0) trodAll_mk0), rfl, bel.frame _, fun h => by cases h⟩

theorem over : Rows.lexerScanRow.holds Tryd.pinned (OpenSpec.ofChange Rows.lexerScanSpec) :=
  OpenClaim.holds_of_wide 3 Tryd.f3 rfl rfl rfl rfl rfl rfl rfl ⟨rfl, rfl, rfl, rfl, rfl⟩ rfl rfl rfl rfl rfl (by kernel_rfl) Tryd.func3 (by kernel_rfl)
    (of_decide_eq_true (by kernel_rfl)) (by unfold Func.isWrapper; first | (rw [if_pos (by decide +kernel)]; kernel_rfl) | (rw [if_neg (by decide +kernel)]; exact ⟨rfl, rfl⟩))
    (fun os started H enc _ => lifted os started H enc)

/-- The given statement: the row, tied. -/
theorem proved : Rows.LexerScanCardSaid :=
  Claim7.holds_tied_plain_at .later [] [.listed, .data] true _ false over (fun _ h => by cases h) (by kernel_rfl) (fun _ h => by cases h) lexerScan_row_tie rfl ⟨rfl, rfl⟩ (by kernel_rfl) rfl
    (fun f fn hf hfn => by
      obtain rfl : f = 3 := Option.some.inj ((show Tryd.prog.funcNamed Rows.lexerScanRow.func = some 3 by kernel_rfl).symm.trans hf) |>.symm
      obtain rfl : fn = Tryd.f3 := (Option.some.inj (Tryd.func3.symm.trans hfn)).symm
      exact ⟨by kernel_rfl, fun j t ht => by
        rw [Tryd.params3] at ht
        have hm : t ∈ [9] := by simpa using Array.mem_of_getElem? ht
        have hall : ([9].all fun u => !Tryd.prog.wantsStandIn u) = true := by kernel_rfl
        exact (show Tryd.prog.wantsStandIn t = false by simpa using List.all_eq_true.1 hall t hm)⟩)
    (by kernel_rfl)
#print axioms proved
end Go.Proofs.YtgjeljhodflbgaaDoor.lexerScan
