/- The law FormattingPieces holds: for every input it returns true, and each argument reads as it did, where the library's tables read as its text lays them. No other conditions. -/
import Derived.Test.YtemlijadhdejeaaGreatDoorMFmLv
import Derived.Test.YtemlijadhdejeaaGreatDoorMFmR4
import Derived.Test.YtemlijadhdejeaaGreatDoorMLaid
import Derived.Test.YtemlijadhdejeaaGreatDoorCards
import Derived.Test.YtemlijadhdejeaaGreatDoorTie
namespace Go.Proofs.YtemlijadhdejeaaGreatDoor.formattingPieces
open Go.ChangeShapes Go.WideShapes Go.ChangeAt Go.RowKit Go.Joins
open Go.ChangeMaps (open_string shut_string)
set_option linter.unusedVariables false

set_option maxHeartbeats 8000000 in
set_option maxRecDepth 100000 in
theorem walk (s : ByteArray) (ws : s.size ≤ maxLen) (w : World) (hT : Tabs w) :
    Calls Tryz.prog 3 #[.string s] w fun e w' => e = .returned (.bool true) ∧ Below w.heap.size w w' := by
  unfold maxLen at ws
  have HT := Lib.hid hT
  clear hT
  have HW : Hid (∀ w', Tabs w' → Calls Tryz.prog 11 #[] w' fun e w'' => e = .returned (.bool true) ∧ Below w'.heap.size w' w'') := fun w' h => lives_any w' h
  by_cases hl : 2000 < s.size
  · have h1 : decide (2000 < (s.size : Int)) = true := by simp; omega
    clear hl
    go_enter Tryz.func3, Tryz.ntmps3
    go_wp2_with (first | (go_at_call 11; (with_reducible refine (HW.out _ (HT.out.later ?_)).mono ?_); (focus ((repeat' (first | (with_reducible exact Below.refl _ _) | (with_reducible assumption) | (with_reducible refine Below.alloc ?_ ?_ _) | (with_reducible refine below_drewN ?_ _) | (with_reducible refine Below.drew ?_) | (with_reducible refine Below.setCell ?_ ?_ _) | (with_reducible refine below_via (by assumption) ?_ ?_) | (with_reducible refine below_via (later_below _) ?_ ?_) | (with_reducible exact Nat.le_refl _) | omega | (simp; omega) | (simp; done))))); rintro e w9 ⟨rfl, hb9⟩))
    go_returns
    refine ⟨rfl, ?_⟩
    (repeat' (first | (with_reducible exact Below.refl _ _) | (with_reducible assumption) | (with_reducible refine Below.alloc ?_ ?_ _) | (with_reducible refine below_drewN ?_ _) | (with_reducible refine Below.drew ?_) | (with_reducible refine Below.setCell ?_ ?_ _) | (with_reducible refine below_via (by assumption) ?_ ?_) | (with_reducible refine below_via (later_below _) ?_ ?_) | (with_reducible exact Nat.le_refl _) | omega | (simp; omega) | (simp; done)))
  · have h1 : decide (2000 < (s.size : Int)) = false := by simp; omega
    have hsl : s.data.toList.length = s.size := by simp
    have hP := fun w' => fpcs_any s w' (by omega)
    have hR := fun w' => rpcs_any s w' (by omega)
    cases he : evs s.data.toList with
    | none =>
      have hn : pcsT s.data.toList [] [] = none := by unfold pcsT; rw [he]; rfl
      rw [hn] at hP hR
      have HP := Lib.hid hP
      have HR := Lib.hid hR
      clear hP hR hn he hl
      go_enter Tryz.func3, Tryz.ntmps3
      go_wp2_with (first | (go_at_call 11; (with_reducible refine (HW.out _ (HT.out.later ?_)).mono ?_); (focus ((repeat' (first | (with_reducible exact Below.refl _ _) | (with_reducible assumption) | (with_reducible refine Below.alloc ?_ ?_ _) | (with_reducible refine below_drewN ?_ _) | (with_reducible refine Below.drew ?_) | (with_reducible refine Below.setCell ?_ ?_ _) | (with_reducible refine below_via (by assumption) ?_ ?_) | (with_reducible refine below_via (later_below _) ?_ ?_) | (with_reducible exact Nat.le_refl _) | omega | (simp; omega) | (simp; done))))); rintro e w9 ⟨rfl, hb9⟩) | (go_at_call 12; (with_reducible refine (HP.out _).mono ?_); rintro e w1 ⟨he1, hb1⟩; have hz1 := hb1.size; obtain rfl := he1) | (go_at_call 13; (with_reducible refine (HR.out _).mono ?_); rintro e w2 ⟨he2, hb2⟩; have hz2 := hb2.size; obtain rfl := he2))
      go_loopw [7] (fun i wr => i = .int .i64 0 ∧ Hid (Below w.heap.size w wr)) (fun _ _ => 0)
      case atStart => exact ⟨rfl, by show Below _ _ _; (repeat' (first | (with_reducible exact Below.refl _ _) | (with_reducible assumption) | (with_reducible refine Below.alloc ?_ ?_ _) | (with_reducible refine below_drewN ?_ _) | (with_reducible refine Below.drew ?_) | (with_reducible refine Below.setCell ?_ ?_ _) | (with_reducible refine below_via (by assumption) ?_ ?_) | (with_reducible refine below_via (later_below _) ?_ ?_) | (with_reducible exact Nat.le_refl _) | omega | (simp; omega) | (simp; done)))⟩
      case round =>
        obtain ⟨rfl, HB⟩ := hrel
        have h0 := HB.out
        have hz := h0.size
        go_wp2_with (first | (go_at_call 11; (with_reducible refine (HW.out _ (HT.out.later ?_)).mono ?_); (focus ((repeat' (first | (with_reducible exact Below.refl _ _) | (with_reducible assumption) | (with_reducible refine Below.alloc ?_ ?_ _) | (with_reducible refine below_drewN ?_ _) | (with_reducible refine Below.drew ?_) | (with_reducible refine Below.setCell ?_ ?_ _) | (with_reducible refine below_via (by assumption) ?_ ?_) | (with_reducible refine below_via (later_below _) ?_ ?_) | (with_reducible exact Nat.le_refl _) | omega | (simp; omega) | (simp; done))))); rintro e w9 ⟨rfl, hb9⟩))
        go_returns
        refine ⟨rfl, ?_⟩
        (repeat' (first | (with_reducible exact Below.refl _ _) | (with_reducible assumption) | (with_reducible refine Below.alloc ?_ ?_ _) | (with_reducible refine below_drewN ?_ _) | (with_reducible refine Below.drew ?_) | (with_reducible refine Below.setCell ?_ ?_ _) | (with_reducible refine below_via (by assumption) ?_ ?_) | (with_reducible refine below_via (later_below _) ?_ ?_) | (with_reducible exact Nat.le_refl _) | omega | (simp; omega) | (simp; done)))
    | some E =>
      obtain ⟨hok, hPn, hPt⟩ := pcs_ok he
      have hn : pcsT s.data.toList [] [] = some (grp E []) := by unfold pcsT; rw [he]; rfl
      rw [hn] at hP hR
      obtain ⟨P, hPE⟩ : ∃ P, grp E [] = P := ⟨_, rfl⟩
      rw [hPE] at hP hR hPn
      have HP := Lib.hid hP
      have HR := Lib.hid hR
      have hPl : P.length ≤ 4000 := by omega
      clear hP hR hn he hok hPt hPE hPn hl hsl
      go_enter Tryz.func3, Tryz.ntmps3
      go_wp2_with (first | (go_at_call 12; (with_reducible refine (HP.out _).mono ?_); rintro e w1 ⟨⟨v1, he1, hown1⟩, hb1⟩; have hz1 := hb1.size; obtain rfl := he1; obtain ⟨x1, c1, rfl⟩ := own_form hown1; have HO1 := Lib.hid hown1; have HB1 := Lib.hid hb1; clear hown1 hb1) | (go_at_call 13; (with_reducible refine (HR.out _).mono ?_); rintro e w2 ⟨⟨v2, he2, hown2⟩, hb2⟩; have hz2 := hb2.size; obtain rfl := he2; obtain ⟨x2, c2, rfl⟩ := own_form hown2; have HO2 := Lib.hid hown2; have HB2 := Lib.hid (HB1.out.trans (hb2.mono HB1.out.size)); have HO3 := Lib.hid (ownsRow_later HO1.out hb2); clear hown2 hb2))
      go_loopw [7] (fun i wr => ∃ k : Nat, k ≤ P.length ∧ i = .int .i64 k ∧ Hid (Below w2.heap.size w2 wr)) (fun i _ => P.length - (intOf i).toNat)
      case atStart => exact ⟨0, Nat.zero_le _, rfl, Below.refl _ _⟩
      case round =>
        obtain ⟨k, hk, rfl, HB⟩ := hrel
        have hz := HB.out.size
        by_cases hlt : k < P.length
        · obtain ⟨g1, e1, hg1, -, hl1, hc1⟩ := own_pcs HO3.out (by omega)
          obtain ⟨g2, e2, hg2, -, hl2, hc2⟩ := own_pcs HO2.out (by omega)
          injection hg1 with hx1 hy1 hz1
          injection hg2 with hx2 hy2 hz2
          subst hx1 hx2
          have ca : ∀ o, wr.cell? ⟨g1, o, none⟩ = w2.cell? ⟨g1, o, none⟩ := fun o => HB.out.cell (p := ⟨g1, o, none⟩) hl1
          have cb : ∀ o, wr.cell? ⟨g2, o, none⟩ = w2.cell? ⟨g2, o, none⟩ := fun o => HB.out.cell (p := ⟨g2, o, none⟩) hl2
          obtain ⟨p0, p1, p2, p3, p4, p5, p6⟩ := hc1 k hlt
          obtain ⟨q0, q1, q2, q3, q4, q5, q6⟩ := hc2 k hlt
          rw [← ca] at p0 p1 p2 p3 p4 p5 p6
          rw [← cb] at q0 q1 q2 q3 q4 q5 q6
          obtain ⟨p, hp⟩ : ∃ p, P[k] = p := ⟨_, rfl⟩
          rw [hp] at p0 p1 p2 p3 p4 p5 p6 q0 q1 q2 q3 q4 q5 q6
          clear hp ca cb hc1 hc2 hy1 hy2
          go_wp2_with fail
          go_region
          all_goals
            go_wp2_with fail
            refine ⟨⟨k + 1, by omega, by go_num, ?_⟩, by simp [intOf]; omega⟩
            have h0 := HB.out
            show Below _ _ _
            (repeat' (first | (with_reducible exact Below.refl _ _) | (with_reducible assumption) | (with_reducible refine Below.alloc ?_ ?_ _) | (with_reducible refine below_drewN ?_ _) | (with_reducible refine Below.drew ?_) | (with_reducible refine Below.setCell ?_ ?_ _) | (with_reducible refine below_via (by assumption) ?_ ?_) | (with_reducible refine below_via (later_below _) ?_ ?_) | (with_reducible exact Nat.le_refl _) | omega | (simp; omega) | (simp; done)))
        · obtain rfl : k = P.length := by omega
          have hd0 : decide ((P.length : Int) < (P.length : Int)) = false := by simp
          have hb := HB2.out.trans (HB.out.mono HB2.out.size)
          clear hlt
          go_wp2_with (first | (go_at_call 11; (with_reducible refine (HW.out _ (HT.out.later ?_)).mono ?_); (focus ((repeat' (first | (with_reducible exact Below.refl _ _) | (with_reducible assumption) | (with_reducible refine Below.alloc ?_ ?_ _) | (with_reducible refine below_drewN ?_ _) | (with_reducible refine Below.drew ?_) | (with_reducible refine Below.setCell ?_ ?_ _) | (with_reducible refine below_via (by assumption) ?_ ?_) | (with_reducible refine below_via (later_below _) ?_ ?_) | (with_reducible exact Nat.le_refl _) | omega | (simp; omega) | (simp; done))))); rintro e w9 ⟨rfl, hb9⟩))
          go_returns
          refine ⟨rfl, ?_⟩
          (repeat' (first | (with_reducible exact Below.refl _ _) | (with_reducible assumption) | (with_reducible refine Below.alloc ?_ ?_ _) | (with_reducible refine below_drewN ?_ _) | (with_reducible refine Below.drew ?_) | (with_reducible refine Below.setCell ?_ ?_ _) | (with_reducible refine below_via (by assumption) ?_ ?_) | (with_reducible refine below_via (later_below _) ?_ ?_) | (with_reducible exact Nat.le_refl _) | omega | (simp; omega) | (simp; done)))

set_option maxHeartbeats 8000000 in
set_option maxRecDepth 100000 in
theorem lifted (os : Os) (started : os.Started) (H : Type) (enc : TypeId × Value → H) :
    ReturnsInHanded {} Tryz.checked os 3 .any (fun w args => (Rows.formattingPiecesSpec.pre enc Tryz.prog Tryz.f3 Rows.formattingPiecesRow.domain false w args ∧ laidMetH Tryz.prog laidS w) ∧ sizedMet enc Tryz.prog Tryz.f3 (OpenSpec.ofChange Rows.formattingPiecesSpec) false w args) (Rows.formattingPiecesSpec.post enc Tryz.prog Tryz.f3 false true false false) := by
  refine returnsInHanded_of_change_and (C := Tryz.checked) (X := fun w _ => laidMetH Tryz.prog laidS w) (fun _ _ _ hh h => h.of_heap hh) own started (by kernel_rfl) Tryz.func3
    (ChangeSpec.witness_shaped (enc := enc) (C := Tryz.checked) (os := os) (X := fun w _ => laidMetH Tryz.prog laidS w) false (World.laidAll Tryz.prog os laidS) #[.string ⟨#[]⟩] 8 (World.laidAll_os _ _ _) (start_shaped os) (by kernel_rfl) (by kernel_rfl) (by kernel_rfl) (start_met os _)) ?_
  intro W base args ds gs before hval0 hW hcnd _ hL _
  have hT := laid_tabs hL
  have hval : ∀ (j : Nat) t v, Tryz.f3.params[j]? = some t → args[j]? = some v → Value.okWide Tryz.prog W .any base t v := hval0
  have hW' := hW
  obtain ⟨p, q, hA0, hV, rfl, hfz, hnd⟩ := hW
  have hA : DataW.TrodAll enc Tryz.prog W 0 (fun _ => true) true Tryz.f3.params.toList args.toList ds p := hA0
  rw [Tryz.params3] at hA hval
  obtain ⟨v0, vs0, d0, ds0, p0, q0, hargs, rfl, rfl, h0, r0⟩ := trodAll_cons hA
  obtain ⟨rfl, rfl, rfl⟩ := trodAll_nil r0
  obtain rfl : args = #[v0] := by cases args; simp_all
  obtain ⟨rfl, rfl⟩ := trodVars_none hV
  have k0 := h0
  have lt0 : ∀ x ∈ p0, x.block < W.heap.size := by obtain ⟨m, hm⟩ := k0; exact DataW.trod_lt m _ _ _ hm
  obtain ⟨s, rfl, -, -, ws⟩ := open_string Tryz.underlying9 (hval 0 9 v0 rfl rfl) h0
  clear hA0 hval0
  refine (walk s ws W hT).mono fun e W' ⟨he, bel⟩ => ?_
  subst he
  exact ⟨_, rfl, _, _, _, [], _, [], hW', trodAll_mk1 (shut_bool Tryz.underlying4 _), (trodAll_cons_mk (Below.trod laidOut (by kernel_rfl) (of_decide_eq_true (by kernel_rfl)) k0 bel lt0) trodAll_mk0), rfl, bel.frame _, fun h => by cases h⟩

theorem over : Rows.formattingPiecesRow.holds Tryz.pinned (OpenSpec.ofChange Rows.formattingPiecesSpec) :=
  OpenClaim.holds_of_wide 3 Tryz.f3 rfl rfl rfl rfl rfl rfl rfl ⟨rfl, rfl, rfl, rfl, rfl⟩ rfl rfl rfl rfl rfl (by kernel_rfl) Tryz.func3 (by kernel_rfl)
    (of_decide_eq_true (by kernel_rfl)) (by unfold Func.isWrapper; first | (rw [if_pos (by decide +kernel)]; kernel_rfl) | (rw [if_neg (by decide +kernel)]; exact ⟨rfl, rfl⟩))
    (fun os started H enc _ => lifted os started H enc)

/-- The given statement: the row, tied. -/
theorem proved : Rows.FormattingPiecesCardSaid :=
  Claim7.holds_tied_plain_at .later [] [.data, .data, .data, .data, .pinned, .pinned] true _ false over (fun _ h => by cases h) (by kernel_rfl) (fun _ h => by cases h) formattingPieces_row_tie rfl ⟨rfl, rfl⟩ (by kernel_rfl) rfl
    (fun f fn hf hfn => by
      obtain rfl : f = 3 := Option.some.inj ((show Tryz.prog.funcNamed Rows.formattingPiecesRow.func = some 3 by kernel_rfl).symm.trans hf) |>.symm
      obtain rfl : fn = Tryz.f3 := (Option.some.inj (Tryz.func3.symm.trans hfn)).symm
      exact ⟨by kernel_rfl, fun j t ht => by
        rw [Tryz.params3] at ht
        have hm : t ∈ [9] := by simpa using Array.mem_of_getElem? ht
        have hall : ([9].all fun u => !Tryz.prog.wantsStandIn u) = true := by kernel_rfl
        exact (show Tryz.prog.wantsStandIn t = false by simpa using List.all_eq_true.1 hall t hm)⟩)
    (by kernel_rfl)
#print axioms proved
end Go.Proofs.YtemlijadhdejeaaGreatDoor.formattingPieces
