/- The law NumlibActions holds: for every input it returns true, and each argument reads as it did, where the library's tables read as its text lays them. No other conditions. -/
import Derived.Test.YtnpnbpilhfgnfaaGreatDoorMNlCk
import Derived.Test.YtnpnbpilhfgnfaaGreatDoorMNlAp
import Derived.Test.YtnpnbpilhfgnfaaGreatDoorMNlVals
import Derived.Test.YtnpnbpilhfgnfaaGreatDoorMValLaw
import Derived.Test.YtnpnbpilhfgnfaaGreatDoorMLaid
import Derived.Test.YtnpnbpilhfgnfaaGreatDoorCards
import Derived.Test.YtnpnbpilhfgnfaaGreatDoorTie
namespace Go.Proofs.YtnpnbpilhfgnfaaGreatDoor.numlibActions
open Go.ChangeShapes Go.WideShapes Go.ChangeAt Go.RowKit Go.Joins
open Go.ChangeMaps (open_string shut_string)
set_option linter.unusedVariables false

/-- The eleven names in a block. -/
def NC (w : World) (g : Nat) : Prop := ∀ j, j < 11 → w.cell? ⟨g, j, none⟩ = some (.string (nmN j))
theorem names_nc (w : World) : Calls Tryz.prog 21 #[] w fun e w' => (∃ g : Nat, e = .returned (.slice (some ⟨g, 0, none⟩) 11 11) ∧ w.heap.size ≤ g ∧ NC w' g) ∧ Below w.heap.size w w' := names_all w

set_option maxHeartbeats 8000000 in
set_option maxRecDepth 100000 in
theorem walk (which : Int) (wwhich : (Lit.int .i64 which).wf = true) (aA : Option Addr) (aN aC : Nat) (aL : List VV) (waN : aN ≤ 9223372036854775807) (waE : aL.length = aN) (waO : ∀ v ∈ aL, okV v) (w : World) (hT : Tabs w) (ma : ∀ i : Nat, ArgIs w aA aN i (argV aL i).k (argV aL i).p (argV aL i).q (argV aL i).s (argV aL i).r) :
    Calls Tryz.prog 6 #[.int .i64 which, .slice aA aN aC] w fun e w' => e = .returned (.bool true) ∧ Below w.heap.size w w' := by
  have HT := Lib.hid hT
  clear hT
  have HW : Hid (∀ w', Tabs w' → Calls Tryz.prog 7 #[] w' fun e w'' => e = .returned (.bool true) ∧ Below w'.heap.size w' w'') := fun w' hT' => awake_any w' hT'
  obtain ⟨wi1, wi2⟩ := bounds_i64 wwhich
  by_cases hl : 300 < aN
  · clear ma waO
    have d0 : decide ((300 : Int) < aN) = true := decide_eq_true (by omega)
    go_enter Tryz.func6, Tryz.ntmps6
    go_wp2_with (first | (go_at_call 21; (with_reducible refine (names_nc _).mono ?_); rintro e w1 ⟨⟨g1, rfl, hg1, -⟩, hb⟩; have hb1 := hb; (refine mem hb ?_; intro N hN hz hc hf; (try simp at hN); subst hN)) | (go_at_call 7; (with_reducible refine (HW.out _ (HT.out.later ?_)).mono ?_); (focus ((repeat' (first | (with_reducible exact Below.refl _ _) | (with_reducible assumption) | (with_reducible refine Below.alloc ?_ ?_ _) | (with_reducible refine below_drewN ?_ _) | (with_reducible refine Below.drew ?_) | (with_reducible refine Below.setCell ?_ ?_ _) | (with_reducible refine below_via (by assumption) ?_ ?_) | (with_reducible refine below_via (later_below _) ?_ ?_) | (with_reducible exact Nat.le_refl _) | omega | (simp; omega) | (simp; done))))); rintro e w9 ⟨rfl, hb⟩; (refine mem hb ?_; intro N hN hz hc hf; (try simp at hN); subst hN)))
    go_returns
    refine ⟨rfl, ?_⟩
    (repeat' (first | (with_reducible exact Below.refl _ _) | (with_reducible assumption) | (with_reducible refine Below.alloc ?_ ?_ _) | (with_reducible refine below_drewN ?_ _) | (with_reducible refine Below.drew ?_) | (with_reducible refine Below.setCell ?_ ?_ _) | (with_reducible refine below_via (by assumption) ?_ ?_) | (with_reducible refine below_via (later_below _) ?_ ?_) | (with_reducible exact Nat.le_refl _) | omega | (simp; omega) | (simp; done)))
  · have d0 : decide ((300 : Int) < aN) = false := decide_eq_false (by omega)
    by_cases h0 : which < 0
    · clear ma waO
      have d1 : decide (which < 0) = true := decide_eq_true h0
      go_enter Tryz.func6, Tryz.ntmps6
      go_wp2_with (first | (go_at_call 21; (with_reducible refine (names_nc _).mono ?_); rintro e w1 ⟨⟨g1, rfl, hg1, -⟩, hb⟩; have hb1 := hb; (refine mem hb ?_; intro N hN hz hc hf; (try simp at hN); subst hN)) | (go_at_call 7; (with_reducible refine (HW.out _ (HT.out.later ?_)).mono ?_); (focus ((repeat' (first | (with_reducible exact Below.refl _ _) | (with_reducible assumption) | (with_reducible refine Below.alloc ?_ ?_ _) | (with_reducible refine below_drewN ?_ _) | (with_reducible refine Below.drew ?_) | (with_reducible refine Below.setCell ?_ ?_ _) | (with_reducible refine below_via (by assumption) ?_ ?_) | (with_reducible refine below_via (later_below _) ?_ ?_) | (with_reducible exact Nat.le_refl _) | omega | (simp; omega) | (simp; done))))); rintro e w9 ⟨rfl, hb⟩; (refine mem hb ?_; intro N hN hz hc hf; (try simp at hN); subst hN)))
      go_returns
      refine ⟨rfl, ?_⟩
      (repeat' (first | (with_reducible exact Below.refl _ _) | (with_reducible assumption) | (with_reducible refine Below.alloc ?_ ?_ _) | (with_reducible refine below_drewN ?_ _) | (with_reducible refine Below.drew ?_) | (with_reducible refine Below.setCell ?_ ?_ _) | (with_reducible refine below_via (by assumption) ?_ ?_) | (with_reducible refine below_via (later_below _) ?_ ?_) | (with_reducible exact Nat.le_refl _) | omega | (simp; omega) | (simp; done)))
    · have d1 : decide (which < 0) = false := decide_eq_false h0
      by_cases h11 : 11 ≤ which
      · clear ma waO
        have d2 : decide (11 ≤ which) = true := decide_eq_true h11
        go_enter Tryz.func6, Tryz.ntmps6
        go_wp2_with (first | (go_at_call 21; (with_reducible refine (names_nc _).mono ?_); rintro e w1 ⟨⟨g1, rfl, hg1, -⟩, hb⟩; have hb1 := hb; (refine mem hb ?_; intro N hN hz hc hf; (try simp at hN); subst hN)) | (go_at_call 7; (with_reducible refine (HW.out _ (HT.out.later ?_)).mono ?_); (focus ((repeat' (first | (with_reducible exact Below.refl _ _) | (with_reducible assumption) | (with_reducible refine Below.alloc ?_ ?_ _) | (with_reducible refine below_drewN ?_ _) | (with_reducible refine Below.drew ?_) | (with_reducible refine Below.setCell ?_ ?_ _) | (with_reducible refine below_via (by assumption) ?_ ?_) | (with_reducible refine below_via (later_below _) ?_ ?_) | (with_reducible exact Nat.le_refl _) | omega | (simp; omega) | (simp; done))))); rintro e w9 ⟨rfl, hb⟩; (refine mem hb ?_; intro N hN hz hc hf; (try simp at hN); subst hN)))
        go_returns
        refine ⟨rfl, ?_⟩
        (repeat' (first | (with_reducible exact Below.refl _ _) | (with_reducible assumption) | (with_reducible refine Below.alloc ?_ ?_ _) | (with_reducible refine below_drewN ?_ _) | (with_reducible refine Below.drew ?_) | (with_reducible refine Below.setCell ?_ ?_ _) | (with_reducible refine below_via (by assumption) ?_ ?_) | (with_reducible refine below_via (later_below _) ?_ ?_) | (with_reducible exact Nat.le_refl _) | omega | (simp; omega) | (simp; done)))
      · have d2 : decide (11 ≤ which) = false := decide_eq_false h11
        obtain ⟨j, rfl⟩ : ∃ j : Nat, which = j := ⟨which.toNat, by omega⟩
        have hj : j < 11 := by omega
        have E : Env w aA aN aC aL := ⟨waE, by omega, ma, fun i => (okV_arg waO i).1, fun i => (okV_arg waO i).2.1, fun i => (okV_arg waO i).2.2, HT.out⟩
        have hok := begin_ok j hj aL (by omega)
        obtain ⟨NM, hNM⟩ : ∃ m, nmN j = m := ⟨_, rfl⟩
        have HNM := Lib.hid hNM
        clear ma waO hNM
        cases hx : beginA j aL with
        | inl v =>
          rw [hx] at hok
          obtain ⟨h1, h2, h3, h4⟩ := hok
          have hok := True.intro
          have HBg : Hid (∀ W, Below w.heap.size w W → Calls Tryz.prog 11 #[.pointer none, .string NM, .slice aA aN aC] W fun e w' => (∃ g cap : Nat, e = .returned (.agg #[.int .i64 1, .int .i64 0, .int .i64 0, .int .i64 0, .int .i64 0, .string ⟨#[]⟩, .int .i64 0, .slice (some ⟨g, 0, none⟩) 1 cap, .string ⟨#[]⟩, .int .i64 0, .int .i64 0, .slice none 0 0]) ∧ W.heap.size ≤ g ∧ Cells5 w' g v.k v.p v.q v.s v.r) ∧ Below W.heap.size W w') := fun W hW => by
            have h := begin_at (E.later hW) (.pointer none) j hj
            rw [hx, HNM.out] at h
            exact h
          have HCk : Hid (∀ (W : World) (g cap : Nat), Cells5 W g v.k v.p v.q v.s v.r → Calls Tryz.prog 22 #[.agg #[.int .i64 1, .int .i64 0, .int .i64 0, .int .i64 0, .int .i64 0, .string ⟨#[]⟩, .int .i64 0, .slice (some ⟨g, 0, none⟩) 1 cap, .string ⟨#[]⟩, .int .i64 0, .int .i64 0, .slice none 0 0]] W fun e w' => e = .returned (.int .i64 0) ∧ Below W.heap.size W w') := fun W g cap hc => check_act 1 0 (.inl ⟨rfl, rfl⟩) g cap _ _ _ _ _ W hc h1 h4 h2 h3
          clear E hx hok
          go_enter Tryz.func6, Tryz.ntmps6
          go_wp2_with (first | (go_at_call 21; (with_reducible refine (names_nc _).mono ?_); rintro e w1 ⟨⟨g1, rfl, hg1, hn1⟩, hb⟩; have hc1 := HNM.out ▸ hn1 j hj; have hg1l := cell_lt hc1; have hb1 := hb; clear hn1; (refine mem hb ?_; intro N hN hz hc hf; (try simp at hN); subst hN)) | (go_at_call 11; (with_reducible refine (HBg.out _ ?_).mono ?_); (focus ((repeat' (first | (with_reducible exact Below.refl _ _) | (with_reducible assumption) | (with_reducible refine Below.alloc ?_ ?_ _) | (with_reducible refine below_drewN ?_ _) | (with_reducible refine Below.drew ?_) | (with_reducible refine Below.setCell ?_ ?_ _) | (with_reducible refine below_via (by assumption) ?_ ?_) | (with_reducible refine below_via (later_below _) ?_ ?_) | (with_reducible exact Nat.le_refl _) | omega | (simp; omega) | (simp; done))))); rintro e w2 ⟨⟨g2, cap2, rfl, hg2, hcells⟩, hb⟩; have HC5 := Lib.hid hcells; have hg2l := cell_lt hcells.1; clear hcells; have hb2 := hb; (refine mem hb ?_; intro N hN hz hc hf; (try simp at hN); subst hN)) | (go_at_call 22; (with_reducible refine (HCk.out _ g2 cap2 ?_).mono ?_); (focus (exact HC5.out.below ((Below.refl _ _).alloc (Nat.le_refl _) _))); rintro e w3 ⟨rfl, hb⟩; have HC6 := Lib.hid (Cells5.below hb (HC5.out.below ((Below.refl _ _).alloc (Nat.le_refl _) _))); obtain ⟨k0, k1, k2, k3, k4⟩ := HC6.out; have hb3 := hb; (refine mem hb ?_; intro N hN hz hc hf; (try simp at hN); subst hN)) | (go_at_call 7; (with_reducible refine (HW.out _ (HT.out.later ?_)).mono ?_); (focus ((repeat' (first | (with_reducible exact Below.refl _ _) | (with_reducible assumption) | (with_reducible refine Below.alloc ?_ ?_ _) | (with_reducible refine below_drewN ?_ _) | (with_reducible refine Below.drew ?_) | (with_reducible refine Below.setCell ?_ ?_ _) | (with_reducible refine below_via (by assumption) ?_ ?_) | (with_reducible refine below_via (later_below _) ?_ ?_) | (with_reducible exact Nat.le_refl _) | omega | (simp; omega) | (simp; done))))); rintro e w9 ⟨rfl, hb⟩; (refine mem hb ?_; intro N hN hz hc hf; (try simp at hN); subst hN)))
          go_returns
          refine ⟨rfl, ?_⟩
          (repeat' (first | (with_reducible exact Below.refl _ _) | (with_reducible assumption) | (with_reducible refine Below.alloc ?_ ?_ _) | (with_reducible refine below_drewN ?_ _) | (with_reducible refine Below.drew ?_) | (with_reducible refine Below.setCell ?_ ?_ _) | (with_reducible refine below_via (by assumption) ?_ ?_) | (with_reducible refine below_via (later_below _) ?_ ?_) | (with_reducible exact Nat.le_refl _) | omega | (simp; omega) | (simp; done)))
        | inr m =>
          rw [hx] at hok
          have hm : m.size ≤ 4096 := hok
          have hv3 : validV 3 0 0 m 0 = true := by
            unfold validV
            rw [if_neg (by omega), if_neg (by omega), if_neg (by omega), if_pos rfl, decide_eq_true hm]
            rfl
          have HBg : Hid (∀ W, Below w.heap.size w W → Calls Tryz.prog 11 #[.pointer none, .string NM, .slice aA aN aC] W fun e w' => (∃ g cap : Nat, e = .returned (.agg #[.int .i64 2, .int .i64 0, .int .i64 0, .int .i64 0, .int .i64 0, .string ⟨#[]⟩, .int .i64 0, .slice (some ⟨g, 0, none⟩) 1 cap, .string ⟨#[]⟩, .int .i64 1, .int .i64 0, .slice none 0 0]) ∧ W.heap.size ≤ g ∧ Cells5 w' g 3 0 0 m 0) ∧ Below W.heap.size W w') := fun W hW => by
            have h := begin_at (E.later hW) (.pointer none) j hj
            rw [hx, HNM.out] at h
            exact h
          have HCk : Hid (∀ (W : World) (g cap : Nat), Cells5 W g 3 0 0 m 0 → Calls Tryz.prog 22 #[.agg #[.int .i64 2, .int .i64 0, .int .i64 0, .int .i64 0, .int .i64 0, .string ⟨#[]⟩, .int .i64 0, .slice (some ⟨g, 0, none⟩) 1 cap, .string ⟨#[]⟩, .int .i64 1, .int .i64 0, .slice none 0 0]] W fun e w' => e = .returned (.int .i64 0) ∧ Below W.heap.size W w') := fun W g cap hc => check_act 2 1 (.inr ⟨rfl, rfl⟩) g cap _ _ _ _ _ W hc hv3 (by omega) (by omega) (by omega)
          clear E hx hok
          go_enter Tryz.func6, Tryz.ntmps6
          go_wp2_with (first | (go_at_call 21; (with_reducible refine (names_nc _).mono ?_); rintro e w1 ⟨⟨g1, rfl, hg1, hn1⟩, hb⟩; have hc1 := HNM.out ▸ hn1 j hj; have hg1l := cell_lt hc1; have hb1 := hb; clear hn1; (refine mem hb ?_; intro N hN hz hc hf; (try simp at hN); subst hN)) | (go_at_call 11; (with_reducible refine (HBg.out _ ?_).mono ?_); (focus ((repeat' (first | (with_reducible exact Below.refl _ _) | (with_reducible assumption) | (with_reducible refine Below.alloc ?_ ?_ _) | (with_reducible refine below_drewN ?_ _) | (with_reducible refine Below.drew ?_) | (with_reducible refine Below.setCell ?_ ?_ _) | (with_reducible refine below_via (by assumption) ?_ ?_) | (with_reducible refine below_via (later_below _) ?_ ?_) | (with_reducible exact Nat.le_refl _) | omega | (simp; omega) | (simp; done))))); rintro e w2 ⟨⟨g2, cap2, rfl, hg2, hcells⟩, hb⟩; have HC5 := Lib.hid hcells; have hg2l := cell_lt hcells.1; clear hcells; have hb2 := hb; (refine mem hb ?_; intro N hN hz hc hf; (try simp at hN); subst hN)) | (go_at_call 22; (with_reducible refine (HCk.out _ g2 cap2 ?_).mono ?_); (focus (exact HC5.out.below ((Below.refl _ _).alloc (Nat.le_refl _) _))); rintro e w3 ⟨rfl, hb⟩; have HC6 := Lib.hid (Cells5.below hb (HC5.out.below ((Below.refl _ _).alloc (Nat.le_refl _) _))); obtain ⟨k0, k1, k2, k3, k4⟩ := HC6.out; have hb3 := hb; (refine mem hb ?_; intro N hN hz hc hf; (try simp at hN); subst hN)) | (go_at_call 7; (with_reducible refine (HW.out _ (HT.out.later ?_)).mono ?_); (focus ((repeat' (first | (with_reducible exact Below.refl _ _) | (with_reducible assumption) | (with_reducible refine Below.alloc ?_ ?_ _) | (with_reducible refine below_drewN ?_ _) | (with_reducible refine Below.drew ?_) | (with_reducible refine Below.setCell ?_ ?_ _) | (with_reducible refine below_via (by assumption) ?_ ?_) | (with_reducible refine below_via (later_below _) ?_ ?_) | (with_reducible exact Nat.le_refl _) | omega | (simp; omega) | (simp; done))))); rintro e w9 ⟨rfl, hb⟩; (refine mem hb ?_; intro N hN hz hc hf; (try simp at hN); subst hN)))
          go_returns
          refine ⟨rfl, ?_⟩
          (repeat' (first | (with_reducible exact Below.refl _ _) | (with_reducible assumption) | (with_reducible refine Below.alloc ?_ ?_ _) | (with_reducible refine below_drewN ?_ _) | (with_reducible refine Below.drew ?_) | (with_reducible refine Below.setCell ?_ ?_ _) | (with_reducible refine below_via (by assumption) ?_ ?_) | (with_reducible refine below_via (later_below _) ?_ ?_) | (with_reducible exact Nat.le_refl _) | omega | (simp; omega) | (simp; done)))

set_option maxHeartbeats 8000000 in
set_option maxRecDepth 100000 in
theorem lifted (os : Os) (started : os.Started) (H : Type) (enc : TypeId × Value → H) :
    ReturnsInHanded {} Tryz.checked os 6 .any (fun w args => (Rows.numlibActionsSpec.pre enc Tryz.prog Tryz.f6 Rows.numlibActionsRow.domain false w args ∧ laidMetH Tryz.prog laidS w) ∧ sizedMet enc Tryz.prog Tryz.f6 (OpenSpec.ofChange Rows.numlibActionsSpec) false w args) (Rows.numlibActionsSpec.post enc Tryz.prog Tryz.f6 false true false false) := by
  refine returnsInHanded_of_change_and (C := Tryz.checked) (X := fun w _ => laidMetH Tryz.prog laidS w) (fun _ _ _ hh h => h.of_heap hh) own started (by kernel_rfl) Tryz.func6
    (ChangeSpec.witness_shaped (enc := enc) (C := Tryz.checked) (os := os) (X := fun w _ => laidMetH Tryz.prog laidS w) false (World.laidAll Tryz.prog os laidS) #[.int .i64 0, .slice none 0 0] 8 (World.laidAll_os _ _ _) (start_shaped os) (by kernel_rfl) (by kernel_rfl) (by kernel_rfl) (start_met os _)) ?_
  intro W base args ds gs before hval0 hW hcnd _ hL _
  have hT := laid_tabs hL
  have hval : ∀ (j : Nat) t v, Tryz.f6.params[j]? = some t → args[j]? = some v → Value.okWide Tryz.prog W .any base t v := hval0
  have hW' := hW
  obtain ⟨p, q, hA0, hV, rfl, hfz, hnd⟩ := hW
  have hA : DataW.TrodAll enc Tryz.prog W 0 (fun _ => true) true Tryz.f6.params.toList args.toList ds p := hA0
  rw [Tryz.params6] at hA hval
  obtain ⟨v0, vs0, d0, ds0, p0, q0, hargs, rfl, rfl, h0, r0⟩ := trodAll_cons hA
  obtain ⟨v1, vs1, d1, ds1, p1, q1, rfl, rfl, rfl, h1, r1⟩ := trodAll_cons r0
  obtain ⟨rfl, rfl, rfl⟩ := trodAll_nil r1
  obtain rfl : args = #[v0, v1] := by cases args; simp_all
  obtain ⟨rfl, rfl⟩ := trodVars_none hV
  have k0 := h0
  have lt0 : ∀ x ∈ p0, x.block < W.heap.size := by obtain ⟨m, hm⟩ := k0; exact DataW.trod_lt m _ _ _ hm
  obtain ⟨which, rfl, -, -, wwhich⟩ := open_int Tryz.underlying3 (hval 0 3 v0 rfl rfl) h0
  have k1 := h1
  have lt1 : ∀ x ∈ p1, x.block < W.heap.size := by obtain ⟨m, hm⟩ := k1; exact DataW.trod_lt m _ _ _ hm
  obtain ⟨aA, aN, aC, aL, rfl, waN, waE, waO, ma⟩ := open_vals (hval 1 22 v1 rfl rfl) h1
  clear hA0 hval0
  refine (walk which wwhich aA aN aC aL waN waE waO W hT ma).mono fun e W' ⟨he, bel⟩ => ?_
  subst he
  exact ⟨_, rfl, _, _, _, [], _, [], hW', trodAll_mk1 (shut_bool Tryz.underlying4 _), (trodAll_cons_mk (Below.trod laidOut (by kernel_rfl) (of_decide_eq_true (by kernel_rfl)) k0 bel lt0) (trodAll_cons_mk (Below.trod laidOut (by kernel_rfl) (of_decide_eq_true (by kernel_rfl)) k1 bel lt1) trodAll_mk0)), rfl, bel.frame _, fun h => by cases h⟩

theorem over : Rows.numlibActionsRow.holds Tryz.pinned (OpenSpec.ofChange Rows.numlibActionsSpec) :=
  OpenClaim.holds_of_wide 6 Tryz.f6 rfl rfl rfl rfl rfl rfl rfl ⟨rfl, rfl, rfl, rfl, rfl⟩ rfl rfl rfl rfl rfl (by kernel_rfl) Tryz.func6 (by kernel_rfl)
    (of_decide_eq_true (by kernel_rfl)) (by unfold Func.isWrapper; first | (rw [if_pos (by decide +kernel)]; kernel_rfl) | (rw [if_neg (by decide +kernel)]; exact ⟨rfl, rfl⟩))
    (fun os started H enc _ => lifted os started H enc)

/-- The given statement: the row, tied. -/
theorem proved : Rows.NumlibActionsCardSaid :=
  Claim7.holds_tied_plain_at .later [] [.data, .data, .data, .data, .pinned] true _ false over (fun _ h => by cases h) (by kernel_rfl) (fun _ h => by cases h) numlibActions_row_tie rfl ⟨rfl, rfl⟩ (by kernel_rfl) rfl
    (fun f fn hf hfn => by
      obtain rfl : f = 6 := Option.some.inj ((show Tryz.prog.funcNamed Rows.numlibActionsRow.func = some 6 by kernel_rfl).symm.trans hf) |>.symm
      obtain rfl : fn = Tryz.f6 := (Option.some.inj (Tryz.func6.symm.trans hfn)).symm
      exact ⟨by kernel_rfl, fun j t ht => by
        rw [Tryz.params6] at ht
        have hm : t ∈ [3, 22] := by simpa using Array.mem_of_getElem? ht
        have hall : ([3, 22].all fun u => !Tryz.prog.wantsStandIn u) = true := by kernel_rfl
        exact (show Tryz.prog.wantsStandIn t = false by simpa using List.all_eq_true.1 hall t hm)⟩)
    (by kernel_rfl)
#print axioms proved
end Go.Proofs.YtnpnbpilhfgnfaaGreatDoor.numlibActions
