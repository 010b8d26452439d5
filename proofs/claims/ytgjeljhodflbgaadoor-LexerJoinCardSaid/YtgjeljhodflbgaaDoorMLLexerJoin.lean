/- The law LexerJoin holds: for every input it returns true, and each argument reads as it did, where the library's tables read as its text lays them. No other conditions. -/
import Derived.Test.YtgjeljhodflbgaaDoorMLxE
import Derived.Test.YtgjeljhodflbgaaDoorMLxTk
import Derived.Test.YtgjeljhodflbgaaDoorMLaid
import Derived.Test.YtgjeljhodflbgaaDoorCards
import Derived.Test.YtgjeljhodflbgaaDoorTie
namespace Go.Proofs.YtgjeljhodflbgaaDoor.lexerJoin
open Go.ChangeShapes Go.WideShapes Go.ChangeAt Go.RowKit Go.Joins
open Go.ChangeMaps (open_string shut_string)
set_option linter.unusedVariables false

set_option maxHeartbeats 8000000 in
set_option maxRecDepth 100000 in
theorem walk (lA : Option Addr) (lN lC : Nat) (lL : List TZ) (wlN : lN ≤ 9223372036854775807) (wlE : lL.length = lN) (wlO : ∀ v ∈ lL, v.x.length ≤ 9223372036854775807) (w : World) (hT : Tabs w) (ml : ZsAt w lA lL) :
    Calls Tryd.prog 6 #[.slice lA lN lC] w fun e w' => e = .returned (.bool true) ∧ Below w.heap.size w w' := by
  have HT := Lib.hid hT
  clear hT
  have HW : Hid (∀ w', Tabs w' → Calls Tryd.prog 11 #[] w' fun e w'' => e = .returned (.bool true) ∧ Below w'.heap.size w' w'') := fun w' h => lives_any w' h
  subst wlE
  have HZ := Lib.hid ml
  clear ml wlO
  by_cases hl : 100 < lL.length
  · have h1 : decide (100 < (lL.length : Int)) = true := by simp; omega
    go_enter Tryd.func6, Tryd.ntmps6
    go_wp2_with fail
    refine (HW.out _ (HT.out.later (Below.refl _ _))).mono ?_
    rintro e w9 ⟨rfl, hb9⟩
    go_wp2_with fail
    go_returns
    exact ⟨rfl, hb9⟩
  · have h1 : decide (100 < (lL.length : Int)) = false := by simp; omega
    go_enter Tryd.func6, Tryd.ntmps6
    go_wp2_with fail
    go_loop [3] (fun i => ∃ k : Nat, k ≤ lL.length ∧ i = .int .i64 k ∧ Hid (∀ t ∈ lL.take k, t.x.length ≤ 300)) (fun i => lL.length - (intOf i).toNat)
    case atStart => exact ⟨0, Nat.zero_le _, rfl, fun t ht => by cases ht⟩
    case round =>
      obtain ⟨k, hk, rfl, HA⟩ := hrel
      by_cases hlt : k < lL.length
      · obtain ⟨b, o, rfl, hcs⟩ := HZ.out.resolve_left (by omega)
        have htk := hcs k hlt
        have hnx := take_next lL k hlt
        obtain ⟨t, ht⟩ : ∃ t, lL[k] = t := ⟨_, rfl⟩
        rw [ht] at htk hnx
        clear ht hcs
        obtain ⟨q0, q1, q2, q3⟩ := htk
        have hxs : (mkS t.x).size = t.x.length := mkS_size t.x
        by_cases hx : 300 < t.x.length
        · have bx : decide (300 < (t.x.length : Int)) = true := by simp; omega
          clear hnx hx
          go_wp2_with fail
          refine (HW.out _ (HT.out.later (Below.refl _ _))).mono ?_
          rintro e w9 ⟨rfl, hb9⟩
          go_wp2_with fail
          go_returns
          exact ⟨rfl, hb9⟩
        · have bx : decide (300 < (t.x.length : Int)) = false := by simp; omega
          have HA2 : Hid (∀ u ∈ lL.take (k + 1), u.x.length ≤ 300) := by
            show ∀ _ ∈ _, _
            rw [hnx]
            intro u hu
            rcases List.mem_append.1 hu with hu | hu
            · exact HA.out u hu
            · simp at hu; rw [hu]; omega
          clear hnx hx
          go_wp2_with fail
          refine ⟨⟨k + 1, by omega, by go_num, HA2.out⟩, by simp [intOf]; omega⟩
      · obtain rfl : k = lL.length := by omega
        have hall := HA.out
        rw [List.take_length] at hall
        have HJ : Hid (∀ w', ZsAt w' lA lL → Calls Tryd.prog 21 #[.slice lA lL.length lC] w' fun e w'' => e = .returned (.string (mkS (joinL (lL.map TZ.pair)))) ∧ Below w'.heap.size w' w'') := fun w' h => join_any lL lA lC w' (by omega) (fun t ht => by have := hall t ht; omega) h
        have HR : Hid (∀ w', ZsAt w' lA lL → Calls Tryd.prog 22 #[.slice lA lL.length lC] w' fun e w'' => e = .returned (.string (mkS (joinL (lL.map TZ.pair)))) ∧ Below w'.heap.size w' w'') := fun w' h => rjoin_any lL lA lC w' (by omega) (fun t ht => by have := hall t ht; omega) h
        obtain ⟨Q, hQ⟩ : ∃ Q, mkS (joinL (lL.map TZ.pair)) = Q := ⟨_, rfl⟩
        rw [hQ] at HJ HR
        clear hQ hall
        go_wp2_with fail
        refine (HJ.out _ HZ.out).mono ?_
        rintro e w1 ⟨rfl, hb1⟩
        have B1 := Lib.hid hb1
        clear hb1
        go_wp2_with fail
        refine (HR.out _ (HZ.out.later B1.out)).mono ?_
        rintro e w2 ⟨rfl, hb2⟩
        have B2 := Lib.hid (B1.out.trans (hb2.mono B1.out.size))
        clear hb2
        go_wp2_with fail -- last
        refine (HW.out _ (HT.out.later B2.out)).mono ?_
        rintro e w9 ⟨rfl, hb9⟩
        go_wp2_with fail
        go_returns
        exact ⟨rfl, (B2.out).trans (hb9.mono (B2.out).size)⟩

set_option maxRecDepth 100000 in
theorem lifted (os : Os) (started : os.Started) (H : Type) (enc : TypeId × Value → H) :
    ReturnsInHanded {} Tryd.checked os 6 .any (fun w args => (Rows.lexerJoinSpec.pre enc Tryd.prog Tryd.f6 Rows.lexerJoinRow.domain false w args ∧ laidMetH Tryd.prog laidS w) ∧ sizedMet enc Tryd.prog Tryd.f6 (OpenSpec.ofChange Rows.lexerJoinSpec) false w args) (Rows.lexerJoinSpec.post enc Tryd.prog Tryd.f6 false true false false) := by
  refine returnsInHanded_of_change_and (C := Tryd.checked) (X := fun w _ => laidMetH Tryd.prog laidS w) (fun _ _ _ hh h => h.of_heap hh) own started (by kernel_rfl) Tryd.func6
    (ChangeSpec.witness_shaped (enc := enc) (C := Tryd.checked) (os := os) (X := fun w _ => laidMetH Tryd.prog laidS w) false (World.laidAll Tryd.prog os laidS) #[.slice none 0 0] 8 (World.laidAll_os _ _ _) (start_shaped os) (by kernel_rfl) (by kernel_rfl) (by kernel_rfl) (start_met os _)) ?_
  intro W base args ds gs before hval0 hW hcnd _ hL _
  have hT := laid_tabs hL
  have hval : ∀ (j : Nat) t v, Tryd.f6.params[j]? = some t → args[j]? = some v → Value.okWide Tryd.prog W .any base t v := hval0
  have hW' := hW
  obtain ⟨p, q, hA0, hV, rfl, hfz, hnd⟩ := hW
  have hA : DataW.TrodAll enc Tryd.prog W 0 (fun _ => true) true Tryd.f6.params.toList args.toList ds p := hA0
  rw [Tryd.params6] at hA hval
  obtain ⟨v0, vs0, d0, ds0, p0, q0, hargs, rfl, rfl, h0, r0⟩ := trodAll_cons hA
  obtain ⟨rfl, rfl, rfl⟩ := trodAll_nil r0
  obtain rfl : args = #[v0] := by cases args; simp_all
  obtain ⟨rfl, rfl⟩ := trodVars_none hV
  have k0 := h0
  have lt0 : ∀ x ∈ p0, x.block < W.heap.size := by obtain ⟨m, hm⟩ := k0; exact DataW.trod_lt m _ _ _ hm
  obtain ⟨lA, lN, lC, lL, rfl, wlN, wlE, wlO, ml⟩ := open_toks (hval 0 23 v0 rfl rfl) h0
  clear hA0 hval0
  refine (walk lA lN lC lL wlN wlE wlO W hT ml).mono fun e W' ⟨he, bel⟩ => ?_
  subst he
  exact ⟨_, rfl, _, _, _, [], _, [], hW', trodAll_mk1 (shut_bool Tryd.underlying4 _), (trodAll_cons_mk (Below.trod laidOut (by kernel_rfl) (of_decide_eq_true (by kernel_rfl)) k0 bel lt0) trodAll_mk0), rfl, bel.frame _, fun h => by cases h⟩

theorem over : Rows.lexerJoinRow.holds Tryd.pinned (OpenSpec.ofChange Rows.lexerJoinSpec) :=
  OpenClaim.holds_of_wide 6 Tryd.f6 rfl rfl rfl rfl rfl rfl rfl ⟨rfl, rfl, rfl, rfl, rfl⟩ rfl rfl rfl rfl rfl (by kernel_rfl) Tryd.func6 (by kernel_rfl)
    (of_decide_eq_true (by kernel_rfl)) (by unfold Func.isWrapper; first | (rw [if_pos (by decide +kernel)]; kernel_rfl) | (rw [if_neg (by decide +kernel)]; exact ⟨rfl, rfl⟩))
    (fun os started H enc _ => lifted os started H enc)

/-- The given statement: the row, tied. -/
theorem proved : Rows.LexerJoinCardSaid :=
  Claim7.holds_tied_plain_at .later [] [.listed, .data] true _ false over (fun _ h => by cases h) (by kernel_rfl) (fun _ h => by cases h) lexerJoin_row_tie rfl ⟨rfl, rfl⟩ (by kernel_rfl) rfl
    (fun f fn hf hfn => by
      obtain rfl : f = 6 := Option.some.inj ((show Tryd.prog.funcNamed Rows.lexerJoinRow.func = some 6 by kernel_rfl).symm.trans hf) |>.symm
      obtain rfl : fn = Tryd.f6 := (Option.some.inj (Tryd.func6.symm.trans hfn)).symm
      exact ⟨by kernel_rfl, fun j t ht => by
        rw [Tryd.params6] at ht
        have hm : t ∈ [23] := by simpa using Array.mem_of_getElem? ht
        have hall : ([23].all fun u => !Tryd.prog.wantsStandIn u) = true := by kernel_rfl
        exact (show Tryd.prog.wantsStandIn t = false by simpa using List.all_eq_true.1 hall t hm)⟩)
    (by kernel_rfl)
#print axioms proved
end Go.Proofs.YtgjeljhodflbgaaDoor.lexerJoin
