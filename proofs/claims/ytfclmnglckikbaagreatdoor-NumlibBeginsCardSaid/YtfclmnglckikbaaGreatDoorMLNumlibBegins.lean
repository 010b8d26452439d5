/- The law NumlibBegins holds: for every input it returns true, and each argument reads as it did, where the library's tables read as its text lays them. No other conditions. -/
import Derived.Test.YtfclmnglckikbaaGreatDoorMNlRZ
import Derived.Test.YtfclmnglckikbaaGreatDoorMNlRX
import Derived.Test.YtfclmnglckikbaaGreatDoorMNlAw
import Derived.Test.YtfclmnglckikbaaGreatDoorMNlVals
import Derived.Test.YtfclmnglckikbaaGreatDoorMValLaw
import Derived.Test.YtfclmnglckikbaaGreatDoorMLaid
import Derived.Test.YtfclmnglckikbaaGreatDoorCards
import Derived.Test.YtfclmnglckikbaaGreatDoorTie
namespace Go.Proofs.YtfclmnglckikbaaGreatDoor.numlibBegins
open Go.ChangeShapes Go.WideShapes Go.ChangeAt Go.RowKit Go.Joins
open Go.ChangeMaps (open_string shut_string)
set_option linter.unusedVariables false

set_option maxHeartbeats 4000000 in
set_option maxRecDepth 100000 in
theorem walk (which : Int) (wwhich : (Lit.int .i64 which).wf = true) (aA : Option Addr) (aN aC : Nat) (aL : List VV) (waN : aN ≤ 9223372036854775807) (waE : aL.length = aN) (waO : ∀ v ∈ aL, okV v) (w : World) (hT : Tabs w) (ma : ∀ i : Nat, ArgIs w aA aN i (argV aL i).k (argV aL i).p (argV aL i).q (argV aL i).s (argV aL i).r) :
    Calls Tryz.prog 4 #[.int .i64 which, .slice aA aN aC] w fun e w' => e = .returned (.bool true) ∧ Below w.heap.size w w' := by
  have HT := Lib.hid hT
  clear hT
  have HW : Hid (∀ w', Tabs w' → Calls Tryz.prog 9 #[] w' fun e w'' => e = .returned (.bool true) ∧ Below w'.heap.size w' w'') := fun w' hT' => awake_any w' hT'
  by_cases hl : 300 < aN
  · go_enter Tryz.func4, Tryz.ntmps4
    go_wp2_with (first | (go_at_call 9; (with_reducible refine (HW.out _ (HT.out.later ?_)).mono ?_); (focus ((repeat' (first | (with_reducible exact Below.refl _ _) | (with_reducible assumption) | (with_reducible refine Below.alloc ?_ ?_ _) | (with_reducible refine below_drewN ?_ _) | (with_reducible refine Below.drew ?_) | (with_reducible refine Below.setCell ?_ ?_ _) | (with_reducible refine below_via (by assumption) ?_ ?_) | (with_reducible refine below_via (later_below _) ?_ ?_) | (with_reducible exact Nat.le_refl _) | omega | (simp; omega) | (simp; done))))); rintro e w9 ⟨rfl, hb⟩; (refine mem hb ?_; intro N hN hz hc hf; (try simp at hN); subst hN)))
    go_returns
    refine ⟨rfl, ?_⟩
    (repeat' (first | (with_reducible exact Below.refl _ _) | (with_reducible assumption) | (with_reducible refine Below.alloc ?_ ?_ _) | (with_reducible refine below_drewN ?_ _) | (with_reducible refine Below.drew ?_) | (with_reducible refine Below.setCell ?_ ?_ _) | (with_reducible refine below_via (by assumption) ?_ ?_) | (with_reducible refine below_via (later_below _) ?_ ?_) | (with_reducible exact Nat.le_refl _) | omega | (simp; omega) | (simp; done)))
  · have hl2 : aN ≤ 300 := by omega
    clear hl
    have HM := Lib.hid ma
    clear ma
    have HO := Lib.hid waO
    clear waO
    go_enter Tryz.func4, Tryz.ntmps4
    go_wp2_with fail -- loop
    go_loopw [5] (fun i wr => ∃ k : Nat, k ≤ aN ∧ i = .int .i64 k ∧ Hid (∀ j, j < k → (argV aL j).s.size ≤ 4200) ∧ Hid (Below w.heap.size w wr)) (fun i _ => aN - (intOf i).toNat)
    case atStart => exact ⟨0, Nat.zero_le _, rfl, (fun j hj => by omega), Below.refl _ _⟩
    case round =>
      obtain ⟨k, hk, rfl, HS, HB⟩ := hrel
      have hs := HB.out.size
      by_cases hlt : k < aN
      · rcases HM.out k with ⟨h, -⟩ | ⟨b, o, j, rfl, hjk, hjn, hc⟩
        · exfalso; omega
        · obtain rfl : k = j := by omega
          obtain ⟨h0, h1, h2, h3, h4⟩ := CellsAt.below HB.out hc
          have hbl := cell_lt h0
          obtain ⟨p1, p2, p3⟩ := okV_arg HO.out k
          have hfew := @valid_few (argV aL k).k (argV aL k).p (argV aL k).q (argV aL k).s (argV aL k).r
          obtain ⟨v, hv⟩ : ∃ v, argV aL k = v := ⟨_, rfl⟩
          have HVE := Lib.hid hv
          rw [hv] at h0 h1 h2 h3 h4 p1 p2 p3 hfew
          obtain ⟨K, P, Q, S, R⟩ := v
          dsimp only at h0 h1 h2 h3 h4 p1 p2 p3 hfew
          have HV : Hid (∀ w', Calls Tryz.prog 13 #[vV K P Q S R] w' fun e w'' => e = .returned (.bool (validV K P Q S R)) ∧ Below w'.heap.size w' w'') := fun w' => rvv_v K P Q S R w' p3 p1 p2
          clear hc hv p1 p2
          cases hx : validV K P Q S R
          · rw [hx] at HV
            clear hx hfew
            go_wp2_with (first | (go_at_call 13; (with_reducible refine (HV.out _).mono ?_); rintro e w8 ⟨rfl, hb⟩; (refine mem hb ?_; intro N hN hz hc hf; (try simp at hN); subst hN)) | (go_at_call 9; (with_reducible refine (HW.out _ (HT.out.later ?_)).mono ?_); (focus (have hbel := HB.out; (repeat' (first | (with_reducible exact Below.refl _ _) | (with_reducible assumption) | (with_reducible refine Below.alloc ?_ ?_ _) | (with_reducible refine below_drewN ?_ _) | (with_reducible refine Below.drew ?_) | (with_reducible refine Below.setCell ?_ ?_ _) | (with_reducible refine below_via (by assumption) ?_ ?_) | (with_reducible refine below_via (later_below _) ?_ ?_) | (with_reducible exact Nat.le_refl _) | omega | (simp; omega) | (simp; done))))); rintro e w9 ⟨rfl, hb⟩)) -- bad
            go_returns
            refine ⟨rfl, ?_⟩
            have hbel := HB.out
            have hs2 : w.heap.size ≤ w8.heap.size := by omega
            (repeat' (first | (with_reducible exact Below.refl _ _) | (with_reducible assumption) | (with_reducible refine Below.alloc ?_ ?_ _) | (with_reducible refine below_drewN ?_ _) | (with_reducible refine Below.drew ?_) | (with_reducible refine Below.setCell ?_ ?_ _) | (with_reducible refine below_via (by assumption) ?_ ?_) | (with_reducible refine below_via (later_below _) ?_ ?_) | (with_reducible exact Nat.le_refl _) | omega | (simp; omega) | (simp; done)))
          · rw [hx] at HV
            have HF := Lib.hid (hfew hx)
            clear hx hfew
            go_wp2_with (first | (go_at_call 13; (with_reducible refine (HV.out _).mono ?_); rintro e w8 ⟨rfl, hb⟩; (refine mem hb ?_; intro N hN hz hc hf; (try simp at hN); subst hN))) -- good
            refine ⟨⟨k + 1, hlt, by go_num, ?_, ?_⟩, by simp [intOf]; omega⟩
            · intro j hj
              by_cases hjk2 : j = k
              · subst hjk2
                rw [HVE.out]
                exact HF.out
              · exact HS.out j (by omega)
            · have hbel := HB.out
              show Below _ _ _
              (repeat' (first | (with_reducible exact Below.refl _ _) | (with_reducible assumption) | (with_reducible refine Below.alloc ?_ ?_ _) | (with_reducible refine below_drewN ?_ _) | (with_reducible refine Below.drew ?_) | (with_reducible refine Below.setCell ?_ ?_ _) | (with_reducible refine below_via (by assumption) ?_ ?_) | (with_reducible refine below_via (later_below _) ?_ ?_) | (with_reducible exact Nat.le_refl _) | omega | (simp; omega) | (simp; done)))
      · obtain rfl : aN = k := by omega
        have HSA : Hid (∀ i, (argV aL i).s.size ≤ 4200) := fun i => by
          by_cases hi : i < aN
          · exact HS.out i hi
          · rw [argV_ge (by omega)]; decide
        have HE : Hid (∀ w', Below wr.heap.size wr w' → Env w' aA aN aC aL) := fun w' hb => (show Env w aA aN aC aL from ⟨waE, by omega, HM.out, fun i => (okV_arg HO.out i).1, fun i => (okV_arg HO.out i).2.1, fun i => (okV_arg HO.out i).2.2, HT.out⟩).later (HB.out.trans (hb.mono hs))
        have key : ∀ j, j < 11 → ∃ (kind level : Nat) (k p q : Int) (s : ByteArray) (r : Int),
            (∀ hp w', Below wr.heap.size wr w' → Calls Tryz.prog 15 #[hp, .string (nmN j), .slice aA aN aC] w' fun e w'' => ActIs w'.heap.size kind level k p q s r e w'' ∧ Below w'.heap.size w' w'') ∧
            (∀ w', Below wr.heap.size wr w' → Calls Tryz.prog 17 #[.pointer none, .string (nmN j), .slice aA aN aC] w' fun e w'' => ActIs w'.heap.size kind level k p q s r e w'' ∧ Below w'.heap.size w' w'') := by
          intro j hj
          have h1 := fun hp w' hb => begin_at (HE.out w' hb) hp j hj
          have h2 := fun w' hb => rbegin_at (HE.out w' hb) HSA.out j hj
          generalize beginA j aL = X at h1 h2
          cases X with
          | inl v => exact ⟨1, 0, v.k, v.p, v.q, v.s, v.r, h1, h2⟩
          | inr m => exact ⟨2, 1, 3, 0, 0, m, 0, h1, h2⟩
        have KEY := Lib.hid key
        clear key
        go_wp2_with fail -- Names
        refine (rnm_all _).mono ?_
        rintro e x1 ⟨⟨g1, rfl, hg1, hn1⟩, hb⟩
        have HN1 := Lib.hid hn1
        have HA : Hid (Below wr.heap.size wr x1) := hb
        have hsA := hb.size
        clear hb hn1
        obtain ⟨j, hj, hcase⟩ : ∃ j : Nat, j < 11 ∧ ((0 ≤ which ∧ which < 11 ∧ which = j) ∨ (which < 0 ∧ j = 0) ∨ (0 ≤ which ∧ 11 ≤ which ∧ j = 0)) := by
          by_cases h0 : 0 ≤ which ∧ which < 11
          · exact ⟨which.toNat, by omega, .inl ⟨h0.1, h0.2, by omega⟩⟩
          · exact ⟨0, by omega, by omega⟩
        obtain ⟨kind, level, k, p, q, s, r, hB1, hB2⟩ := KEY.out j hj
        have HC1 := HN1.out j hj
        have hsz := nmN_few j hj
        obtain ⟨NM, hNM⟩ : ∃ NM, nmN j = NM := ⟨_, rfl⟩
        rw [hNM] at hB1 hB2 HC1 hsz
        have HP := Lib.hid hB1
        have HR := Lib.hid hB2
        have hg1b := cell_lt HC1
        clear hB1 hB2
        rcases hcase with ⟨c1, c2, rfl⟩ | ⟨c1, rfl⟩ | ⟨c1, c2, rfl⟩
        case' inr.inl =>
          obtain rfl : NM = ⟨#[110, 117, 109, 98, 101, 114, 46, 97, 98, 115]⟩ := hNM.symm.trans rfl
          have d1 : decide (0 ≤ which) = false := by simp; omega
        case' inr.inr =>
          obtain rfl : NM = ⟨#[110, 117, 109, 98, 101, 114, 46, 97, 98, 115]⟩ := hNM.symm.trans rfl
          have d1 : decide (0 ≤ which) = true := by simpa using c1
          have d2 : decide (which < 11) = false := by simp; omega
        case' inl =>
          clear hNM
        all_goals
          go_wp2_with fail -- New
          refine (heap_new _).mono ?_
          rintro e x2 ⟨⟨gh, rfl⟩, hb⟩
          have HA : Hid (Below wr.heap.size wr x2) := HA.out.trans (hb.mono hsA)
          have hsB := hb.size
          clear hb
          go_wp2_with fail -- Begin
          refine (HP.out _ _ HA.out).mono ?_
          rintro e x3 ⟨⟨ga, ca, rfl, hga, ka⟩, hb⟩
          have KA := Lib.hid ka
          have HA : Hid (Below wr.heap.size wr x3) := HA.out.trans (hb.mono (by omega))
          have hsC := hb.size
          clear hb ka
          go_wp2_with fail -- rBegin
          refine (HR.out _ HA.out).mono ?_
          rintro e x4 ⟨⟨gb, cb, rfl, hgb, kb⟩, hb⟩
          have KA := Lib.hid (KA.out.below hb)
          have KB := Lib.hid kb
          have HA : Hid (Below wr.heap.size wr x4) := HA.out.trans (hb.mono (by omega))
          have hsD := hb.size
          clear hb kb
          go_wp2_with fail -- Same
          refine (rsame_act kind level ga ca gb cb k p q s r _ KA.out KB.out).mono ?_
          rintro e x5 ⟨rfl, hb⟩
          have HA : Hid (Below wr.heap.size wr x5) := HA.out.trans (hb.mono (by omega))
          have hsE := hb.size
          clear hb
          go_wp2_with fail -- awake
          refine (HW.out _ (HT.out.later (HB.out.trans (HA.out.mono hs)))).mono ?_
          rintro e x6 ⟨rfl, hb⟩
          have hbz : Below w.heap.size w x6 := (HB.out.trans (HA.out.mono hs)).trans (hb.mono (by have := HA.out.size; omega))
          clear hb
          go_wp2_with fail -- end
          go_returns
          exact ⟨rfl, hbz⟩

set_option maxHeartbeats 8000000 in
set_option maxRecDepth 100000 in
theorem lifted (os : Os) (started : os.Started) (H : Type) (enc : TypeId × Value → H) :
    ReturnsInHanded {} Tryz.checked os 4 .any (fun w args => (Rows.numlibBeginsSpec.pre enc Tryz.prog Tryz.f4 Rows.numlibBeginsRow.domain false w args ∧ laidMetH Tryz.prog laidS w) ∧ sizedMet enc Tryz.prog Tryz.f4 (OpenSpec.ofChange Rows.numlibBeginsSpec) false w args) (Rows.numlibBeginsSpec.post enc Tryz.prog Tryz.f4 false true false false) := by
  refine returnsInHanded_of_change_and (C := Tryz.checked) (X := fun w _ => laidMetH Tryz.prog laidS w) (fun _ _ _ hh h => h.of_heap hh) own started (by kernel_rfl) Tryz.func4
    (ChangeSpec.witness_shaped (enc := enc) (C := Tryz.checked) (os := os) (X := fun w _ => laidMetH Tryz.prog laidS w) false (World.laidAll Tryz.prog os laidS) #[.int .i64 0, .slice none 0 0] 8 (World.laidAll_os _ _ _) (start_shaped os) (by kernel_rfl) (by kernel_rfl) (by kernel_rfl) (start_met os _)) ?_
  intro W base args ds gs before hval0 hW hcnd _ hL _
  have hT := laid_tabs hL
  have hval : ∀ (j : Nat) t v, Tryz.f4.params[j]? = some t → args[j]? = some v → Value.okWide Tryz.prog W .any base t v := hval0
  have hW' := hW
  obtain ⟨p, q, hA0, hV, rfl, hfz, hnd⟩ := hW
  have hA : DataW.TrodAll enc Tryz.prog W 0 (fun _ => true) true Tryz.f4.params.toList args.toList ds p := hA0
  rw [Tryz.params4] at hA hval
  obtain ⟨v0, vs0, d0, ds0, p0, q0, hargs, rfl, rfl, h0, r0⟩ := trodAll_cons hA
  obtain ⟨v1, vs1, d1, ds1, p1, q1, rfl, rfl, rfl, h1, r1⟩ := trodAll_cons r0
  obtain ⟨rfl, rfl, rfl⟩ := trodAll_nil r1
  obtain rfl : args = #[v0, v1] := by cases args; simp_all
  obtain ⟨rfl, rfl⟩ := trodVars_none hV
  have k0 := h0
  have lt0 : ∀ x ∈ p0, x.block < W.heap.size := by obtain ⟨m, hm⟩ := k0; exact DataW.trod_lt m _ _ _ hm
  obtain ⟨which, rfl, -, -, wwhich⟩ := open_int Tryz.underlying3 (hval 0 3 v0 rfl rfl) h0
  have k1 := h1
  have lt1 : ∀ x ∈ p1, x.block < W.heap.size := by obtain ⟨m, hm⟩ := k1; exact DataW.trod_lt m _ _ _ hm
  obtain ⟨aA, aN, aC, aL, rfl, waN, waE, waO, ma⟩ := open_vals (hval 1 22 v1 rfl rfl) h1
  clear hA0 hval0
  refine (walk which wwhich aA aN aC aL waN waE waO W hT ma).mono fun e W' ⟨he, bel⟩ => ?_
  subst he
  exact ⟨_, rfl, _, _, _, [], _, [], hW', trodAll_mk1 (shut_bool Tryz.underlying4 _), (trodAll_cons_mk (Below.trod laidOut (by kernel_rfl) (of_decide_eq_true (by kernel_rfl)) k0 bel lt0) (trodAll_cons_mk (Below.trod laidOut (by kernel_rfl) (of_decide_eq_true (by kernel_rfl)) k1 bel lt1) trodAll_mk0)), rfl, bel.frame _, fun h => by cases h⟩

theorem over : Rows.numlibBeginsRow.holds Tryz.pinned (OpenSpec.ofChange Rows.numlibBeginsSpec) :=
  OpenClaim.holds_of_wide 4 Tryz.f4 rfl rfl rfl rfl rfl rfl rfl ⟨rfl, rfl, rfl, rfl, rfl⟩ rfl rfl rfl rfl rfl (by kernel_rfl) Tryz.func4 (by kernel_rfl)
    (of_decide_eq_true (by kernel_rfl)) (by unfold Func.isWrapper; first | (rw [if_pos (by decide +kernel)]; kernel_rfl) | (rw [if_neg (by decide +kernel)]; exact ⟨rfl, rfl⟩))
    (fun os started H enc _ => lifted os started H enc)

/-- The given statement: the row, tied. -/
theorem proved : Rows.NumlibBeginsCardSaid :=
  Claim7.holds_tied_plain_at .later [] [.data, .data, .data, .data, .pinned] true _ false over (fun _ h => by cases h) (by kernel_rfl) (fun _ h => by cases h) numlibBegins_row_tie rfl ⟨rfl, rfl⟩ (by kernel_rfl) rfl
    (fun f fn hf hfn => by
      obtain rfl : f = 4 := Option.some.inj ((show Tryz.prog.funcNamed Rows.numlibBeginsRow.func = some 4 by kernel_rfl).symm.trans hf) |>.symm
      obtain rfl : fn = Tryz.f4 := (Option.some.inj (Tryz.func4.symm.trans hfn)).symm
      exact ⟨by kernel_rfl, fun j t ht => by
        rw [Tryz.params4] at ht
        have hm : t ∈ [3, 22] := by simpa using Array.mem_of_getElem? ht
        have hall : ([3, 22].all fun u => !Tryz.prog.wantsStandIn u) = true := by kernel_rfl
        exact (show Tryz.prog.wantsStandIn t = false by simpa using List.all_eq_true.1 hall t hm)⟩)
    (by kernel_rfl)
#print axioms proved
end Go.Proofs.YtfclmnglckikbaaGreatDoor.numlibBegins
