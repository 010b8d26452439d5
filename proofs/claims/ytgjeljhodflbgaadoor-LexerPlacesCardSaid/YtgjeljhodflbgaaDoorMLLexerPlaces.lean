/- The law LexerPlaces holds: for every input it returns true, and each argument reads as it did, where the library's tables read as its text lays them. No other conditions. -/
import Derived.Test.YtgjeljhodflbgaaDoorMLxE
import Derived.Test.YtgjeljhodflbgaaDoorMLaid
import Derived.Test.YtgjeljhodflbgaaDoorCards
import Derived.Test.YtgjeljhodflbgaaDoorTie
namespace Go.Proofs.YtgjeljhodflbgaaDoor.lexerPlaces
open Go.ChangeShapes Go.WideShapes Go.ChangeAt Go.RowKit Go.Joins
open Go.ChangeMaps (open_string shut_string)
set_option linter.unusedVariables false

set_option maxHeartbeats 8000000 in
set_option maxRecDepth 100000 in
theorem walk (s : ByteArray) (ws : s.size ≤ maxLen) (w : World) (hT : Tabs w) :
    Calls Tryd.prog 8 #[.string s] w fun e w' => e = .returned (.bool true) ∧ Below w.heap.size w w' := by
  unfold maxLen at ws
  have HT := Lib.hid hT
  clear hT
  have HW : Hid (∀ w', Tabs w' → Calls Tryd.prog 11 #[] w' fun e w'' => e = .returned (.bool true) ∧ Below w'.heap.size w' w'') := fun w' h => lives_any w' h
  by_cases hl : 3000 < s.size
  · have h1 : decide (3000 < (s.size : Int)) = true := by simp; omega
    go_enter Tryd.func8, Tryd.ntmps8
    go_wp2_with fail
    refine (HW.out _ (HT.out.later (Below.refl _ _))).mono ?_
    rintro e w9 ⟨rfl, hb9⟩
    go_wp2_with fail
    go_returns
    exact ⟨rfl, hb9⟩
  · have h1 : decide (3000 < (s.size : Int)) = false := by simp; omega
    have hsc := scan_prog s w (by omega) HT.out
    have hne1 := scanA_ne1 s.data.toList.length s.data.toList 0 1 (Nat.le_refl _)
    have hpl := scan_places s.data.toList.length [] s.data.toList (Nat.le_refl _)
    rw [List.nil_append] at hpl
    have hfm := scanA_form s.data.toList 0 1
    have hlen := (scan_reads s.data.toList.length s.data.toList 0 1 (Nat.le_refl _)).2.2
    obtain ⟨⟨toks, ln, E⟩, hR⟩ : ∃ R, scanA s.data.toList 0 1 = R := ⟨_, rfl⟩
    rw [show scanA s.data.toList ([] : List UInt8).length (1 + nlN []) = _ from hR] at hpl
    rw [hR] at hsc hne1 hfm hlen
    dsimp only at hsc hne1 hpl hfm hlen
    simp at hlen
    have HS := Lib.hid hsc
    have HP := Lib.hid hpl
    have HN := Lib.hid hne1
    clear hsc hpl hne1 hR
    by_cases hE : E = 0
    · subst hE
      obtain rfl : ln = 0 := by omega
      clear hfm
      go_enter Tryd.func8, Tryd.ntmps8
      go_wp2_with fail
      refine HS.out.mono ?_
      rintro e w1 ⟨⟨v, rfl, hown⟩, hb⟩
      obtain ⟨a, cap, rfl, hcap, hcells⟩ := own_toks hown
      have HC := Lib.hid hcells
      have HB := Lib.hid hb
      clear hown hcells hb HS
      go_wp2_with fail
      go_loopw [6, 7] (fun u i wr => ∃ k e : Nat, k ≤ toks.length ∧ i = .int .i64 k ∧ u = .int .i64 e ∧ Hid (PlaceOk s.data.toList (toks.drop k) e) ∧ Hid (Below w1.heap.size w1 wr)) (fun _ i _ => toks.length - (intOf i).toNat)
      case atStart => exact ⟨0, 0, Nat.zero_le _, rfl, rfl, HP.out, Below.refl _ _⟩
      case round =>
        obtain ⟨k, e, hk, rfl, rfl, HPk, HBk⟩ := hrel
        by_cases hlt : k < toks.length
        · obtain ⟨g, rfl, hg1, hg2, hcs⟩ := HC.out.resolve_left (by omega)
          have htk := (hcs k hlt).below HBk.out
          have hpk := HPk.out
          rw [List.drop_eq_getElem_cons hlt] at hpk
          obtain ⟨t, ht⟩ : ∃ t, toks[k] = t := ⟨_, rfl⟩
          rw [ht] at htk hpk
          clear ht hcs
          obtain ⟨K, x, L, at_⟩ := t
          obtain ⟨q0, q1, q2, q3⟩ := htk
          dsimp only at q0 q1 q2 q3
          obtain ⟨p1, p2, p3, p4, p5⟩ := hpk
          dsimp only at p1 p2 p3 p4 p5
          simp at p2
          have hg3 := cell_lt q0
          have hcnt : Hid (∀ w', Calls Tryd.prog 23 #[.string (s.extract 0 at_), .string ⟨#[10]⟩] w' fun e w'' => e = .returned (.int .i64 ((nlN (s.data.toList.take at_) : Nat) : Int)) ∧ w'' = w') := fun w' => by
            have h0 := Tryd.strings_Count_one (s.extract 0 at_) 10 w'
            rw [show (s.extract 0 at_).data.toList = s.data.toList.take at_ by rw [Lib.extract_data]; simp] at h0
            exact h0
          have hCb : nlN (s.data.toList.take at_) ≤ 3000 := by
            have h0 : nlN (s.data.toList.take at_) ≤ (s.data.toList.take at_).length := List.count_le_length
            rw [List.length_take] at h0
            omega
          obtain ⟨C, hC⟩ : ∃ C, nlN (s.data.toList.take at_) = C := ⟨_, rfl⟩
          rw [hC] at hcnt p3 hCb
          clear hC
          have d1 : decide (at_ < e) = false := by simp; omega
          have d2 : decide (s.size ≤ at_) = false := by simp; omega
          subst p3
          have d3 : ((1 : Int) + (C : Int) != 1 + (C : Int)) = false := by simp
          have hat : (at_ : Int) ≤ (s.size : Int) := by omega
          have P5 := Lib.hid p5
          have P4 := Lib.hid p4
          clear p5 p4
          by_cases hK : K = 4
          · have d4 : (K != 4) = false := by rw [hK]; rfl
            have P6 : Hid (PlaceOk s.data.toList (toks.drop (k + 1)) (at_ + 1)) := by have h0 := P5.out; rw [if_pos hK] at h0; exact h0
            clear hK
            go_wp2_with fail -- s1
            go_quiet ((go_at_call 23; exact Calls.quiet_of_same (hcnt.out _)))
            go_wp2_with fail -- s2
            refine ⟨⟨k + 1, at_ + 1, by omega, by go_num, by go_num, P6.out, ?_⟩, by simp [intOf]; omega⟩
            have h0 := HBk.out
            have hz0 := h0.size
            show Below _ _ _
            (repeat' (first | (with_reducible exact Below.refl _ _) | (with_reducible assumption) | (with_reducible refine Below.alloc ?_ ?_ _) | (with_reducible refine Go.below_drewN ?_ _) | (with_reducible refine Below.drew ?_) | (with_reducible refine Below.setCell ?_ ?_ _) | (with_reducible refine below_via (by assumption) ?_ ?_) | (with_reducible refine below_via (later_below _) ?_ ?_) | (with_reducible exact Nat.le_refl _) | omega | (simp; omega) | (simp; done)))
          · have d4 : (K != 4) = true := by simp; exact hK
            obtain ⟨hx0, hx1⟩ := P4.out hK
            have P6 : Hid (PlaceOk s.data.toList (toks.drop (k + 1)) (at_ + x.length)) := by have h0 := P5.out; rw [if_neg hK] at h0; exact h0
            have hpf : Hid (∀ w', Calls Tryd.prog 24 #[.string (s.extract at_ s.size), .string (mkS x)] w' fun e w'' => e = .returned (.bool true) ∧ w'' = w') := fun w' => by
              have h0 := Tryd.strings_HasPrefix (s.extract at_ s.size) (mkS x) w'
              rw [Lib.extract_to_end] at h0
              have h1 : Lib.hasPrefix (s.data.toList.drop at_) (mkS x).data.toList = true := by
                show x.isPrefixOf _ = true
                rw [List.isPrefixOf_iff_prefix, hx1]
                exact List.take_prefix _ _
              rw [h1] at h0
              exact h0
            have hxb : x.length ≤ 3000 := by
              have h0 := congrArg List.length hx1
              rw [List.length_take, List.length_drop] at h0
              simp at h0
              omega
            have hxs : (mkS x).size = x.length := mkS_size x
            have d5 : ((x.length : Int) == 0) = false := by simp; exact hx0
            clear hx1 hK hx0
            go_wp2_with fail -- t1
            go_quiet ((go_at_call 23; exact Calls.quiet_of_same (hcnt.out _)))
            go_wp2_with fail -- t2
            go_quiet ((go_at_call 24; exact quiet_add_same (hpf.out _)))
            go_wp2_with fail -- t3
            refine ⟨⟨k + 1, at_ + x.length, by omega, by go_num, by go_num, P6.out, ?_⟩, by simp [intOf]; omega⟩
            have h0 := HBk.out
            have hz0 := h0.size
            show Below _ _ _
            (repeat' (first | (with_reducible exact Below.refl _ _) | (with_reducible assumption) | (with_reducible refine Below.alloc ?_ ?_ _) | (with_reducible refine Go.below_drewN ?_ _) | (with_reducible refine Below.drew ?_) | (with_reducible refine Below.setCell ?_ ?_ _) | (with_reducible refine below_via (by assumption) ?_ ?_) | (with_reducible refine below_via (later_below _) ?_ ?_) | (with_reducible exact Nat.le_refl _) | omega | (simp; omega) | (simp; done)))
        · obtain rfl : k = toks.length := by omega
          have hB2 : Below w.heap.size w wr := HB.out.trans (HBk.out.mono HB.out.size)
          go_wp2_with fail -- last
          refine (HW.out _ (HT.out.later hB2)).mono ?_
          rintro e w9 ⟨rfl, hb9⟩
          go_wp2_with fail
          go_returns
          exact ⟨rfl, hB2.trans (hb9.mono hB2.size)⟩
    · have b0 : (E != 0) = true := by simp; exact hE
      have b1 : (E != 1) = true := by simp; exact HN.out
      clear hfm hE
      go_enter Tryd.func8, Tryd.ntmps8
      go_wp2_with fail
      refine HS.out.mono ?_
      rintro e w1 ⟨⟨v, rfl, hown⟩, hb⟩
      have HB := Lib.hid hb
      clear hown hb
      go_wp2_with fail
      refine (HW.out _ (HT.out.later HB.out)).mono ?_
      rintro e w9 ⟨rfl, hb9⟩
      go_wp2_with fail
      go_returns
      exact ⟨rfl, HB.out.trans (hb9.mono HB.out.size)⟩

set_option maxRecDepth 100000 in
theorem lifted (os : Os) (started : os.Started) (H : Type) (enc : TypeId × Value → H) :
    ReturnsInHanded {} Tryd.checked os 8 .any (fun w args => (Rows.lexerPlacesSpec.pre enc Tryd.prog Tryd.f8 Rows.lexerPlacesRow.domain false w args ∧ laidMetH Tryd.prog laidS w) ∧ sizedMet enc Tryd.prog Tryd.f8 (OpenSpec.ofChange Rows.lexerPlacesSpec) false w args) (Rows.lexerPlacesSpec.post enc Tryd.prog Tryd.f8 false true false false) := by
  refine returnsInHanded_of_change_and (C := Tryd.checked) (X := fun w _ => laidMetH Tryd.prog laidS w) (fun _ _ _ hh h => h.of_heap hh) own started (by kernel_rfl) Tryd.func8
    (ChangeSpec.witness_shaped (enc := enc) (C := Tryd.checked) (os := os) (X := fun w _ => laidMetH Tryd.prog laidS w) false (World.laidAll Tryd.prog os laidS) #[.string ⟨#[]⟩] 8 (World.laidAll_os _ _ _) (start_shaped os) (by kernel_rfl) (by kernel_rfl) (by kernel_rfl) (start_met os _)) ?_
  intro W base args ds gs before hval0 hW hcnd _ hL _
  have hT := laid_tabs hL
  have hval : ∀ (j : Nat) t v, Tryd.f8.params[j]? = some t → args[j]? = some v → Value.okWide Tryd.prog W .any base t v := hval0
  have hW' := hW
  obtain ⟨p, q, hA0, hV, rfl, hfz, hnd⟩ := hW
  have hA : DataW.TrodAll enc Tryd.prog W 0 (fun _ => true) true Tryd.f8.params.toList args.toList ds p := hA0
  rw [Tryd.params8] at hA hval
  obtain ⟨v0, vs0, d0, ds0, p0, q0, hargs, rfl, rfl, h0, r0⟩ := trodAll_cons hA
  obtain ⟨rfl, rfl, rfl⟩ := trodAll_nil r0
  obtain rfl : args = #[v0] := by cases args; simp_all
  obtain ⟨rfl, rfl⟩ := trodVars_none hV
  have k0 := h0
  have lt0 : ∀ x ∈ p0, x.block < W.heap.size := by obtain ⟨m, hm⟩ := k0; exact DataW.trod_lt m _ _ _ hm
  obtain ⟨s, rfl, -, -, ws⟩ := open_string Tryd.underlying9 (hval 0 9 v0 rfl rfl) h0
  clear hA0 hval0
  refine (walk s ws W hT).mono fun e W' ⟨he, bel⟩ => ?_
  subst he
  exact ⟨_, rfl, _, _, _, [], _, [], hW', trodAll_mk1 (shut_bool Tryd.underlying4 _), (trodAll_cons_mk (Below.trod laidOut (by kernel_rfl) (of_decide_eq_true (by kernel_rfl)) k0 bel lt0) trodAll_mk0), rfl, bel.frame _, fun h => by cases h⟩

theorem over : Rows.lexerPlacesRow.holds Tryd.pinned (OpenSpec.ofChange Rows.lexerPlacesSpec) :=
  OpenClaim.holds_of_wide 8 Tryd.f8 rfl rfl rfl rfl rfl rfl rfl ⟨rfl, rfl, rfl, rfl, rfl⟩ rfl rfl rfl rfl rfl (by kernel_rfl) Tryd.func8 (by kernel_rfl)
    (of_decide_eq_true (by kernel_rfl)) (by unfold Func.isWrapper; first | (rw [if_pos (by decide +kernel)]; kernel_rfl) | (rw [if_neg (by decide +kernel)]; exact ⟨rfl, rfl⟩))
    (fun os started H enc _ => lifted os started H enc)

/-- The given statement: the row, tied. -/
theorem proved : Rows.LexerPlacesCardSaid :=
  Claim7.holds_tied_plain_at .later [] [.listed, .data] true _ false over (fun _ h => by cases h) (by kernel_rfl) (fun _ h => by cases h) lexerPlaces_row_tie rfl ⟨rfl, rfl⟩ (by kernel_rfl) rfl
    (fun f fn hf hfn => by
      obtain rfl : f = 8 := Option.some.inj ((show Tryd.prog.funcNamed Rows.lexerPlacesRow.func = some 8 by kernel_rfl).symm.trans hf) |>.symm
      obtain rfl : fn = Tryd.f8 := (Option.some.inj (Tryd.func8.symm.trans hfn)).symm
      exact ⟨by kernel_rfl, fun j t ht => by
        rw [Tryd.params8] at ht
        have hm : t ∈ [9] := by simpa using Array.mem_of_getElem? ht
        have hall : ([9].all fun u => !Tryd.prog.wantsStandIn u) = true := by kernel_rfl
        exact (show Tryd.prog.wantsStandIn t = false by simpa using List.all_eq_true.1 hall t hm)⟩)
    (by kernel_rfl)
#print axioms proved
end Go.Proofs.YtgjeljhodflbgaaDoor.lexerPlaces
