/- The law LexerAgain holds: for every input it returns true, and each argument reads as it did, where the library's tables read as its text lays them. No other conditions. -/
import Derived.Test.YtgjeljhodflbgaaDoorMLxE
import Derived.Test.YtgjeljhodflbgaaDoorMLxJ
import Derived.Test.YtgjeljhodflbgaaDoorMLxN
import Derived.Test.YtgjeljhodflbgaaDoorMLaid
import Derived.Test.YtgjeljhodflbgaaDoorCards
import Derived.Test.YtgjeljhodflbgaaDoorTie
namespace Go.Proofs.YtgjeljhodflbgaaDoor.lexerAgain
open Go.ChangeShapes Go.WideShapes Go.ChangeAt Go.RowKit Go.Joins
open Go.ChangeMaps (open_string shut_string)
set_option linter.unusedVariables false
/-- A token of the program as a token with any numbers. -/
def tz (t : Tk) : TZ := ⟨t.k, t.x, t.ln, t.at_⟩
theorem zs_of_toks {w : World} {a : Option Addr} {l : List Tk} (h : ToksAt w a l) : ZsAt w a (l.map tz) := by
  rcases h with h | ⟨g, h1, h2⟩
  · exact .inl (by rw [List.length_map]; exact h)
  · refine .inr ⟨g, 0, h1, fun k hk => ?_⟩
    rw [List.length_map] at hk
    rw [List.getElem_map, Nat.zero_add]
    exact h2 k hk

set_option maxHeartbeats 8000000 in
set_option maxRecDepth 100000 in
theorem walk (s : ByteArray) (ws : s.size ≤ maxLen) (w : World) (hT : Tabs w) :
    Calls Tryd.prog 7 #[.string s] w fun e w' => e = .returned (.bool true) ∧ Below w.heap.size w w' := by
  unfold maxLen at ws
  have HT := Lib.hid hT
  clear hT
  have HW : Hid (∀ w', Tabs w' → Calls Tryd.prog 11 #[] w' fun e w'' => e = .returned (.bool true) ∧ Below w'.heap.size w' w'') := fun w' h => lives_any w' h
  by_cases hl : 3000 < s.size
  · have h1 : decide (3000 < (s.size : Int)) = true := by simp; omega
    go_enter Tryd.func7, Tryd.ntmps7
    go_wp2_with fail
    refine (HW.out _ (HT.out.later (Below.refl _ _))).mono ?_
    rintro e w9 ⟨rfl, hb9⟩
    go_wp2_with fail
    go_returns
    exact ⟨rfl, hb9⟩
  · have h1 : decide (3000 < (s.size : Int)) = false := by simp; omega
    have hS0 := fun w' h => scan_prog s w' (by omega) h
    have hfm := scanA_form s.data.toList 0 1
    have hrd := scan_reads s.data.toList.length s.data.toList 0 1 (Nat.le_refl _)
    obtain ⟨⟨T, ln, E⟩, hR⟩ : ∃ R, scanA s.data.toList 0 1 = R := ⟨_, rfl⟩
    rw [hR] at hS0 hfm hrd
    dsimp only at hS0 hfm hrd
    obtain ⟨hrd1, hrd2, hrd3⟩ := hrd
    simp only [size_len] at hrd1 hrd2 hrd3
    have HS := Lib.hid hS0
    clear hS0 hR
    by_cases hE : E = 0
    · subst hE
      have hJl : (mkS (joinL (plain2 T))).size ≤ 65536 := by rw [mkS_size]; omega
      have hmap : (T.map tz).map TZ.pair = plain2 T := by rw [List.map_map]; rfl
      have hml : (T.map tz).length = T.length := List.length_map _
      have HJ : Hid (∀ w' a c, ToksAt w' a T → Calls Tryd.prog 21 #[.slice a T.length c] w' fun e w'' => e = .returned (.string (mkS (joinL (plain2 T)))) ∧ Below w'.heap.size w' w'') := fun w' a c h => by
        have h0 := join_any (T.map tz) a c w' (by omega) (fun t ht => by
          obtain ⟨u, hu, rfl⟩ := List.mem_map.1 ht
          have := (hrd1 u hu).2.1
          show u.x.length ≤ _
          omega) (zs_of_toks h)
        rw [hmap, hml] at h0
        exact h0
      have hj := scan_joined (plain2 T) (fun t ht => by
        obtain ⟨u, hu, rfl⟩ := List.mem_map.1 ht
        exact (hrd1 u hu).1) 0 1
      have hS2 := fun w' h => scan_prog (mkS (joinL (plain2 T))) w' hJl h
      have hf2 := scanA_form (joinL (plain2 T)) 0 1
      obtain ⟨J, hJ⟩ : ∃ J, mkS (joinL (plain2 T)) = J := ⟨_, rfl⟩
      have hJd : J.data.toList = joinL (plain2 T) := by rw [← hJ]; rfl
      rw [hJ] at HJ hS2
      rw [hJd] at hS2
      obtain ⟨⟨T2, l2, E2⟩, hR2⟩ : ∃ R, scanA (joinL (plain2 T)) 0 1 = R := ⟨_, rfl⟩
      rw [hR2] at hj hS2 hf2
      dsimp only at hj hS2 hf2
      obtain ⟨rfl, hp2, hln⟩ := hj
      have hl2 : T2.length = T.length := by have := congrArg List.length hp2; unfold plain2 at this; simpa using this
      have HP := Lib.hid hp2
      have HL := Lib.hid hln
      have HS2 := Lib.hid hS2
      clear hrd1 hrd2 hfm hp2 hln hS2 hR2 hJ hJd hJl hml hmap hf2
      go_enter Tryd.func7, Tryd.ntmps7
      go_wp2_with fail
      refine (HS.out _ (HT.out.later (Below.refl _ _))).mono ?_
      rintro e w1 ⟨⟨v, rfl, hown⟩, hb1⟩
      obtain ⟨a, cap, rfl, hcap, hts⟩ := own_toksAt hown
      have K1 := Lib.hid hts
      have B1 := Lib.hid hb1
      clear hown hts hb1
      go_wp2_with fail
      refine (HJ.out _ _ _ K1.out).mono ?_
      rintro e w2 ⟨rfl, hb2⟩
      have K2 := Lib.hid (K1.out.later hb2)
      have B2 := Lib.hid (B1.out.trans (hb2.mono B1.out.size))
      clear hb2
      go_wp2_with fail
      refine (HS2.out _ (HT.out.later B2.out)).mono ?_
      rintro e w3 ⟨⟨v3, rfl, hown⟩, hb3⟩
      obtain ⟨a3, cap3, rfl, hcap3, hts3⟩ := own_toksAt hown
      have M3 := Lib.hid hts3
      have K3 := Lib.hid (K2.out.later hb3)
      have B3 := Lib.hid (B2.out.trans (hb3.mono B2.out.size))
      clear hown hts3 hb3 K1 K2
      have bl : ((T2.length : Int) != (T.length : Int)) = false := by rw [hl2]; simp
      go_wp2_with fail -- loop
      go_loopw [9] (fun i wr => ∃ k : Nat, k ≤ T.length ∧ i = .int .i64 k ∧ Hid (Below w3.heap.size w3 wr)) (fun i _ => T.length - (intOf i).toNat)
      case atStart => exact ⟨0, Nat.zero_le _, rfl, Below.refl _ _⟩
      case round =>
        obtain ⟨k, hk, rfl, HBk⟩ := hrel
        by_cases hlt : k < T.length
        · obtain ⟨g, rfl, hc1⟩ := K3.out.resolve_left (by omega)
          obtain ⟨g3, rfl, hc3⟩ := M3.out.resolve_left (by omega)
          have t1 := (hc1 k hlt).below HBk.out
          have t3 := (hc3 k (by omega)).below HBk.out
          have hpk : ((T2[k]'(by omega)).k, (T2[k]'(by omega)).x) = ((T[k]).k, (T[k]).x) := by
            have h0 : (plain2 T2)[k]? = (plain2 T)[k]? := by rw [HP.out]
            unfold plain2 at h0
            rw [List.getElem?_map, List.getElem?_map, List.getElem?_eq_getElem hlt, List.getElem?_eq_getElem (show k < T2.length by omega)] at h0
            simpa using h0
          have hlk := HL.out _ (List.getElem_mem (show k < T2.length by omega))
          obtain ⟨t, ht⟩ : ∃ t, T[k] = t := ⟨_, rfl⟩
          obtain ⟨u, hu⟩ : ∃ u, T2[k]'(by omega) = u := ⟨_, rfl⟩
          rw [ht] at t1 hpk
          rw [hu] at t3 hpk hlk
          clear ht hu hc1 hc3
          obtain ⟨K, x, L, A⟩ := t
          obtain ⟨K', x', L', A'⟩ := u
          simp only [Prod.mk.injEq] at hpk
          obtain ⟨rfl, rfl⟩ := hpk
          dsimp only at hlk
          subst hlk
          obtain ⟨q0, q1, q2, q3⟩ := t1
          obtain ⟨r0, r1, r2, r3⟩ := t3
          dsimp only at q0 q1 q2 q3 r0 r1 r2 r3
          go_wp2_with fail
          go_quiet (fail)
          go_wp2_with fail
          refine ⟨⟨k + 1, by omega, by go_num, ?_⟩, by simp [intOf]; omega⟩
          have h0 := HBk.out
          show Below _ _ _
          (repeat' (first | (with_reducible exact Below.refl _ _) | (with_reducible assumption) | (with_reducible refine Below.alloc ?_ ?_ _) | (with_reducible refine Go.below_drewN ?_ _) | (with_reducible refine Below.drew ?_) | (with_reducible refine Below.setCell ?_ ?_ _) | (with_reducible refine below_via (by assumption) ?_ ?_) | (with_reducible refine below_via (later_below _) ?_ ?_) | (with_reducible exact Nat.le_refl _) | omega | (simp; omega) | (simp; done)))
        · obtain rfl : k = T.length := by omega
          have hB2 : Below w.heap.size w wr := B3.out.trans (HBk.out.mono B3.out.size)
          go_wp2_with fail -- last
          refine (HW.out _ (HT.out.later hB2)).mono ?_
          rintro e w9 ⟨rfl, hb9⟩
          go_wp2_with fail
          go_returns
          exact ⟨rfl, hB2.trans (hb9.mono hB2.size)⟩
    · have b0 : (E != 0) = true := by simp; exact hE
      obtain rfl : T = [] := by rcases hfm with h | h; exact absurd h.1 hE; exact h.2
      clear hfm hE hrd1 hrd2
      go_enter Tryd.func7, Tryd.ntmps7
      go_wp2_with fail
      refine (HS.out _ (HT.out.later (Below.refl _ _))).mono ?_
      rintro e w1 ⟨⟨v, rfl, hown⟩, hb1⟩
      obtain ⟨a, cap, rfl, hcap, hts⟩ := own_toksAt hown
      have B1 := Lib.hid hb1
      clear hown hts hb1
      go_wp2_with fail -- last
      refine (HW.out _ (HT.out.later B1.out)).mono ?_
      rintro e w9 ⟨rfl, hb9⟩
      go_wp2_with fail
      go_returns
      exact ⟨rfl, (B1.out).trans (hb9.mono (B1.out).size)⟩

set_option maxRecDepth 100000 in
theorem lifted (os : Os) (started : os.Started) (H : Type) (enc : TypeId × Value → H) :
    ReturnsInHanded {} Tryd.checked os 7 .any (fun w args => (Rows.lexerAgainSpec.pre enc Tryd.prog Tryd.f7 Rows.lexerAgainRow.domain false w args ∧ laidMetH Tryd.prog laidS w) ∧ sizedMet enc Tryd.prog Tryd.f7 (OpenSpec.ofChange Rows.lexerAgainSpec) false w args) (Rows.lexerAgainSpec.post enc Tryd.prog Tryd.f7 false true false false) := by
  refine returnsInHanded_of_change_and (C := Tryd.checked) (X := fun w _ => laidMetH Tryd.prog laidS w) (fun _ _ _ hh h => h.of_heap hh) own started (by kernel_rfl) Tryd.func7
    (ChangeSpec.witness_shaped (enc := enc) (C := Tryd.checked) (os := os) (X := fun w _ => laidMetH Tryd.prog laidS w) false (World.laidAll Tryd.prog os laidS) #[.string ⟨#[]⟩] 8 (World.laidAll_os _ _ _) (start_shaped os) (by kernel_rfl) (by kernel_rfl) (by kernel_rfl) (start_met os _)) ?_
  intro W base args ds gs before hval0 hW hcnd _ hL _
  have hT := laid_tabs hL
  have hval : ∀ (j : Nat) t v, Tryd.f7.params[j]? = some t → args[j]? = some v → Value.okWide Tryd.prog W .any base t v := hval0
  have hW' := hW
  obtain ⟨p, q, hA0, hV, rfl, hfz, hnd⟩ := hW
  have hA : DataW.TrodAll enc Tryd.prog W 0 (fun _ => true) true Tryd.f7.params.toList args.toList ds p := hA0
  rw [Tryd.params7] at hA hval
  obtain ⟨v0, vs0, d0, ds0, p0, q0, hargs, rfl, rfl, h0, r0⟩ := trodAll_cons hA
  obtain ⟨rfl, rfl, rfl⟩ := trodAll_nil r0
  obtain rfl : args = #[v0] := by cases args; simp_all
  obtain ⟨rfl, rfl⟩ := trodVars_none hV
  have k0 := h0
  have lt0 : ∀ x ∈ p0, x.block < W.heap.size := by obtain ⟨m, hm⟩ := k0; exact DataW.trod_lt m _ _ _ hm
  obtain ⟨s, rfl, -, -, ws⟩ := open_string Tryd.underlying9 (hval 0 9 v0 rfl rfl) h0
  clear hA0 hval0
  refine (walk s ws W hT).mono fun e W' ⟨he, bel⟩ => ?_
  subst he
  exact ⟨_, rfl, _, _, _, [], _, [], hW', trodAll_mk1 (shut_bool Tryd.underlying4 _), (trodAll_cons_mk (Below.trod laidOut (by kernel_rfl) (of_decide_eq_true (by kernel_rfl)) k0 bel lt0) trodAll_mk0), rfl, bel.frame _, fun h => by cases h⟩

theorem over : Rows.lexerAgainRow.holds Tryd.pinned (OpenSpec.ofChange Rows.lexerAgainSpec) :=
  OpenClaim.holds_of_wide 7 Tryd.f7 rfl rfl rfl rfl rfl rfl rfl ⟨rfl, rfl, rfl, rfl, rfl⟩ rfl rfl rfl rfl rfl (by kernel_rfl) Tryd.func7 (by kernel_rfl)
    (of_decide_eq_true (by kernel_rfl)) (by unfold Func.isWrapper; first | (rw [if_pos (by decide +kernel)]; kernel_rfl) | (rw [if_neg (by decide +kernel)]; exact ⟨rfl, rfl⟩))
    (fun os started H enc _ => lifted os started H enc)

/-- The given statement: the row, tied. -/
theorem proved : Rows.LexerAgainCardSaid :=
  Claim7.holds_tied_plain_at .later [] [.listed, .data] true _ false over (fun _ h => by cases h) (by kernel_rfl) (fun _ h => by cases h) lexerAgain_row_tie rfl ⟨rfl, rfl⟩ (by kernel_rfl) rfl
    (fun f fn hf hfn => by
      obtain rfl : f = 7 := Option.some.inj ((show Tryd.prog.funcNamed Rows.lexerAgainRow.func = some 7 by kernel_rfl).symm.trans hf) |>.symm
      obtain rfl : fn = Tryd.f7 := (Option.some.inj (Tryd.func7.symm.trans hfn)).symm
      exact ⟨by kernel_rfl, fun j t ht => by
        rw [Tryd.params7] at ht
        have hm : t ∈ [9] := by simpa using Array.mem_of_getElem? ht
        have hall : ([9].all fun u => !Tryd.prog.wantsStandIn u) = true := by kernel_rfl
        exact (show Tryd.prog.wantsStandIn t = false by simpa using List.all_eq_true.1 hall t hm)⟩)
    (by kernel_rfl)
#print axioms proved
end Go.Proofs.YtgjeljhodflbgaaDoor.lexerAgain
