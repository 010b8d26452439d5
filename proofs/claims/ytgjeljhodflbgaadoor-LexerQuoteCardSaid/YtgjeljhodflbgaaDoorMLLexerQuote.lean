/- The law LexerQuote holds: for every input it returns true, and each argument reads as it did, where the library's tables read as its text lays them. No other conditions. -/
import Derived.Test.YtgjeljhodflbgaaDoorMLxE
import Derived.Test.YtgjeljhodflbgaaDoorMLxQ
import Derived.Test.YtgjeljhodflbgaaDoorMLaid
import Derived.Test.YtgjeljhodflbgaaDoorCards
import Derived.Test.YtgjeljhodflbgaaDoorTie
namespace Go.Proofs.YtgjeljhodflbgaaDoor.lexerQuote
open Go.ChangeShapes Go.WideShapes Go.ChangeAt Go.RowKit Go.Joins
open Go.ChangeMaps (open_string shut_string)
set_option linter.unusedVariables false
/-- One token, read alone. -/
theorem one_cells {w : World} {base : Nat} {e : TypeId} {v : Value} {t : Tk} (h : w.ownsRow base e 4 v 1 (flatTk [t])) : ∃ g cap, v = .slice (some ⟨g, 0, none⟩) 1 cap ∧ 1 ≤ cap ∧ TkAt w g 0 t := by
  obtain ⟨a, cap, h1, h2, h3⟩ := own_toks (l := [t]) h
  rcases h3 with h3 | ⟨g, rfl, -, -, h4⟩
  · cases h3
  · exact ⟨g, cap, h1, h2, h4 0 (by simp)⟩

set_option maxHeartbeats 8000000 in
set_option maxRecDepth 100000 in
theorem walk (s : ByteArray) (ws : s.size ≤ maxLen) (w : World) (hT : Tabs w) :
    Calls Tryd.prog 5 #[.string s] w fun e w' => e = .returned (.bool true) ∧ Below w.heap.size w w' := by
  unfold maxLen at ws
  have HT := Lib.hid hT
  clear hT
  have HW : Hid (∀ w', Tabs w' → Calls Tryd.prog 11 #[] w' fun e w'' => e = .returned (.bool true) ∧ Below w'.heap.size w' w'') := fun w' h => lives_any w' h
  by_cases hl : 1000 < s.size
  · have h1 : decide (1000 < (s.size : Int)) = true := by simp; omega
    go_enter Tryd.func5, Tryd.ntmps5
    go_wp2_with fail
    refine (HW.out _ (HT.out.later (Below.refl _ _))).mono ?_
    rintro e w9 ⟨rfl, hb9⟩
    go_wp2_with fail
    go_returns
    exact ⟨rfl, hb9⟩
  · have h1 : decide (1000 < (s.size : Int)) = false := by simp; omega
    have hlen : s.data.toList.length ≤ 1000 := by simp; omega
    have hqs : (mkS (quoteL s.data.toList)).size ≤ 65536 := by
      have := quoteM_len s.data.toList
      rw [mkS_size]; unfold quoteL; simp; omega
    have HQ : Hid (∀ w', Calls Tryd.prog 19 #[.string s] w' fun e w'' => e = .returned (.string (mkS (quoteL s.data.toList))) ∧ Below w'.heap.size w' w'') := fun w' => quote_any s w' (by omega)
    have HR : Hid (∀ w', Calls Tryd.prog 20 #[.string s] w' fun e w'' => e = .returned (.string (mkS (quoteL s.data.toList))) ∧ Below w'.heap.size w' w'') := fun w' => rquote_any s w' (by omega)
    have HS : Hid (∀ w', Tabs w' → Calls Tryd.prog 12 #[.string (mkS (quoteL s.data.toList))] w' fun e w'' => (∃ v, e = .returned (.tuple #[v, .int .i64 0, .int .i64 0]) ∧ w''.ownsRow w'.heap.size 30 4 v 1 (flatTk [⟨4, s.data.toList, 1, 0⟩])) ∧ Below w'.heap.size w' w'') := fun w' h => by
      have h0 := scan_prog (mkS (quoteL s.data.toList)) w' hqs h
      rw [show scanA (mkS (quoteL s.data.toList)).data.toList 0 1 = _ from scan_quote (by omega)] at h0
      exact h0
    obtain ⟨Q, hQ⟩ : ∃ Q, mkS (quoteL s.data.toList) = Q := ⟨_, rfl⟩
    rw [hQ] at HQ HR HS
    have e1 := eqIn_tok 4 1 0 s
    have e2 : ∀ u, (binOp .eql 30 (.agg #[.int .i64 4, .string s, .int .i64 1, .int .i64 0]) (.agg #[.int .i64 4, .string s, .int .i64 1, .int .i64 0])).run Tryd.prog u = .ok (.bool true) u := fun u => by
      rw [run_eql_struct, e1]; rfl
    clear hQ hqs hlen
    go_enter Tryd.func5, Tryd.ntmps5
    go_wp2_with fail
    refine (HQ.out _).mono ?_
    rintro e w1 ⟨rfl, hb1⟩
    have B1 : Hid (Below w.heap.size w w1) := hb1
    clear hb1
    go_wp2_with fail
    refine (HS.out _ (HT.out.later B1.out)).mono ?_
    rintro e w2 ⟨⟨v, rfl, hown⟩, hb2⟩
    obtain ⟨g, cap, rfl, hcap, htk⟩ := one_cells hown
    have B2 : Hid (Below w.heap.size w w2) := B1.out.trans (hb2.mono B1.out.size)
    have HK := Lib.hid htk
    clear hown hb2 htk
    go_wp2_with fail
    refine (HR.out _).mono ?_
    rintro e w3 ⟨rfl, hb3⟩
    obtain ⟨q0, q1, q2, q3⟩ := HK.out.below hb3
    simp [mkS_of] at q0 q1 q2 q3
    have B3 : Hid (Below w.heap.size w w3) := B2.out.trans (hb3.mono B2.out.size)
    clear hb3
    go_wp2_with fail -- last
    refine (HW.out _ (HT.out.later B3.out)).mono ?_
    rintro e w9 ⟨rfl, hb9⟩
    go_wp2_with fail
    go_returns
    exact ⟨rfl, (B3.out).trans (hb9.mono (B3.out).size)⟩

set_option maxRecDepth 100000 in
theorem lifted (os : Os) (started : os.Started) (H : Type) (enc : TypeId × Value → H) :
    ReturnsInHanded {} Tryd.checked os 5 .any (fun w args => (Rows.lexerQuoteSpec.pre enc Tryd.prog Tryd.f5 Rows.lexerQuoteRow.domain false w args ∧ laidMetH Tryd.prog laidS w) ∧ sizedMet enc Tryd.prog Tryd.f5 (OpenSpec.ofChange Rows.lexerQuoteSpec) false w args) (Rows.lexerQuoteSpec.post enc Tryd.prog Tryd.f5 false true false false) := by
  refine returnsInHanded_of_change_and (C := Tryd.checked) (X := fun w _ => laidMetH Tryd.prog laidS w) (fun _ _ _ hh h => h.of_heap hh) own started (by kernel_rfl) Tryd.func5
    (ChangeSpec.witness_shaped (enc := enc) (C := Tryd.checked) (os := os) (X := fun w _ => laidMetH Tryd.prog laidS w) false (World.laidAll Tryd.prog os laidS) #[.string ⟨#[]⟩] 8 (World.laidAll_os _ _ _) (start_shaped os) (by kernel_rfl) (by kernel_rfl) (by kernel_rfl) (start_met os _)) ?_
  intro W base args ds gs before hval0 hW hcnd _ hL _
  have hT := laid_tabs hL
  have hval : ∀ (j : Nat) t v, Tryd.f5.params[j]? = some t → args[j]? = some v → Value.okWide Tryd.prog W .any base t v := hval0
  have hW' := hW
  obtain ⟨p, q, hA0, hV, rfl, hfz, hnd⟩ := hW
  have hA : DataW.TrodAll enc Tryd.prog W 0 (fun _ => true) true Tryd.f5.params.toList args.toList ds p := hA0
  rw [Tryd.params5] at hA hval
  obtain ⟨v0, vs0, d0, ds0, p0, q0, hargs, rfl, rfl, h0, r0⟩ := trodAll_cons hA
  obtain ⟨rfl, rfl, rfl⟩ := trodAll_nil r0
  obtain rfl : args = #[v0] := by cases args; simp_all
  obtain ⟨rfl, rfl⟩ := trodVars_none hV
  have k0 := h0
  have lt0 : ∀ x ∈ p0, x.block < W.heap.size := by obtain ⟨m, hm⟩ := k0; exact DataW.trod_lt m _ _ _ hm
  obtain ⟨s, rfl, -, -, ws⟩ := open_string Tryd.underlying9 (hval 0 9 v0 rfl rfl) h0
  clear hA0 hval0
  refine (walk s ws W hT).mono fun e W' ⟨he, bel⟩ => ?_
  subst he
  exact ⟨_, rfl, _, _, _, [], _, [], hW', trodAll_mk1 (shut_bool Tryd.underlying4 _), (trodAll_cons_mk (Below.trod laidOut (by kernel_rfl) (of_decide_eq_true (by kernel_rfl)) k0 bel lt0) trodAll_mk0), rfl, bel.frame _, fun h => by cases h⟩

theorem over : Rows.lexerQuoteRow.holds Tryd.pinned (OpenSpec.ofChange Rows.lexerQuoteSpec) :=
  OpenClaim.holds_of_wide 5 Tryd.f5 rfl rfl rfl rfl rfl rfl rfl ⟨rfl, rfl, rfl, rfl, rfl⟩ rfl rfl rfl rfl rfl (by kernel_rfl) Tryd.func5 (by kernel_rfl)
    (of_decide_eq_true (by kernel_rfl)) (by unfold Func.isWrapper; first | (rw [if_pos (by decide +kernel)]; kernel_rfl) | (rw [if_neg (by decide +kernel)]; exact ⟨rfl, rfl⟩))
    (fun os started H enc _ => lifted os started H enc)

/-- The given statement: the row, tied. -/
theorem proved : Rows.LexerQuoteCardSaid :=
  Claim7.holds_tied_plain_at .later [] [.listed, .data] true _ false over (fun _ h => by cases h) (by kernel_rfl) (fun _ h => by cases h) lexerQuote_row_tie rfl ⟨rfl, rfl⟩ (by kernel_rfl) rfl
    (fun f fn hf hfn => by
      obtain rfl : f = 5 := Option.some.inj ((show Tryd.prog.funcNamed Rows.lexerQuoteRow.func = some 5 by kernel_rfl).symm.trans hf) |>.symm
      obtain rfl : fn = Tryd.f5 := (Option.some.inj (Tryd.func5.symm.trans hfn)).symm
      exact ⟨by kernel_rfl, fun j t ht => by
        rw [Tryd.params5] at ht
        have hm : t ∈ [9] := by simpa using Array.mem_of_getElem? ht
        have hall : ([9].all fun u => !Tryd.prog.wantsStandIn u) = true := by kernel_rfl
        exact (show Tryd.prog.wantsStandIn t = false by simpa using List.all_eq_true.1 hall t hm)⟩)
    (by kernel_rfl)
#print axioms proved
end Go.Proofs.YtgjeljhodflbgaaDoor.lexerQuote
