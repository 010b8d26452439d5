/- The law FormattingQuotes holds: for every input it returns true, and each argument reads as it did, where the library's tables read as its text lays them. No other conditions. -/
import Derived.Test.YtemlijadhdejeaaGreatDoorMFmLv
import Derived.Test.YtemlijadhdejeaaGreatDoorMFmLawP
import Derived.Test.YtemlijadhdejeaaGreatDoorMLxRB
import Derived.Test.YtemlijadhdejeaaGreatDoorMLaid
import Derived.Test.YtemlijadhdejeaaGreatDoorCards
import Derived.Test.YtemlijadhdejeaaGreatDoorTie
namespace Go.Proofs.YtemlijadhdejeaaGreatDoor.formattingQuotes
open Go.ChangeShapes Go.WideShapes Go.ChangeAt Go.RowKit Go.Joins
open Go.ChangeMaps (open_string shut_string)
set_option linter.unusedVariables false
theorem one_val (w w' : World) (T : TypeId) (g : Nat) (s : ByteArray) (h : w.heap.size = g) (hb : Below (w.alloc (.cells #[.int .i64 3, .int .i64 0, .int .i64 0, .string s, .int .i64 0] T)).heap.size (w.alloc (.cells #[.int .i64 3, .int .i64 0, .int .i64 0, .string s, .int .i64 0] T)) w') : VsAt w' (some ⟨g, 0, none⟩) [⟨3, 0, 0, s, 0⟩] := by
  have hc := fun i => (World.cell?_alloc_at (w := w) #[.int .i64 3, .int .i64 0, .int .i64 0, .string s, .int .i64 0] T g i h.symm)
  refine .inr ⟨g, 0, rfl, fun i hi => VAt.below ?_ hb⟩
  obtain rfl : i = 0 := by simpa using hi
  exact ⟨hc 0, hc 1, hc 2, hc 3, hc 4⟩
theorem verb_q (s : ByteArray) : fmtF (verbP 113) ⟨3, 0, 0, s, 0⟩ = (quoteL s.data.toList, true) := by
  have h1 : (txtF (verbP 113) ⟨3, 0, 0, s, 0⟩) = (quoteL s.data.toList, true) := rfl
  have h2 : fmtF (verbP 113) ⟨3, 0, 0, s, 0⟩ = (padL (txtF (verbP 113) ⟨3, 0, 0, s, 0⟩).1 0 false, (txtF (verbP 113) ⟨3, 0, 0, s, 0⟩).2) := rfl
  rw [h2, h1]
  have h3 : padN 0 (quoteL s.data.toList) = 0 := by unfold padN; omega
  unfold padL
  rw [h3]; simp
theorem quote_len (l : List UInt8) : (quoteL l).length ≤ 4 * l.length + 2 := by
  have := quoteM_len l
  unfold quoteL; simp; omega
theorem quotes_law (s : ByteArray) (h : s.size ≤ 900) : fmtR (pcsT [37, 113] [] []) [⟨3, 0, 0, s, 0⟩] = (quoteL s.data.toList, 0, 0) := by
  have hp : pcsT [37, 113] [] [] = some (grp [.dr (verbP 113)] []) := by unfold pcsT; rw [evs_q]; rfl
  rw [hp, fmtR_grp evs_q]
  have he : runE fmtL [⟨3, 0, 0, s, 0⟩] [.dr (verbP 113)] 0 [] = (quoteL s.data.toList, 0, 0) := by simp [runE, fmtL, verb_q]
  rw [he]
  have hl := quote_len s.data.toList
  have hs : s.data.toList.length = s.size := by simp
  exact if_neg (fun h => by have h2 : 4096 < (quoteL s.data.toList).length := h.2; omega)
/-- One token, read alone. -/
theorem one_tok {w : World} {base : Nat} {e : TypeId} {v : Value} {x : List UInt8} (h : w.ownsRow base e 4 v 1 (flatTk [⟨4, x, 1, 0⟩])) : ∃ g cap, v = .slice (some ⟨g, 0, none⟩) 1 cap ∧ 1 ≤ cap ∧ w.cell? ⟨g, 1, none⟩ = some (.string (mkS x)) := by
  obtain ⟨g, cap, hv, -, -, hc, hcell⟩ := own_cell h (by decide)
  exact ⟨g, cap, hv, hc, hcell 1 (by simp [flatTk])⟩

set_option maxHeartbeats 8000000 in
set_option maxRecDepth 100000 in
theorem walk (s : ByteArray) (ws : s.size ≤ maxLen) (w : World) (hT : Tabs w) :
    Calls Tryz.prog 7 #[.string s] w fun e w' => e = .returned (.bool true) ∧ Below w.heap.size w w' := by
  unfold maxLen at ws
  have HT := Lib.hid hT
  clear hT
  have HW : Hid (∀ w', Tabs w' → Calls Tryz.prog 11 #[] w' fun e w'' => e = .returned (.bool true) ∧ Below w'.heap.size w' w'') := fun w' h => lives_any w' h
  by_cases hl : 900 < s.size
  · have h1 : decide (900 < (s.size : Int)) = true := by simp; omega
    clear hl
    go_enter Tryz.func7, Tryz.ntmps7
    go_wp2_with (first | (go_at_call 11; (with_reducible refine (HW.out _ (HT.out.later ?_)).mono ?_); (focus ((repeat' (first | (with_reducible exact Below.refl _ _) | (with_reducible assumption) | (with_reducible refine Below.alloc ?_ ?_ _) | (with_reducible refine below_drewN ?_ _) | (with_reducible refine Below.drew ?_) | (with_reducible refine Below.setCell ?_ ?_ _) | (with_reducible refine below_via (by assumption) ?_ ?_) | (with_reducible refine below_via (later_below _) ?_ ?_) | (with_reducible exact Nat.le_refl _) | omega | (simp; omega) | (simp; done))))); rintro e w9 ⟨rfl, hb9⟩))
    go_returns
    refine ⟨rfl, ?_⟩
    (repeat' (first | (with_reducible exact Below.refl _ _) | (with_reducible assumption) | (with_reducible refine Below.alloc ?_ ?_ _) | (with_reducible refine below_drewN ?_ _) | (with_reducible refine Below.drew ?_) | (with_reducible refine Below.setCell ?_ ?_ _) | (with_reducible refine below_via (by assumption) ?_ ?_) | (with_reducible refine below_via (later_below _) ?_ ?_) | (with_reducible exact Nat.le_refl _) | omega | (simp; omega) | (simp; done)))
  · have h1 : decide (900 < (s.size : Int)) = false := by simp; omega
    have hsl : s.data.toList.length = s.size := by simp
    have hql := quote_len s.data.toList
    have HF : Hid (∀ (a : Option Addr) (cap : Nat) (w' : World), VsAt w' a [⟨3, 0, 0, s, 0⟩] → Tabs w' → Calls Tryz.prog 15 #[.string ⟨#[37, 113]⟩, .slice a 1 cap] w' fun e w'' => e = .returned (.tuple #[.string (mkS (quoteL s.data.toList)), .int .i64 0, .int .i64 0]) ∧ Below w'.heap.size w' w'') := fun a cap w' h1 h2 => by
      have h := fformat_any ⟨#[37, 113]⟩ a cap [⟨3, 0, 0, s, 0⟩] w' (by show 2 ≤ 100000; omega) (by simp) (by
        intro v hv
        simp at hv
        subst hv
        exact ⟨by dsimp only; omega, by dsimp only; omega, by dsimp only; omega⟩) h1 h2
      have hq := quotes_law s (by omega)
      have h37 : (⟨#[37, 113]⟩ : ByteArray).data.toList = [37, 113] := rfl
      rw [h37, hq] at h
      exact h
    have HR := Lib.hid (fun w' => rquote_any s w' (by omega))
    have HS : Hid (∀ w', Calls Tryz.prog 18 #[.string (mkS (quoteL s.data.toList))] w' fun e w'' => (∃ g cap, e = .returned (.tuple #[.slice (some ⟨g, 0, none⟩) 1 cap, .int .i64 0, .int .i64 0]) ∧ 1 ≤ cap ∧ w''.cell? ⟨g, 1, none⟩ = some (.string s)) ∧ Below w'.heap.size w' w'') := fun w' => by
      have h0 := r3scan_any (mkS (quoteL s.data.toList)) w' (by rw [mkS_size]; omega)
      rw [show scanA (mkS (quoteL s.data.toList)).data.toList 0 1 = _ from scan_quote (x := s.data.toList) (by omega)] at h0
      refine h0.mono ?_
      rintro e w'' ⟨⟨v, he, hown⟩, hb⟩
      obtain ⟨g, cap, hv, hc, hcell⟩ := one_tok hown
      rw [mkS_of] at hcell
      exact ⟨⟨g, cap, by rw [he, hv]; rfl, hc, hcell⟩, hb⟩
    obtain ⟨Q, hQ⟩ : ∃ Q, mkS (quoteL s.data.toList) = Q := ⟨_, rfl⟩
    rw [hQ] at HF HR HS
    clear hQ hl hsl hql
    go_enter Tryz.func7, Tryz.ntmps7
    go_wp2_with (first | (go_at_call 11; (with_reducible refine (HW.out _ (HT.out.later ?_)).mono ?_); (focus ((repeat' (first | (with_reducible exact Below.refl _ _) | (with_reducible assumption) | (with_reducible refine Below.alloc ?_ ?_ _) | (with_reducible refine below_drewN ?_ _) | (with_reducible refine Below.drew ?_) | (with_reducible refine Below.setCell ?_ ?_ _) | (with_reducible refine below_via (by assumption) ?_ ?_) | (with_reducible refine below_via (later_below _) ?_ ?_) | (with_reducible exact Nat.le_refl _) | omega | (simp; omega) | (simp; done))))); rintro e w9 ⟨rfl, hb9⟩) | (go_at_call 17; (with_reducible refine (lstr_any s _).mono ?_); rintro e w1 ⟨rfl, hb⟩; (refine mem hb ?_; intro N hN hz hc hf; (try simp at hN); subst hN)) | (go_at_call 15; (with_reducible refine (HF.out _ _ _ (one_val w1 _ _ _ _ rfl (Below.refl _ _)) (HT.out.later ?_)).mono ?_); (focus ((repeat' (first | (with_reducible exact Below.refl _ _) | (with_reducible assumption) | (with_reducible refine Below.alloc ?_ ?_ _) | (with_reducible refine below_drewN ?_ _) | (with_reducible refine Below.drew ?_) | (with_reducible refine Below.setCell ?_ ?_ _) | (with_reducible refine below_via (by assumption) ?_ ?_) | (with_reducible refine below_via (later_below _) ?_ ?_) | (with_reducible exact Nat.le_refl _) | omega | (simp; omega) | (simp; done))))); rintro e w2 ⟨rfl, hb⟩; (refine mem hb ?_; intro N hN hz hc hf; (try simp at hN); subst hN)) | (go_at_call 18; (with_reducible refine (HS.out _).mono ?_); rintro e w3 ⟨⟨g, cap, rfl, hcap, hcell⟩, hb⟩; have HC := Lib.hid hcell; (refine mem hb ?_; intro N hN hz hc hf; (try simp at hN); subst hN)) | (go_at_call 19; (with_reducible refine (HR.out _).mono ?_); rintro e w4 ⟨rfl, hb⟩; have hcell4 := (hb.cell (p := ⟨g, 1, none⟩) (cell_lt HC.out)).trans HC.out; (refine mem hb ?_; intro N hN hz hc hf; (try simp at hN); subst hN)))
    go_returns
    refine ⟨rfl, ?_⟩
    (repeat' (first | (with_reducible exact Below.refl _ _) | (with_reducible assumption) | (with_reducible refine Below.alloc ?_ ?_ _) | (with_reducible refine below_drewN ?_ _) | (with_reducible refine Below.drew ?_) | (with_reducible refine Below.setCell ?_ ?_ _) | (with_reducible refine below_via (by assumption) ?_ ?_) | (with_reducible refine below_via (later_below _) ?_ ?_) | (with_reducible exact Nat.le_refl _) | omega | (simp; omega) | (simp; done)))

set_option maxHeartbeats 8000000 in
set_option maxRecDepth 100000 in
theorem lifted (os : Os) (started : os.Started) (H : Type) (enc : TypeId × Value → H) :
    ReturnsInHanded {} Tryz.checked os 7 .any (fun w args => (Rows.formattingQuotesSpec.pre enc Tryz.prog Tryz.f7 Rows.formattingQuotesRow.domain false w args ∧ laidMetH Tryz.prog laidS w) ∧ sizedMet enc Tryz.prog Tryz.f7 (OpenSpec.ofChange Rows.formattingQuotesSpec) false w args) (Rows.formattingQuotesSpec.post enc Tryz.prog Tryz.f7 false true false false) := by
  refine returnsInHanded_of_change_and (C := Tryz.checked) (X := fun w _ => laidMetH Tryz.prog laidS w) (fun _ _ _ hh h => h.of_heap hh) own started (by kernel_rfl) Tryz.func7
    (ChangeSpec.witness_shaped (enc := enc) (C := Tryz.checked) (os := os) (X := fun w _ => laidMetH Tryz.prog laidS w) false (World.laidAll Tryz.prog os laidS) #[.string ⟨#[]⟩] 8 (World.laidAll_os _ _ _) (start_shaped os) (by kernel_rfl) (by kernel_rfl) (by kernel_rfl) (start_met os _)) ?_
  intro W base args ds gs before hval0 hW hcnd _ hL _
  have hT := laid_tabs hL
  have hval : ∀ (j : Nat) t v, Tryz.f7.params[j]? = some t → args[j]? = some v → Value.okWide Tryz.prog W .any base t v := hval0
  have hW' := hW
  obtain ⟨p, q, hA0, hV, rfl, hfz, hnd⟩ := hW
  have hA : DataW.TrodAll enc Tryz.prog W 0 (fun _ => true) true Tryz.f7.params.toList args.toList ds p := hA0
  rw [Tryz.params7] at hA hval
  obtain ⟨v0, vs0, d0, ds0, p0, q0, hargs, rfl, rfl, h0, r0⟩ := trodAll_cons hA
  obtain ⟨rfl, rfl, rfl⟩ := trodAll_nil r0
  obtain rfl : args = #[v0] := by cases args; simp_all
  obtain ⟨rfl, rfl⟩ := trodVars_none hV
  have k0 := h0
  have lt0 : ∀ x ∈ p0, x.block < W.heap.size := by obtain ⟨m, hm⟩ := k0; exact DataW.trod_lt m _ _ _ hm
  obtain ⟨s, rfl, -, -, ws⟩ := open_string Tryz.underlying9 (hval 0 9 v0 rfl rfl) h0
  clear hA0 hval0
  refine (walk s ws W hT).mono fun e W' ⟨he, bel⟩ => ?_
  subst he
  exact ⟨_, rfl, _, _, _, [], _, [], hW', trodAll_mk1 (shut_bool Tryz.underlying4 _), (trodAll_cons_mk (Below.trod laidOut (by kernel_rfl) (of_decide_eq_true (by kernel_rfl)) k0 bel lt0) trodAll_mk0), rfl, bel.frame _, fun h => by cases h⟩

theorem over : Rows.formattingQuotesRow.holds Tryz.pinned (OpenSpec.ofChange Rows.formattingQuotesSpec) :=
  OpenClaim.holds_of_wide 7 Tryz.f7 rfl rfl rfl rfl rfl rfl rfl ⟨rfl, rfl, rfl, rfl, rfl⟩ rfl rfl rfl rfl rfl (by kernel_rfl) Tryz.func7 (by kernel_rfl)
    (of_decide_eq_true (by kernel_rfl)) (by unfold Func.isWrapper; first | (rw [if_pos (by decide +kernel)]; kernel_rfl) | (rw [if_neg (by decide +kernel)]; exact ⟨rfl, rfl⟩))
    (fun os started H enc _ => lifted os started H enc)

/-- The given statement: the row, tied. -/
theorem proved : Rows.FormattingQuotesCardSaid :=
  Claim7.holds_tied_plain_at .later [] [.data, .data, .data, .data, .pinned, .pinned] true _ false over (fun _ h => by cases h) (by kernel_rfl) (fun _ h => by cases h) formattingQuotes_row_tie rfl ⟨rfl, rfl⟩ (by kernel_rfl) rfl
    (fun f fn hf hfn => by
      obtain rfl : f = 7 := Option.some.inj ((show Tryz.prog.funcNamed Rows.formattingQuotesRow.func = some 7 by kernel_rfl).symm.trans hf) |>.symm
      obtain rfl : fn = Tryz.f7 := (Option.some.inj (Tryz.func7.symm.trans hfn)).symm
      exact ⟨by kernel_rfl, fun j t ht => by
        rw [Tryz.params7] at ht
        have hm : t ∈ [9] := by simpa using Array.mem_of_getElem? ht
        have hall : ([9].all fun u => !Tryz.prog.wantsStandIn u) = true := by kernel_rfl
        exact (show Tryz.prog.wantsStandIn t = false by simpa using List.all_eq_true.1 hall t hm)⟩)
    (by kernel_rfl)
#print axioms proved
end Go.Proofs.YtemlijadhdejeaaGreatDoor.formattingQuotes
