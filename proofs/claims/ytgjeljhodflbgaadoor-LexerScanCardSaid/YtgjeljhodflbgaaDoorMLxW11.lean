/- The lexer's numerals. -/
import Derived.Test.YtgjeljhodflbgaaDoorMLxW9
import Derived.Test.YtgjeljhodflbgaaDoorMNumC
namespace Go.Proofs.YtgjeljhodflbgaaDoor
open Go.RowKit Go.Instr
set_option linter.unusedVariables false

theorem scan_at (s : ByteArray) (i : Nat) (hi : i ≤ s.size) : scanL s.data.toList i = ((scanL (s.data.toList.drop i) 0).1, (scanL (s.data.toList.drop i) 0).2.1, if (scanL (s.data.toList.drop i) 0).2.2.2 = 0 then (scanL (s.data.toList.drop i) 0).2.2.1 + i else (scanL (s.data.toList.drop i) 0).2.2.1, (scanL (s.data.toList.drop i) 0).2.2.2) := by
  have h := scan_shift (s.data.toList.take i) (s.data.toList.drop i)
  rw [List.take_append_drop] at h
  have hl : (s.data.toList.take i).length = i := by rw [List.length_take]; simp; omega
  rw [hl] at h
  exact h
/-- What the numeral at an index comes to, as the scanner sees it. -/
theorem scan_says (s : ByteArray) (i : Nat) (hi : i ≤ s.size) (hs : s.size ≤ 1000000000) : ∃ P Q K E : Int, (∀ w', Calls Tryd.prog 64 #[.string s, .int .i64 i] w' fun e w'' => e = .returned (.tuple #[.agg #[.int .i64 P, .int .i64 Q], .int .i64 K, .int .i64 E]) ∧ Below w'.heap.size w' w'') ∧
    (scanL (s.data.toList.drop i) 0).2.2.2 = E ∧ (E = 0 → ∃ k : Nat, (scanL (s.data.toList.drop i) 0).2.2.1 = k ∧ K = (i : Int) + (k : Int) ∧ 1 ≤ k ∧ i + k ≤ s.size) := by
  have h := scan_at s i hi
  have hsz : s.size ≤ 9223372036854775807 := by omega
  obtain ⟨sc, hsc⟩ : ∃ sc, scanL (s.data.toList.drop i) 0 = sc := ⟨_, rfl⟩
  have hok := fun h0 => scanL_ok (l := s.data.toList.drop i) h0
  rw [hsc] at h hok ⊢
  obtain ⟨P, Q, K0, E⟩ := sc
  dsimp only at h hok ⊢
  refine ⟨P, Q, if E = 0 then K0 + i else K0, E, fun w' => ?_, rfl, fun h0 => ?_⟩
  · have h1 := scan_any s i hsz w'
    rw [h] at h1
    exact h1
  · obtain ⟨f, -, h2, h3, h4, -⟩ := hok h0
    simp at h3
    exact ⟨f.end_, h4, by rw [if_pos h0, h4]; omega, h2, by omega⟩

set_option maxHeartbeats 8000000 in
set_option maxRecDepth 100000 in
theorem number_tok (X : Nat) (s : ByteArray) (i ln : Nat) (l : List Tk) (w : World) (hi : i < s.size) (hs : s.size ≤ 1000000000) (hn : l.length ≤ 1000000) (h : Sc w X s i ln l) :
    Calls Tryd.prog 48 #[.pointer (some ⟨X, 0, none⟩)] w fun e w' => e = .returned (.int .i64 (numberT (s.data.toList.drop i)).e) ∧ TokDid w' X s i ln l (numberT (s.data.toList.drop i)) ∧ Below X w w' := by
  have H := Lib.hid h
  obtain ⟨c0, c1, c2, f1, f2, f3⟩ := h.cells
  have hX := h.lt
  clear h
  obtain ⟨P, Q, K, E, hsays, hE, hok⟩ := scan_says s i (by omega) hs
  have HS := Lib.hid hsays
  clear hsays
  go_enter Tryd.func48, Tryd.ntmps48
  go_upto_region 1 with fail
  go_cut [4, 5] (fun k4 e5 wx => k4 = .int .i64 K ∧ e5 = .int .i64 E ∧ Hid (Below w.heap.size w wx))
  case first =>
    go_wp2_with fail
    go_region_with ((go_at_call 64; (with_reducible refine (HS.out _).mono ?_); rintro e wA ⟨rfl, hb⟩; (refine mem hb ?_; intro N hN hz hc hf; (try simp at hN); subst hN)))
    all_goals
      go_wp2_with fail
      go_meet
      refine ⟨rfl, rfl, ?_⟩
      show Below _ _ _
      (repeat' (first | (with_reducible exact Below.refl _ _) | (with_reducible assumption) | (with_reducible refine Below.alloc ?_ ?_ _) | (with_reducible refine Go.below_drewN ?_ _) | (with_reducible refine Below.drew ?_) | (with_reducible refine Below.setCell ?_ ?_ _) | (with_reducible refine below_via (by assumption) ?_ ?_) | (with_reducible refine below_via (later_below _) ?_ ?_) | (with_reducible exact Nat.le_refl _) | omega | (simp; omega) | (simp; done)))
  case rest =>
    obtain ⟨rfl, rfl, HB⟩ := hcut
    have HSc := Lib.hid (H.out.later HB.out)
    obtain ⟨d0, d1, d2, g1, g2, g3⟩ := HSc.out.cells
    have hsz := HB.out.size
    by_cases hE0 : E = 0
    · obtain ⟨k, hk, hK, hk1, hk2⟩ := hok hE0
      subst hE0
      subst hK
      have HN : Hid (numberT (s.data.toList.drop i) = if wordAt (s.data.toList.drop i) k then errR 4 else ⟨0, 3, (s.data.toList.drop i).take k, k⟩) := by show _ = _; unfold numberT; rw [if_pos hE, hk]; rfl
      have HX := Lib.hid (ext_take s i k hk2)
      have HA : Hid (∀ (w : World), Sc w X s i ln l → Calls Tryd.prog 63 #[.pointer (some ⟨X, 0, none⟩), .int .i64 3, .string (s.extract i (i + k)), .int .i64 ((i : Int) + (k : Int))] w fun e w' => e = .returned (.tuple #[]) ∧ Sc w' X s (i + k) ln (l ++ [⟨3, (s.extract i (i + k)).data.toList, ln, i⟩]) ∧ Below X w w') := fun w h => addTk_any X s (s.extract i (i + k)) i ln (i + k) 3 l w hn h
      have hin1 : (i : Int) ≤ (i : Int) + (k : Int) := by omega
      have hin2 : (i : Int) + (k : Int) ≤ (s.size : Int) := by omega
      have hin3 : ((i : Int) + (k : Int)).toNat = i + k := by omega
      clear hE hok hk
      by_cases hlt : i + k < s.size
      · obtain ⟨c, hc⟩ : ∃ c, s[i + k]'hlt = c := ⟨_, rfl⟩
        have hwa : wordAt (s.data.toList.drop i) k = wordB c := by
          have e : (s.data.toList.drop i)[k]? = some c := by
            rw [List.getElem?_drop, List.getElem?_eq_getElem (by simpa using hlt)]
            exact congrArg some hc
          unfold wordAt
          rw [e]
        have bl : decide ((i : Int) + (k : Int) < (s.size : Int)) = true := by simp; omega
        cases hwb : wordB c
        · have HT : Hid (numberT (s.data.toList.drop i) = ⟨0, 3, (s.data.toList.drop i).take k, k⟩) := by show _ = _; rw [HN.out, hwa, hwb]; rfl
          have HWB := Lib.hid hwb
          clear hwa hwb
          go_upto_region 4 with fail
          go_cut [38] (fun b38 wx => b38 = .bool false ∧ Hid (Below w.heap.size w wx))
          case first =>
            go_wp2_with fail
            go_region_with (first | (go_at_call 32; (with_reducible refine (wordBytes_any _).mono ?_); rintro e wA ⟨⟨v1, rfl, hv1⟩, hb⟩; obtain ⟨gA, lA, rfl, hgA, HVA⟩ := hv1.ask HWB.out; have hbA := Lib.hid hb; (refine mem hb ?_; intro N hN hz hc hf; (try simp at hN); subst hN)) | (go_at_fn gA; (with_reducible refine (HVA.out _ (by first | exact Below.refl _ _ | exact (Below.refl _ _).drew | (repeat' (first | (with_reducible exact Below.refl _ _) | (with_reducible assumption) | (with_reducible refine Below.alloc ?_ ?_ _) | (with_reducible refine Go.below_drewN ?_ _) | (with_reducible refine Below.drew ?_) | (with_reducible refine Below.setCell ?_ ?_ _) | (with_reducible refine below_via (by assumption) ?_ ?_) | (with_reducible refine below_via (later_below _) ?_ ?_) | (with_reducible exact Nat.le_refl _) | omega | (simp; omega) | (simp; done))))).mono ?_); rintro e wB ⟨rfl, hb⟩; have hbB := Lib.hid hb; (refine mem hb ?_; intro N hN hz hc hf; (try simp at hN); subst hN)))
            all_goals
              go_wp2_with fail
              go_meet
              refine ⟨rfl, ?_⟩
              have h1 := HB.out
              have h2 := hbA.out
              have h3 := hbB.out
              have h4 := h1.size
              have h5 := h2.size
              show Below _ _ _
              (repeat' (first | (with_reducible exact Below.refl _ _) | (with_reducible assumption) | (with_reducible refine Below.alloc ?_ ?_ _) | (with_reducible refine Go.below_drewN ?_ _) | (with_reducible refine Below.drew ?_) | (with_reducible refine Below.setCell ?_ ?_ _) | (with_reducible refine below_via (by assumption) ?_ ?_) | (with_reducible refine below_via (later_below _) ?_ ?_) | (with_reducible exact Nat.le_refl _) | omega | (simp; omega) | (simp; done)))
          case rest =>
            obtain ⟨rfl, HB2⟩ := hcut
            have HSc2 := Lib.hid (H.out.later HB2.out)
            clear d0 d1 d2 g1 g2 g3
            obtain ⟨d0, d1, d2, g1, g2, g3⟩ := HSc2.out.cells
            go_wp2_with fail
            go_region_with ((go_at_call 63; (with_reducible refine (HA.out _ (HSc2.out.later (by first | exact Below.refl _ _ | exact (Below.refl _ _).drew | (repeat' (first | (with_reducible exact Below.refl _ _) | (with_reducible assumption) | (with_reducible refine Below.alloc ?_ ?_ _) | (with_reducible refine Go.below_drewN ?_ _) | (with_reducible refine Below.drew ?_) | (with_reducible refine Below.setCell ?_ ?_ _) | (with_reducible refine below_via (by assumption) ?_ ?_) | (with_reducible refine below_via (later_below _) ?_ ?_) | (with_reducible exact Nat.le_refl _) | omega | (simp; omega) | (simp; done)))))).mono ?_); rintro e w9 ⟨rfl, hsc, hb9⟩))
            all_goals
              go_wp2_with fail
              go_returns
              refine ⟨by rw [HT.out]; rfl, TokDid.ok hsc (by rw [HT.out]) (by rw [HT.out, HX.out]) (by rw [HT.out]) (by rw [HT.out]), ?_⟩
              have h0 := HB2.out.mono (Nat.le_of_lt hX)
              refine Below.trans ?_ hb9
              (repeat' (first | (with_reducible exact Below.refl _ _) | (with_reducible assumption) | (with_reducible refine Below.alloc ?_ ?_ _) | (with_reducible refine Go.below_drewN ?_ _) | (with_reducible refine Below.drew ?_) | (with_reducible refine Below.setCell ?_ ?_ _) | (with_reducible refine below_via (by assumption) ?_ ?_) | (with_reducible refine below_via (later_below _) ?_ ?_) | (with_reducible exact Nat.le_refl _) | omega | (simp; omega) | (simp; done)))
        · have HT : Hid (numberT (s.data.toList.drop i) = errR 4) := by show _ = _; rw [HN.out, hwa, hwb]; rfl
          have HWB := Lib.hid hwb
          clear hwa hwb
          go_upto_region 4 with fail
          go_cut [38] (fun b38 wx => b38 = .bool true ∧ Hid (Below w.heap.size w wx))
          case first =>
            go_wp2_with fail
            go_region_with (first | (go_at_call 32; (with_reducible refine (wordBytes_any _).mono ?_); rintro e wA ⟨⟨v1, rfl, hv1⟩, hb⟩; obtain ⟨gA, lA, rfl, hgA, HVA⟩ := hv1.ask HWB.out; have hbA := Lib.hid hb; (refine mem hb ?_; intro N hN hz hc hf; (try simp at hN); subst hN)) | (go_at_fn gA; (with_reducible refine (HVA.out _ (by first | exact Below.refl _ _ | exact (Below.refl _ _).drew | (repeat' (first | (with_reducible exact Below.refl _ _) | (with_reducible assumption) | (with_reducible refine Below.alloc ?_ ?_ _) | (with_reducible refine Go.below_drewN ?_ _) | (with_reducible refine Below.drew ?_) | (with_reducible refine Below.setCell ?_ ?_ _) | (with_reducible refine below_via (by assumption) ?_ ?_) | (with_reducible refine below_via (later_below _) ?_ ?_) | (with_reducible exact Nat.le_refl _) | omega | (simp; omega) | (simp; done))))).mono ?_); rintro e wB ⟨rfl, hb⟩; have hbB := Lib.hid hb; (refine mem hb ?_; intro N hN hz hc hf; (try simp at hN); subst hN)))
            all_goals
              go_wp2_with fail
              go_meet
              refine ⟨rfl, ?_⟩
              have h1 := HB.out
              have h2 := hbA.out
              have h3 := hbB.out
              have h4 := h1.size
              have h5 := h2.size
              show Below _ _ _
              (repeat' (first | (with_reducible exact Below.refl _ _) | (with_reducible assumption) | (with_reducible refine Below.alloc ?_ ?_ _) | (with_reducible refine Go.below_drewN ?_ _) | (with_reducible refine Below.drew ?_) | (with_reducible refine Below.setCell ?_ ?_ _) | (with_reducible refine below_via (by assumption) ?_ ?_) | (with_reducible refine below_via (later_below _) ?_ ?_) | (with_reducible exact Nat.le_refl _) | omega | (simp; omega) | (simp; done)))
          case rest =>
            obtain ⟨rfl, HB2⟩ := hcut
            have HSc2 := Lib.hid (H.out.later HB2.out)
            clear d0 d1 d2 g1 g2 g3
            obtain ⟨d0, d1, d2, g1, g2, g3⟩ := HSc2.out.cells
            go_wp2_with fail
            go_returns
            exact ⟨by rw [HT.out]; rfl, TokDid.err HSc2.out (by rw [HT.out]; decide), HB2.out.mono (Nat.le_of_lt hX)⟩
      · have hend : i + k = s.size := by omega
        have hwa : wordAt (s.data.toList.drop i) k = false := by
          have e : (s.data.toList.drop i)[k]? = none := List.getElem?_eq_none (by simp; omega)
          unfold wordAt
          rw [e]
        have HT : Hid (numberT (s.data.toList.drop i) = ⟨0, 3, (s.data.toList.drop i).take k, k⟩) := by show _ = _; rw [HN.out, hwa]; rfl
        have bl : decide ((i : Int) + (k : Int) < (s.size : Int)) = false := by simp; omega
        clear hwa hend
        have HB2 := HB
        have HSc2 := HSc
        go_wp2_with fail
        go_quiet (fail)
        go_wp2_with fail
        go_region_with ((go_at_call 63; (with_reducible refine (HA.out _ (HSc2.out.later (by first | exact Below.refl _ _ | exact (Below.refl _ _).drew | (repeat' (first | (with_reducible exact Below.refl _ _) | (with_reducible assumption) | (with_reducible refine Below.alloc ?_ ?_ _) | (with_reducible refine Go.below_drewN ?_ _) | (with_reducible refine Below.drew ?_) | (with_reducible refine Below.setCell ?_ ?_ _) | (with_reducible refine below_via (by assumption) ?_ ?_) | (with_reducible refine below_via (later_below _) ?_ ?_) | (with_reducible exact Nat.le_refl _) | omega | (simp; omega) | (simp; done)))))).mono ?_); rintro e w9 ⟨rfl, hsc, hb9⟩))
        all_goals
          go_wp2_with fail
          go_returns
          refine ⟨by rw [HT.out]; rfl, TokDid.ok hsc (by rw [HT.out]) (by rw [HT.out, HX.out]) (by rw [HT.out]) (by rw [HT.out]), ?_⟩
          have h0 := HB2.out.mono (Nat.le_of_lt hX)
          refine Below.trans ?_ hb9
          (repeat' (first | (with_reducible exact Below.refl _ _) | (with_reducible assumption) | (with_reducible refine Below.alloc ?_ ?_ _) | (with_reducible refine Go.below_drewN ?_ _) | (with_reducible refine Below.drew ?_) | (with_reducible refine Below.setCell ?_ ?_ _) | (with_reducible refine below_via (by assumption) ?_ ?_) | (with_reducible refine below_via (later_below _) ?_ ?_) | (with_reducible exact Nat.le_refl _) | omega | (simp; omega) | (simp; done)))
    · have HT : Hid (numberT (s.data.toList.drop i) = errR E) := by show _ = _; unfold numberT; rw [if_neg (by rw [hE]; exact hE0), hE]
      have HE0 := Lib.hid hE0
      have bE : (E != 0) = true := by simp; exact hE0
      clear hE hok hE0
      go_wp2
      go_returns
      exact ⟨by rw [HT.out]; rfl, TokDid.err HSc.out (by rw [HT.out]; exact HE0.out), HB.out.mono (Nat.le_of_lt hX)⟩
end Go.Proofs.YtgjeljhodflbgaaDoor
