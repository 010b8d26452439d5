/- The lexer's token; Scan. -/
import Derived.Test.YtgjeljhodflbgaaDoorMLxW10
import Derived.Test.YtgjeljhodflbgaaDoorMLxW11
import Derived.Test.YtgjeljhodflbgaaDoorMLxW12
import Derived.Test.YtgjeljhodflbgaaDoorMLxP
namespace Go.Proofs.YtgjeljhodflbgaaDoor
open Go.RowKit Go.Instr
set_option linter.unusedVariables false

theorem TokDid.ln {w : World} {X : Nat} {s : ByteArray} {i ln : Nat} {l : List Tk} {t t' : TokR} (h : TokDid w X s i ln l t) (e : t = t') : TokDid w X s i ln l t' := e ▸ h
set_option maxHeartbeats 8000000 in
set_option maxRecDepth 100000 in
theorem token_any (X : Nat) (s : ByteArray) (i ln : Nat) (l : List Tk) (w : World) (hi : i < s.size) (hs : s.size ≤ 1000000000) (hn : l.length ≤ 1000000) (h : Sc w X s i ln l) (hT : Tabs w) :
    Calls Tryd.prog 27 #[.pointer (some ⟨X, 0, none⟩)] w fun e w' => e = .returned (.int .i64 (tokT (s.data.toList.drop i)).e) ∧ TokDid w' X s i ln l (tokT (s.data.toList.drop i)) ∧ Below X w w' := by
  have H := Lib.hid h
  have HT := Lib.hid hT
  obtain ⟨c0, c1, c2, f1, f2, f3⟩ := h.cells
  have hX := h.lt
  clear h hT
  obtain ⟨c, hc⟩ : ∃ c, s[i]'hi = c := ⟨_, rfl⟩
  have hdr := drop_get s i hi
  rw [hc] at hdr
  have htok : tokT (s.data.toList.drop i) = if letB c then wordT (s.data.toList.drop i) else if digB c then numberT (s.data.toList.drop i) else if c.toNat = 39 ∨ c.toNat = 34 then stringT c (s.data.toList.drop (i + 1)) else symbolT (s.data.toList.drop i) := by
    rw [hdr]; rfl
  have HI := Lib.hid initials_any
  have HD := Lib.hid digits_any
  clear hdr
  cases hl : letB c
  · have HL := Lib.hid hl
    rw [hl] at htok
    clear hl
    cases hd : digB c
    · have HDg := Lib.hid hd
      rw [hd] at htok
      clear hd
      by_cases hq : c.toNat = 39 ∨ c.toNat = 34
      · have HTK : Hid (tokT (s.data.toList.drop i) = stringT c (s.data.toList.drop (i + 1))) := by show _ = _; rw [htok]; simp [hq]
        have HW : Hid (∀ w', Sc w' X s i ln l → Calls Tryd.prog 49 #[.pointer (some ⟨X, 0, none⟩)] w' fun e w'' => e = .returned (.int .i64 (stringT c (s.data.toList.drop (i + 1))).e) ∧ TokDid w'' X s i ln l (stringT c (s.data.toList.drop (i + 1))) ∧ Below X w' w'') := fun w' h => by
          have h0 := str_any X s i ln l w' hi hs hn (by rw [hc]; omega) h
          rw [hc] at h0
          exact h0
        obtain ⟨Q1, hQ1⟩ : ∃ Q, ((c.toNat : Int) == 39) = Q := ⟨_, rfl⟩
        obtain ⟨Q2, hQ2⟩ : ∃ Q, ((c.toNat : Int) == 34) = Q := ⟨_, rfl⟩
        have hall : Q1 = true ∨ (Q1 = false ∧ Q2 = true) := by
          rw [← hQ1, ← hQ2]
          simp only [beq_iff_eq, beq_eq_false_iff_ne, ne_eq]
          omega
        clear htok hq
        rcases hall with rfl | ⟨rfl, rfl⟩
        all_goals
          go_enter Tryd.func27, Tryd.ntmps27
          go_wp2
          go_quiet (fail)
          go_wp2_with fail
          refine (HI.out _).mono ?_
          rintro e w1 ⟨⟨v1, rfl, hv1⟩, hb1⟩
          obtain ⟨g1, lb1, rfl, hg1, HV1⟩ := hv1.ask HL.out
          have B1 : Hid (Below w.heap.size w w1) := by
            show Below _ _ _
            have h0 : Below w.heap.size w w1 := by
              refine Below.trans ?_ (hb1.mono (by simp))
              (repeat' (first | (with_reducible exact Below.refl _ _) | (with_reducible assumption) | (with_reducible refine Below.alloc ?_ ?_ _) | (with_reducible refine Go.below_drewN ?_ _) | (with_reducible refine Below.drew ?_) | (with_reducible refine Below.setCell ?_ ?_ _) | (with_reducible refine below_via (by assumption) ?_ ?_) | (with_reducible refine below_via (later_below _) ?_ ?_) | (with_reducible exact Nat.le_refl _) | omega | (simp; omega) | (simp; done)))
            exact h0
          clear hb1
          go_wp2_with (go_at_fn g1; (with_reducible refine (HV1.out _ (Below.refl _ _)).mono ?_); rintro e w2 ⟨rfl, hb2⟩)
          have B2 : Hid (Below w.heap.size w w2) := B1.out.trans (hb2.mono B1.out.size)
          clear hb2 HV1 hv1 hg1 B1
          refine (HD.out _).mono ?_
          rintro e w3 ⟨⟨v3, rfl, hv3⟩, hb3⟩
          obtain ⟨g3, lb3, rfl, hg3, HV3⟩ := hv3.ask HDg.out
          have B3 : Hid (Below w.heap.size w w3) := B2.out.trans (hb3.mono B2.out.size)
          clear hb3
          go_wp2_with (go_at_fn g3; (with_reducible refine (HV3.out _ (Below.refl _ _)).mono ?_); rintro e w4 ⟨rfl, hb4⟩)
          have B4 : Hid (Below w.heap.size w w4) := B3.out.trans (hb4.mono B3.out.size)
          clear hb4 HV3 hv3 hg3 B3
          go_wp2_with (first | (go_at_call 49; (with_reducible refine (HW.out _ (H.out.later B4.out)).mono ?_); rintro e w9 ⟨rfl, hdid, hb9⟩))
          go_returns
          exact ⟨by rw [HTK.out]; rfl, hdid.ln HTK.out.symm, (B4.out.mono (Nat.le_of_lt hX)).trans hb9⟩
      · have HTK : Hid (tokT (s.data.toList.drop i) = symbolT (s.data.toList.drop i)) := by show _ = _; rw [htok]; simp [hq]
        have HW := Lib.hid (fun w' h hT => symbol_tok X s i ln l w' hi hs hn h hT)
        have b39 : ((c.toNat : Int) == 39) = false := by simp; omega
        have b34 : ((c.toNat : Int) == 34) = false := by simp; omega
        clear htok hq
        go_enter Tryd.func27, Tryd.ntmps27
        go_wp2
        go_quiet (fail)
        go_wp2_with fail
        refine (HI.out _).mono ?_
        rintro e w1 ⟨⟨v1, rfl, hv1⟩, hb1⟩
        obtain ⟨g1, lb1, rfl, hg1, HV1⟩ := hv1.ask HL.out
        have B1 : Hid (Below w.heap.size w w1) := by
          show Below _ _ _
          have h0 : Below w.heap.size w w1 := by
            refine Below.trans ?_ (hb1.mono (by simp))
            (repeat' (first | (with_reducible exact Below.refl _ _) | (with_reducible assumption) | (with_reducible refine Below.alloc ?_ ?_ _) | (with_reducible refine Go.below_drewN ?_ _) | (with_reducible refine Below.drew ?_) | (with_reducible refine Below.setCell ?_ ?_ _) | (with_reducible refine below_via (by assumption) ?_ ?_) | (with_reducible refine below_via (later_below _) ?_ ?_) | (with_reducible exact Nat.le_refl _) | omega | (simp; omega) | (simp; done)))
          exact h0
        clear hb1
        go_wp2_with (go_at_fn g1; (with_reducible refine (HV1.out _ (Below.refl _ _)).mono ?_); rintro e w2 ⟨rfl, hb2⟩)
        have B2 : Hid (Below w.heap.size w w2) := B1.out.trans (hb2.mono B1.out.size)
        clear hb2 HV1 hv1 hg1 B1
        refine (HD.out _).mono ?_
        rintro e w3 ⟨⟨v3, rfl, hv3⟩, hb3⟩
        obtain ⟨g3, lb3, rfl, hg3, HV3⟩ := hv3.ask HDg.out
        have B3 : Hid (Below w.heap.size w w3) := B2.out.trans (hb3.mono B2.out.size)
        clear hb3
        go_wp2_with (go_at_fn g3; (with_reducible refine (HV3.out _ (Below.refl _ _)).mono ?_); rintro e w4 ⟨rfl, hb4⟩)
        have B4 : Hid (Below w.heap.size w w4) := B3.out.trans (hb4.mono B3.out.size)
        clear hb4 HV3 hv3 hg3 B3
        go_wp2_with (first | (go_at_call 50; (with_reducible refine (HW.out _ (H.out.later B4.out) (HT.out.later B4.out)).mono ?_); rintro e w9 ⟨rfl, hdid, hb9⟩))
        go_returns
        exact ⟨by rw [HTK.out]; rfl, hdid.ln HTK.out.symm, (B4.out.mono (Nat.le_of_lt hX)).trans hb9⟩
    · have HDg := Lib.hid hd
      rw [hd] at htok
      clear hd
      have HTK : Hid (tokT (s.data.toList.drop i) = numberT (s.data.toList.drop i)) := by show _ = _; rw [htok]; simp
      have HW := Lib.hid (fun w' h => number_tok X s i ln l w' hi hs hn h)
      clear htok
      go_enter Tryd.func27, Tryd.ntmps27
      go_wp2
      go_quiet (fail)
      go_wp2_with fail
      refine (HI.out _).mono ?_
      rintro e w1 ⟨⟨v1, rfl, hv1⟩, hb1⟩
      obtain ⟨g1, lb1, rfl, hg1, HV1⟩ := hv1.ask HL.out
      have B1 : Hid (Below w.heap.size w w1) := by
        show Below _ _ _
        have h0 : Below w.heap.size w w1 := by
          refine Below.trans ?_ (hb1.mono (by simp))
          (repeat' (first | (with_reducible exact Below.refl _ _) | (with_reducible assumption) | (with_reducible refine Below.alloc ?_ ?_ _) | (with_reducible refine Go.below_drewN ?_ _) | (with_reducible refine Below.drew ?_) | (with_reducible refine Below.setCell ?_ ?_ _) | (with_reducible refine below_via (by assumption) ?_ ?_) | (with_reducible refine below_via (later_below _) ?_ ?_) | (with_reducible exact Nat.le_refl _) | omega | (simp; omega) | (simp; done)))
        exact h0
      clear hb1
      go_wp2_with (go_at_fn g1; (with_reducible refine (HV1.out _ (Below.refl _ _)).mono ?_); rintro e w2 ⟨rfl, hb2⟩)
      have B2 : Hid (Below w.heap.size w w2) := B1.out.trans (hb2.mono B1.out.size)
      clear hb2 HV1 hv1 hg1 B1
      refine (HD.out _).mono ?_
      rintro e w3 ⟨⟨v3, rfl, hv3⟩, hb3⟩
      obtain ⟨g3, lb3, rfl, hg3, HV3⟩ := hv3.ask HDg.out
      have B3 : Hid (Below w.heap.size w w3) := B2.out.trans (hb3.mono B2.out.size)
      clear hb3
      go_wp2_with (go_at_fn g3; (with_reducible refine (HV3.out _ (Below.refl _ _)).mono ?_); rintro e w4 ⟨rfl, hb4⟩)
      have B4 : Hid (Below w.heap.size w w4) := B3.out.trans (hb4.mono B3.out.size)
      clear hb4 HV3 hv3 hg3 B3
      go_wp2_with (first | (go_at_call 48; (with_reducible refine (HW.out _ (H.out.later B4.out)).mono ?_); rintro e w9 ⟨rfl, hdid, hb9⟩))
      go_returns
      exact ⟨by rw [HTK.out]; rfl, hdid.ln HTK.out.symm, (B4.out.mono (Nat.le_of_lt hX)).trans hb9⟩
  · have HL := Lib.hid hl
    rw [hl] at htok
    clear hl
    have HTK : Hid (tokT (s.data.toList.drop i) = wordT (s.data.toList.drop i)) := by show _ = _; rw [htok]; simp
    have HW := Lib.hid (fun w' h => word_any X s i ln l w' hi hs hn h)
    clear htok
    go_enter Tryd.func27, Tryd.ntmps27
    go_wp2
    go_quiet (fail)
    go_wp2_with fail
    refine (HI.out _).mono ?_
    rintro e w1 ⟨⟨v1, rfl, hv1⟩, hb1⟩
    obtain ⟨g1, lb1, rfl, hg1, HV1⟩ := hv1.ask HL.out
    have B1 : Hid (Below w.heap.size w w1) := by
      show Below _ _ _
      have h0 : Below w.heap.size w w1 := by
        refine Below.trans ?_ (hb1.mono (by simp))
        (repeat' (first | (with_reducible exact Below.refl _ _) | (with_reducible assumption) | (with_reducible refine Below.alloc ?_ ?_ _) | (with_reducible refine Go.below_drewN ?_ _) | (with_reducible refine Below.drew ?_) | (with_reducible refine Below.setCell ?_ ?_ _) | (with_reducible refine below_via (by assumption) ?_ ?_) | (with_reducible refine below_via (later_below _) ?_ ?_) | (with_reducible exact Nat.le_refl _) | omega | (simp; omega) | (simp; done)))
      exact h0
    clear hb1
    go_wp2_with (go_at_fn g1; (with_reducible refine (HV1.out _ (Below.refl _ _)).mono ?_); rintro e w2 ⟨rfl, hb2⟩)
    have B2 : Hid (Below w.heap.size w w2) := B1.out.trans (hb2.mono B1.out.size)
    clear hb2 HV1 hv1 hg1 B1
    go_wp2_with (first | (go_at_call 46; (with_reducible refine (HW.out _ (H.out.later B2.out)).mono ?_); rintro e w9 ⟨rfl, hdid, hb9⟩))
    go_returns
    exact ⟨by rw [HTK.out]; rfl, hdid.ln HTK.out.symm, (B2.out.mono (Nat.le_of_lt hX)).trans hb9⟩
end Go.Proofs.YtgjeljhodflbgaaDoor

/- The lexer's Scan. -/
namespace Go.Proofs.YtgjeljhodflbgaaDoor
open Go.RowKit Go.Instr
set_option linter.unusedVariables false

/-- Tokens that are read, ahead of what is to come. -/
def apA (l : List Tk) (x : List Tk × Nat × Int) : List Tk × Nat × Int := if x.2.2 = 0 then (l ++ x.1, 0, 0) else ([], x.2.1, x.2.2)
theorem apA_scP (l : List Tk) (t : Tk) (x : List Tk × Nat × Int) : apA l (scP t x) = apA (l ++ [t]) x := by
  unfold apA scP
  by_cases h : x.2.2 = 0 <;> simp [h]
theorem apA_nil (x : List Tk × Nat × Int) (h : x.2.2 = 0 ∧ x.2.1 = 0 ∨ x.2.2 ≠ 0 ∧ x.1 = []) : apA [] x = x := by
  obtain ⟨a, b, c⟩ := x
  unfold apA
  simp only [] at h ⊢
  by_cases h0 : c = 0
  · simp [h0] at h ⊢; first | exact h.symm | exact h
  · simp [h0] at h ⊢; first | exact h.symm | exact h
theorem gap_cnt (l : List UInt8) : (gapN l).2 ≤ (gapN l).1 := by
  have h1 := gapN_count l.length l (Nat.le_refl _)
  have h2 : nlN (l.take (gapN l).1) ≤ (l.take (gapN l).1).length := List.count_le_length
  have h3 : (l.take (gapN l).1).length ≤ (gapN l).1 := by rw [List.length_take]; omega
  omega
section
variable {s : ByteArray} {j m : Nat}
theorem at_gap : (s.data.toList.drop j).drop (gapN (s.data.toList.drop j)).1 = s.data.toList.drop (gapI s j) := by unfold gapI; rw [List.drop_drop]
theorem scan_done (h : s.size ≤ gapI s j) : scanA (s.data.toList.drop j) j m = ([], 0, 0) := scanA_nil (by rw [at_gap]; exact List.drop_eq_nil_of_le (by simpa using h))
theorem ne_gap (h : gapI s j < s.size) : (s.data.toList.drop j).drop (gapN (s.data.toList.drop j)).1 ≠ [] := by
  rw [at_gap]
  intro e
  have := List.drop_eq_nil_iff.1 e
  simp at this
  omega
theorem scan_bad (h : gapI s j < s.size) (he : (tokT (s.data.toList.drop (gapI s j))).e ≠ 0) : scanA (s.data.toList.drop j) j m = ([], gapL s j m, (tokT (s.data.toList.drop (gapI s j))).e) := by
  have := scanA_err (i := j) (ln := m) (ne_gap h) (by rw [at_gap]; exact he)
  rw [at_gap] at this
  exact this
theorem scan_good (h : gapI s j < s.size) (he : (tokT (s.data.toList.drop (gapI s j))).e = 0) :
    scanA (s.data.toList.drop j) j m = scP ⟨(tokT (s.data.toList.drop (gapI s j))).k, (tokT (s.data.toList.drop (gapI s j))).x, gapL s j m, gapI s j⟩ (scanA (s.data.toList.drop (gapI s j + (tokT (s.data.toList.drop (gapI s j))).n)) (gapI s j + (tokT (s.data.toList.drop (gapI s j))).n) (gapL s j m)) := by
  have := scanA_tok (i := j) (ln := m) (ne_gap h) (by rw [at_gap]; exact he)
  rw [at_gap, List.drop_drop] at this
  exact this
end

theorem ownsRow_base {w : World} {b b' : Nat} {e : TypeId} {size : Nat} {v : Value} {n : Nat} {xs : List Value} (h : w.ownsRow b e size v n xs) (hb : b' ≤ b) : w.ownsRow b' e size v n xs := by
  obtain ⟨h1, h2 | ⟨g, cap, cur, hv, hg, rest⟩⟩ := h
  · exact ⟨h1, .inl h2⟩
  · exact ⟨h1, .inr ⟨g, cap, cur, hv, Nat.le_trans hb hg, rest⟩⟩
set_option maxHeartbeats 8000000 in
set_option maxRecDepth 100000 in
theorem scan_prog (s : ByteArray) (w : World) (hs : s.size ≤ 65536) (hT : Tabs w) :
    Calls Tryd.prog 12 #[.string s] w fun e w' => (∃ v, e = .returned (.tuple #[v, .int .i64 (scanA s.data.toList 0 1).2.1, .int .i64 (scanA s.data.toList 0 1).2.2]) ∧ w'.ownsRow w.heap.size 30 4 v (scanA s.data.toList 0 1).1.length (flatTk (scanA s.data.toList 0 1).1)) ∧ Below w.heap.size w w' := by
  have HT := Lib.hid hT
  clear hT
  obtain ⟨R, hR⟩ : ∃ R, scanA s.data.toList 0 1 = R := ⟨_, rfl⟩
  have HR := Lib.hid hR
  have hform := scanA_form s.data.toList 0 1
  rw [hR] at hform ⊢
  have HF := Lib.hid hform
  clear hR hform
  have HSK : Hid (∀ w' j m l, j ≤ s.size → m ≤ 100000 → Sc w' w.heap.size s j m l → Calls Tryd.prog 26 #[.pointer (some ⟨w.heap.size, 0, none⟩)] w' fun e w'' => e = .returned (.tuple #[]) ∧ Sc w'' w.heap.size s (gapI s j) (gapL s j m) l ∧ Below w.heap.size w' w'') := fun w' j m l h1 h2 h3 => skip_any _ s j m l w' h1 (by omega) (by omega) h3
  have HTK : Hid (∀ w' j m l, j < s.size → l.length ≤ 100000 → Sc w' w.heap.size s j m l → Tabs w' → Calls Tryd.prog 27 #[.pointer (some ⟨w.heap.size, 0, none⟩)] w' fun e w'' => e = .returned (.int .i64 (tokT (s.data.toList.drop j)).e) ∧ TokDid w'' w.heap.size s j m l (tokT (s.data.toList.drop j)) ∧ Below w.heap.size w' w'') := fun w' j m l h1 h2 h3 h4 => token_any _ s j m l w' h1 (by omega) (by omega) h3 h4
  have hs0 : ¬ (65536 : Int) < (s.size : Int) := by omega
  go_enter Tryd.func12, Tryd.ntmps12
  go_wp2_with fail
  have hsc0 : Sc (w.alloc (.cells #[.string s, .int .i64 0, .int .i64 1, .slice none 0 0] 40)) w.heap.size s 0 1 [] := ⟨.slice none 0 0, _, heap_alloc_new w _, World.ownsRow_nil _ _ _ _⟩
  refine (HSK.out _ 0 1 [] (Nat.zero_le _) (by omega) hsc0).mono ?_
  clear hsc0
  rintro e w1 ⟨rfl, hsc, hb⟩
  have HS := Lib.hid hsc
  have HB : Hid (Below w.heap.size w w1) := ((Below.refl _ _).alloc (Nat.le_refl _) _).trans hb
  clear hsc hb
  have HR0 : Hid (R = apA [] (scanA (s.data.toList.drop 0) 0 1)) := by
    show _ = _
    rw [List.drop_zero, HR.out, apA_nil _ HF.out]
  go_wp2_with fail
  go_loopg [6] s.size (fun gk e wr => ∃ (j m : Nat) (l : List Tk), j ≤ s.size ∧ gk = s.size - j ∧ m ≤ 1 + j ∧ l.length ≤ j ∧ Hid (Sc wr w.heap.size s (gapI s j) (gapL s j m) l) ∧ Hid (R = apA l (scanA (s.data.toList.drop j) j m)) ∧ Hid (Below w.heap.size w wr))
  case atStart => exact ⟨0, 1, [], Nat.zero_le _, rfl, by omega, Nat.le_refl _, HS.out, HR0.out, HB.out⟩
  case round =>
    obtain ⟨j, m, l, hj, rfl, hm, hll, HS2, HE, HB2⟩ := hrel
    obtain ⟨c0, c1, c2, f1, f2, f3⟩ := HS2.out.cells
    obtain ⟨hp1, hp2⟩ := gapI_le s j hj
    have hgl : gapL s j m ≤ m + (gapI s j - j) := by
      have := gap_cnt (s.data.toList.drop j)
      unfold gapL gapI
      omega
    by_cases hlt : gapI s j < s.size
    · by_cases he : (tokT (s.data.toList.drop (gapI s j))).e = 0
      · have hgood := scan_good (m := m) hlt he
        have hok := tokT_ok he
        have HK := Lib.hid (fun w' h => HTK.out w' (gapI s j) (gapL s j m) l hlt (by omega) h)
        obtain ⟨hn1, hn2, -⟩ := hok
        simp at hn2
        obtain ⟨tk, htk⟩ : ∃ tk, tokT (s.data.toList.drop (gapI s j)) = tk := ⟨_, rfl⟩
        rw [htk] at hgood he hn1 hn2 HK
        clear htk
        have HE2 : Hid (R = apA (l ++ [⟨tk.k, tk.x, gapL s j m, gapI s j⟩]) (scanA (s.data.toList.drop (gapI s j + tk.n)) (gapI s j + tk.n) (gapL s j m))) := by
          show _ = _
          rw [HE.out, hgood, apA_scP]
        have HE0 := Lib.hid he
        have be : (tk.e != 0) = false := by rw [he]; rfl
        obtain ⟨p, hp⟩ : ∃ p, gapI s j = p := ⟨_, rfl⟩
        obtain ⟨L, hL⟩ : ∃ L, gapL s j m = L := ⟨_, rfl⟩
        rw [hp, hL] at HE2 HK HS2
        rw [hp] at hlt hp1 hn2 c1 hgl
        rw [hL] at c2 hgl
        clear hgood he hp hL hp2
        go_wp2_with fail
        refine (HK.out _ HS2.out (HT.out.later HB2.out)).mono ?_
        rintro e w2 ⟨rfl, hdid, hb2⟩
        have HS3 := Lib.hid (hdid.1 HE0.out)
        have HB3 : Hid (Below w.heap.size w w2) := HB2.out.trans hb2
        clear hdid hb2
        go_wp2_with fail
        refine (HSK.out _ (p + tk.n) L (l ++ [⟨tk.k, tk.x, L, p⟩]) (by omega) (by omega) HS3.out).mono ?_
        rintro e w3 ⟨rfl, hsc3, hb3⟩
        have HS4 := Lib.hid hsc3
        have HB4 : Hid (Below w.heap.size w w3) := HB3.out.trans hb3
        clear hsc3 hb3
        go_wp2_with fail
        go_roundg (s.size - (p + tk.n))
        case measure => omega
        case rel => exact ⟨p + tk.n, L, _, by omega, rfl, by omega, by simp; omega, HS4.out, HE2.out, HB4.out⟩
      · have hbad := scan_bad (m := m) hlt he
        have HK := Lib.hid (fun w' h => HTK.out w' (gapI s j) (gapL s j m) l hlt (by omega) h)
        obtain ⟨tk, htk⟩ : ∃ tk, tokT (s.data.toList.drop (gapI s j)) = tk := ⟨_, rfl⟩
        rw [htk] at hbad he HK
        clear htk
        obtain ⟨p, hp⟩ : ∃ p, gapI s j = p := ⟨_, rfl⟩
        obtain ⟨L, hL⟩ : ∃ L, gapL s j m = L := ⟨_, rfl⟩
        rw [hp, hL] at HK HS2
        rw [hL] at hbad
        have HRE : Hid (R = ([], L, tk.e)) := by
          show _ = _
          rw [HE.out, hbad]
          unfold apA
          rw [if_neg he]
        rw [hp] at hlt hp1 c1 hgl
        rw [hL] at c2 hgl
        have HE0 := Lib.hid he
        have be : (tk.e != 0) = true := by simp; exact he
        clear hbad he hp hL hp2
        go_wp2_with fail
        refine (HK.out _ HS2.out (HT.out.later HB2.out)).mono ?_
        rintro e w2 ⟨rfl, hdid, hb2⟩
        have HS3 := Lib.hid (hdid.2 HE0.out)
        have HB3 : Hid (Below w.heap.size w w2) := HB2.out.trans hb2
        clear hdid hb2
        obtain ⟨d0, d1, d2, g1, g2, g3⟩ := HS3.out.cells
        go_wp2_with fail
        go_quiet (fail)
        go_wp2_with fail
        go_returns
        refine ⟨⟨.slice none 0 0, by rw [HRE.out]; rfl, ?_⟩, ?_⟩
        · rw [HRE.out]; exact World.ownsRow_nil _ _ _ _
        · have h0 := HB3.out
          (repeat' (first | (with_reducible exact Below.refl _ _) | (with_reducible assumption) | (with_reducible refine Below.alloc ?_ ?_ _) | (with_reducible refine Go.below_drewN ?_ _) | (with_reducible refine Below.drew ?_) | (with_reducible refine Below.setCell ?_ ?_ _) | (with_reducible refine below_via (by assumption) ?_ ?_) | (with_reducible refine below_via (later_below _) ?_ ?_) | (with_reducible exact Nat.le_refl _) | omega | (simp; omega) | (simp; done)))
    · have hdone := scan_done (m := m) (Nat.le_of_not_lt hlt)
      have HRE : Hid (R = (l, 0, 0)) := by
        show _ = _
        rw [HE.out, hdone]
        unfold apA
        simp
      obtain ⟨v, T, hblk, hown⟩ := HS2.out
      have c3 : wr.cell? ⟨w.heap.size, 3, none⟩ = some v := cell_of_row wr w.heap.size 3 _ T (0, 0) hblk
      have HO := Lib.hid hown
      clear hdone hblk hown
      go_wp2_with fail
      go_returns
      refine ⟨⟨v, by rw [HRE.out]; rfl, ?_⟩, HB2.out⟩
      rw [HRE.out]
      exact ownsRow_base HO.out (Nat.le_succ _)
end Go.Proofs.YtgjeljhodflbgaaDoor
