/- The lexer's symbols. -/
import Derived.Test.YtgjeljhodflbgaaDoorMLxC
namespace Go.Proofs.YtgjeljhodflbgaaDoor
open Go.RowKit Go.Instr
set_option linter.unusedVariables false

/-- The text of all symbols. -/
abbrev symS : ByteArray := ⟨#[46, 46, 46, 32, 47, 47, 32, 60, 60, 32, 62, 62, 32, 61, 61, 32, 126, 61, 32, 60, 61, 32, 62, 61, 32, 58, 58, 32, 46, 46, 32, 43, 32, 45, 32, 42, 32, 47, 32, 37, 32, 94, 32, 35, 32, 38, 32, 124, 32, 126, 32, 60, 32, 62, 32, 61, 32, 40, 32, 41, 32, 123, 32, 125, 32, 91, 32, 93, 32, 59, 32, 58, 32, 44, 32, 46]⟩
theorem syms_fields : Lib.fields symS.data.toList = syms := by decide +kernel
theorem symS_ascii : ∀ (j : Nat) b, symS.data.toList[j]? = some b → b.toNat < 128 := by
  have : ∀ b ∈ symS.data.toList, b.toNat < 128 := by decide +kernel
  intro j b h
  exact this b (List.mem_of_getElem? h)
/-- The symbols' cells. -/
def symCells : Array Value := (syms.map fun l => Value.string ⟨l.toArray⟩).toArray
theorem symCells_at (j : Nat) (h : j < syms.length) : symCells[j]? = some (.string (mkS syms[j])) := by
  unfold symCells
  simp [h, mkS]
theorem fields_says (w : World) (hT : Tabs w) : Calls Tryd.prog 66 #[.string symS] w fun e w' => e = .returned (.slice (some ⟨w.heap.size, 0, none⟩) 33 33) ∧ w' = w.alloc (.cells symCells 9) := by
  have h := Tryd.strings_Fields_laid symS w (by decide) symS_ascii hT
  rw [syms_fields] at h
  exact h
theorem sym_find {r sy : List UInt8} {j : Nat} (h : j < syms.length) (hsy : syms[j] = sy) (hn : ∀ s ∈ syms.take j, s.isPrefixOf r = false) (hp : sy.isPrefixOf r = true) : symbolT r = ⟨0, 5, sy, sy.length⟩ := by
  have e : syms = syms.take j ++ sy :: syms.drop (j + 1) := by rw [← hsy, ← List.drop_eq_getElem_cons h, List.take_append_drop]
  have h1 : (syms.take j).find? (fun s => s.isPrefixOf r) = none := by
    rw [List.find?_eq_none]
    intro s hs
    rw [hn s hs]; simp
  have hf : syms.find? (fun s => s.isPrefixOf r) = some sy := by
    rw [e, List.find?_append, h1]
    simp only [Option.none_or]
    rw [List.find?_cons, hp]
  unfold symbolT
  rw [hf]
theorem take_false {r : List UInt8} {j : Nat} (h : j < syms.length) (hn : ∀ s ∈ syms.take j, s.isPrefixOf r = false) (hp : (syms[j]).isPrefixOf r = false) : ∀ s ∈ syms.take (j + 1), s.isPrefixOf r = false := by
  intro s hs
  rw [List.take_succ_eq_append_getElem h] at hs
  rcases List.mem_append.1 hs with hs | hs
  · exact hn s hs
  · simp at hs; rw [hs]; exact hp
theorem sym_none {r : List UInt8} (hn : ∀ s ∈ syms, s.isPrefixOf r = false) : symbolT r = errR 4 := by
  have hf : syms.find? (fun s => s.isPrefixOf r) = none := by
    rw [List.find?_eq_none]
    intro s hs
    rw [hn s hs]; simp
  unfold symbolT
  rw [hf]
theorem sym_len (j : Nat) (h : j < syms.length) : 1 ≤ (syms[j]).length ∧ (syms[j]).length ≤ 3 := by
  obtain ⟨h1, h2, -⟩ := syms_ok _ (List.getElem_mem h)
  exact ⟨List.length_pos_iff.2 h1, h2⟩

set_option maxHeartbeats 8000000 in
set_option maxRecDepth 100000 in
theorem symbol_tok (X : Nat) (s : ByteArray) (i ln : Nat) (l : List Tk) (w : World) (hi : i < s.size) (hs : s.size ≤ 1000000000) (hn : l.length ≤ 1000000) (h : Sc w X s i ln l) (hT : Tabs w) :
    Calls Tryd.prog 50 #[.pointer (some ⟨X, 0, none⟩)] w fun e w' => e = .returned (.int .i64 (symbolT (s.data.toList.drop i)).e) ∧ TokDid w' X s i ln l (symbolT (s.data.toList.drop i)) ∧ Below X w w' := by
  have H := Lib.hid h
  have HT := Lib.hid hT
  obtain ⟨c0, c1, c2, f1, f2, f3⟩ := h.cells
  have hX := h.lt
  clear h hT
  have hrest : Hid ((s.extract i s.size).data.toList = s.data.toList.drop i) := by show _ = _; rw [Lib.extract_to_end]
  have hi1 : (i : Int) ≤ (s.size : Int) := by omega
  go_enter Tryd.func50, Tryd.ntmps50
  go_wp2
  go_quiet (fail)
  go_wp2_with fail
  with_reducible refine (fields_says _ (HT.out.later ?_)).mono ?_
  · (repeat' (first | (with_reducible exact Below.refl _ _) | (with_reducible assumption) | (with_reducible refine Below.alloc ?_ ?_ _) | (with_reducible refine Go.below_drewN ?_ _) | (with_reducible refine Below.drew ?_) | (with_reducible refine Below.setCell ?_ ?_ _) | (with_reducible refine below_via (by assumption) ?_ ?_) | (with_reducible refine below_via (later_below _) ?_ ?_) | (with_reducible exact Nat.le_refl _) | omega | (simp; omega) | (simp; done)))
  rintro e wf ⟨rfl, hwf⟩
  have HBf : Hid (Below w.heap.size w wf) := by
    show Below _ _ _
    rw [hwf]
    (repeat' (first | (with_reducible exact Below.refl _ _) | (with_reducible assumption) | (with_reducible refine Below.alloc ?_ ?_ _) | (with_reducible refine Go.below_drewN ?_ _) | (with_reducible refine Below.drew ?_) | (with_reducible refine Below.setCell ?_ ?_ _) | (with_reducible refine below_via (by assumption) ?_ ?_) | (with_reducible refine below_via (later_below _) ?_ ?_) | (with_reducible exact Nat.le_refl _) | omega | (simp; omega) | (simp; done)))
  have HCf : Hid (∀ j, (hj : j < syms.length) → wf.cell? ⟨w.heap.size, j, none⟩ = some (.string (mkS syms[j]))) := by
    intro j hj
    rw [hwf]
    refine (World.cell?_alloc_at symCells 9 _ j rfl).trans ?_
    exact symCells_at j hj
  clear hwf
  go_wp2_with fail
  go_loopw [17] (fun u wr => ∃ j : Nat, j ≤ 33 ∧ u = .int .i64 j ∧ Hid (∀ t ∈ syms.take j, t.isPrefixOf (s.data.toList.drop i) = false) ∧ Hid (Below w.heap.size w wr) ∧ Hid (wr = wf)) (fun u _ => 33 - (intOf u).toNat)
  case atStart => exact ⟨0, Nat.zero_le _, rfl, (fun t ht => by simp at ht), HBf.out, rfl⟩
  case round =>
    obtain ⟨j, hj, rfl, HNO, HB, HW⟩ := hrel
    have hw := HW.out
    subst hw
    have HSc := Lib.hid (H.out.later HB.out)
    obtain ⟨d0, d1, d2, g1, g2, g3⟩ := HSc.out.cells
    have hsl : syms.length = 33 := by decide
    by_cases hlt : j < 33
    · have hjl : j < syms.length := by omega
      have hcell := HCf.out j hjl
      obtain ⟨k1, k2⟩ := sym_len j hjl
      have hff := take_false hjl HNO.out
      obtain ⟨sy, hsy⟩ : ∃ sy, syms[j] = sy := ⟨_, rfl⟩
      rw [hsy] at hcell k1 k2 hff
      have hsz : (mkS sy).size = sy.length := mkS_size sy
      have HP : Hid (∀ w', Calls Tryd.prog 24 #[.string (s.extract i s.size), .string (mkS sy)] w' fun e w'' => e = .returned (.bool (sy.isPrefixOf (s.data.toList.drop i))) ∧ w' = w'') := fun w' =>
        (Tryd.strings_HasPrefix _ _ w').mono fun _ _ ⟨he, hw⟩ => ⟨by rw [he, hrest.out]; rfl, hw.symm⟩
      cases hp : sy.isPrefixOf (s.data.toList.drop i)
      · have HF := Lib.hid (hff hp)
        rw [hp] at HP
        clear hff hp hsy hsl hjl
        go_wp2_with (first | (go_at_call 24; (with_reducible refine (HP.out _).mono ?_); rintro e w8 ⟨rfl, rfl⟩))
        exact ⟨⟨j + 1, by omega, by go_num, HF.out, HB.out, by first | exact Lib.hid trivial | exact Lib.hid rfl⟩, by simp [intOf]; omega⟩
      · have HT2 : Hid (symbolT (s.data.toList.drop i) = ⟨0, 5, sy, sy.length⟩) := sym_find hjl hsy HNO.out hp
        have hle : sy.length ≤ s.size - i := by
          have := (List.isPrefixOf_iff_prefix.1 hp).length_le
          simpa using this
        rw [hp] at HP
        have HA : Hid (∀ (w' : World), Sc w' X s i ln l → Calls Tryd.prog 63 #[.pointer (some ⟨X, 0, none⟩), .int .i64 5, .string (mkS sy), .int .i64 ((i : Int) + (sy.length : Int))] w' fun e w'' => e = .returned (.tuple #[]) ∧ Sc w'' X s (i + sy.length) ln (l ++ [⟨5, sy, ln, i⟩]) ∧ Below X w' w'') := fun w' h => addTk_any X s (mkS sy) i ln (i + sy.length) 5 l w' hn h
        clear hff hp hsy hsl hjl
        go_wp2_with (first | (go_at_call 24; (with_reducible refine (HP.out _).mono ?_); rintro e w8 ⟨rfl, rfl⟩) | (go_at_call 63; (with_reducible refine (HA.out _ HSc.out).mono ?_); rintro e w9 ⟨rfl, hsc, hb9⟩))
        go_returns
        exact ⟨by rw [HT2.out]; rfl, TokDid.ok hsc (by rw [HT2.out]) (by rw [HT2.out]) (by rw [HT2.out]) (by rw [HT2.out]), (HB.out.mono (Nat.le_of_lt hX)).trans hb9⟩
    · obtain rfl : j = 33 := by omega
      have HT2 : Hid (symbolT (s.data.toList.drop i) = errR 4) := sym_none (by have := HNO.out; rw [List.take_of_length_le (by omega)] at this; exact this)
      clear hsl
      go_wp2_with fail
      go_returns
      exact ⟨by rw [HT2.out]; rfl, TokDid.err HSc.out (by rw [HT2.out]; decide), HB.out.mono (Nat.le_of_lt hX)⟩
end Go.Proofs.YtgjeljhodflbgaaDoor
