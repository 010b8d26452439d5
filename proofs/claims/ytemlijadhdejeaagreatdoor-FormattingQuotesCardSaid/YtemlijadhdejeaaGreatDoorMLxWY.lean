/- The lexer's token; Scan. -/
import Derived.Test.YtemlijadhdejeaaGreatDoorMLxWX
import Derived.Test.YtemlijadhdejeaaGreatDoorMLxW12
import Derived.Test.YtemlijadhdejeaaGreatDoorMLxP
namespace Go.Proofs.YtemlijadhdejeaaGreatDoor
open Go.RowKit Go.Instr
set_option linter.unusedVariables false

theorem TokDid.ln {w : World} {X : Nat} {s : ByteArray} {i ln : Nat} {l : List Tk} {t t' : TokR} (h : TokDid w X s i ln l t) (e : t = t') : TokDid w X s i ln l t' := e ▸ h
end Go.Proofs.YtemlijadhdejeaaGreatDoor

/- The lexer's Scan. -/
namespace Go.Proofs.YtemlijadhdejeaaGreatDoor
open Go.RowKit Go.Instr
set_option linter.unusedVariables false

/-- Tokens that are read, ahead of what is to come. -/
def apA (l : List Tk) (x : List Tk × Nat × Int) : List Tk × Nat × Int := if x.2.2 = 0 then (l ++ x.1, 0, 0) else ([], x.2.1, x.2.2)
theorem apA_scP (l : List Tk) (t : Tk) (x : List Tk × Nat × Int) : apA l (scP t x) = apA (l ++ [t]) x := by
  unfold apA scP
  by_cases h : x.2.2 = 0 <;> simp [h]
theorem apA_nil (x : List Tk × Nat × Int) (h : x.2.2 = 0 ∧ x.2.1 = 0 ∨ x.2.2 ≠ 0 ∧ x.1 = []) : apA [] x = x := by
  obtain ⟨a, b, c⟩ := x
  unfold apA
  simp only [] at h ⊢
  by_cases h0 : c = 0
  · simp [h0] at h ⊢; first | exact h.symm | exact h
  · simp [h0] at h ⊢; first | exact h.symm | exact h
theorem gap_cnt (l : List UInt8) : (gapN l).2 ≤ (gapN l).1 := by
  have h1 := gapN_count l.length l (Nat.le_refl _)
  have h2 : nlN (l.take (gapN l).1) ≤ (l.take (gapN l).1).length := List.count_le_length
  have h3 : (l.take (gapN l).1).length ≤ (gapN l).1 := by rw [List.length_take]; omega
  omega
section
variable {s : ByteArray} {j m : Nat}
theorem at_gap : (s.data.toList.drop j).drop (gapN (s.data.toList.drop j)).1 = s.data.toList.drop (gapI s j) := by unfold gapI; rw [List.drop_drop]
theorem scan_done (h : s.size ≤ gapI s j) : scanA (s.data.toList.drop j) j m = ([], 0, 0) := scanA_nil (by rw [at_gap]; exact List.drop_eq_nil_of_le (by simpa using h))
theorem ne_gap (h : gapI s j < s.size) : (s.data.toList.drop j).drop (gapN (s.data.toList.drop j)).1 ≠ [] := by
  rw [at_gap]
  intro e
  have := List.drop_eq_nil_iff.1 e
  simp at this
  omega
theorem scan_bad (h : gapI s j < s.size) (he : (tokT (s.data.toList.drop (gapI s j))).e ≠ 0) : scanA (s.data.toList.drop j) j m = ([], gapL s j m, (tokT (s.data.toList.drop (gapI s j))).e) := by
  have := scanA_err (i := j) (ln := m) (ne_gap h) (by rw [at_gap]; exact he)
  rw [at_gap] at this
  exact this
theorem scan_good (h : gapI s j < s.size) (he : (tokT (s.data.toList.drop (gapI s j))).e = 0) :
    scanA (s.data.toList.drop j) j m = scP ⟨(tokT (s.data.toList.drop (gapI s j))).k, (tokT (s.data.toList.drop (gapI s j))).x, gapL s j m, gapI s j⟩ (scanA (s.data.toList.drop (gapI s j + (tokT (s.data.toList.drop (gapI s j))).n)) (gapI s j + (tokT (s.data.toList.drop (gapI s j))).n) (gapL s j m)) := by
  have := scanA_tok (i := j) (ln := m) (ne_gap h) (by rw [at_gap]; exact he)
  rw [at_gap, List.drop_drop] at this
  exact this
end

theorem ownsRow_base {w : World} {b b' : Nat} {e : TypeId} {size : Nat} {v : Value} {n : Nat} {xs : List Value} (h : w.ownsRow b e size v n xs) (hb : b' ≤ b) : w.ownsRow b' e size v n xs := by
  obtain ⟨h1, h2 | ⟨g, cap, cur, hv, hg, rest⟩⟩ := h
  · exact ⟨h1, .inl h2⟩
  · exact ⟨h1, .inr ⟨g, cap, cur, hv, Nat.le_trans hb hg, rest⟩⟩
end Go.Proofs.YtemlijadhdejeaaGreatDoor
