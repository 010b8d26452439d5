/- The lexer's literals of strings. -/
import Derived.Test.YtemlijadhdejeaaGreatDoorMLxW9
import Derived.Laws.BytesArg
import Derived.Test.YtemlijadhdejeaaGreatDoorMNumC
namespace Go.Proofs.YtemlijadhdejeaaGreatDoor
open Go.RowKit Go.Instr
set_option linter.unusedVariables false

theorem u8_info : (Tryz.prog.info? 5).map (fun i => (i.zero, i.size, i.bytes)) = some (some (.int .u8 0), 1, 1) := by kernel_rfl
theorem own_shape {w : World} {base : Nat} {v : Value} {xs : List Value} (h : Own w base v xs) : ∃ a cap, v = .slice a xs.length cap := by
  rcases h with ⟨h1, h2⟩ | ⟨g, cap, h1, -⟩
  · rw [h2]; exact ⟨none, 0, h1⟩
  · exact ⟨_, cap, h1⟩
/-- A byte's cell. -/
def byV (b : UInt8) : Value := .int .u8 b.toNat
theorem escT_byte (t : List UInt8) : (escT t).2.1 < 256 := by
  unfold escT
  split
  · decide
  · rename_i c u
    have hc := UInt8.toNat_lt c
    split
    · decide
    · split
      · decide
      · split
        · exact hc
        · split
          · split
            · rename_i h2
              have h3 : 2 ≤ u.length := Nat.le_trans h2 (spanN_le hexB u)
              have := hex_two (l := u.take 2) (by rw [List.length_take]; omega) (span_all h2)
              show valN 16 (u.take 2) < 256
              omega
            · decide
          · split
            · split
              · decide
              · rename_i h2
                show valN 10 _ < 256
                omega
            · decide
theorem escT_form (t : List UInt8) : (escT t).1 ≠ 0 → (escT t).2.1 = 0 ∧ (escT t).2.2 = 0 := by
  unfold escT
  repeat' split
  all_goals first | (intro _; exact ⟨rfl, rfl⟩) | (intro h; exact absurd rfl h)
/-- What is read of a literal, ahead of what is to come. -/
def litC (acc : List UInt8) (d : Nat) (x : Int × List UInt8 × Nat) : Int × List UInt8 × Nat := if x.1 = 0 then (0, acc ++ x.2.1, d + x.2.2) else (x.1, [], 0)
theorem litC_step (acc : List UInt8) (d : Nat) (c : UInt8) (k : Nat) (x : Int × List UInt8 × Nat) : litC acc d (litP c k x) = litC (acc ++ [c]) (d + k) x := by
  unfold litC litP
  by_cases h : x.1 = 0
  · simp [h]; omega
  · simp [h]
theorem litC_nil (x : Int × List UInt8 × Nat) (h : x.1 = 0 ∨ (x.2.1 = [] ∧ x.2.2 = 0)) : litC [] 0 x = x := by
  unfold litC
  obtain ⟨a, b, c⟩ := x
  by_cases h0 : a = 0
  · subst h0; simp
  · simp [h0] at h ⊢; exact ⟨h.1, h.2.symm⟩
theorem litT_form (q : UInt8) (l : List UInt8) (n : Nat) : (litT q l n).1 = 0 ∨ ((litT q l n).2.1 = [] ∧ (litT q l n).2.2 = 0) := by
  cases l with
  | nil => rw [litT_nil]; exact .inr ⟨rfl, rfl⟩
  | cons c t =>
    by_cases h0 : c.toNat = 10
    · rw [litT_nl h0]; exact .inr ⟨rfl, rfl⟩
    · by_cases hq : c = q
      · subst hq; rw [litT_end h0]; exact .inl rfl
      · have hP : ∀ (c : UInt8) (k : Nat) (x : Int × List UInt8 × Nat), (litP c k x).1 = 0 ∨ ((litP c k x).2.1 = [] ∧ (litP c k x).2.2 = 0) := by
          intro c k x
          unfold litP
          split
          · exact .inl rfl
          · exact .inr ⟨rfl, rfl⟩
        by_cases h92 : c.toNat = 92
        · rw [litT_esc h92 hq]
          split
          · split
            · exact .inr ⟨rfl, rfl⟩
            · exact hP _ _ _
          · exact .inr ⟨rfl, rfl⟩
        · rw [litT_any h0 hq h92]
          split
          · exact .inr ⟨rfl, rfl⟩
          · exact hP _ _ _
theorem str_err {q : UInt8} {t acc : List UInt8} {d : Nat} {e : Int} (h : litT q t 0 = litC acc d (e, [], 0)) (he : e ≠ 0) : stringT q t = errR e := by
  unfold stringT
  rw [h]
  unfold litC
  rw [if_neg he, if_neg he]
theorem str_ok {q : UInt8} {t acc : List UInt8} {d : Nat} (h : litT q t 0 = litC acc d (0, [], 1)) : stringT q t = ⟨0, 4, acc, d + 2⟩ := by
  unfold stringT
  rw [h]
  unfold litC
  simp

/-- How far a literal has been read. -/
def LitAt (s : ByteArray) (i : Nat) (q : UInt8) (acc : List UInt8) (j : Nat) : Prop := i + 1 ≤ j ∧ acc.length ≤ 4096 ∧ litT q (s.data.toList.drop (i + 1)) 0 = litC acc (j - (i + 1)) (litT q (s.data.toList.drop j) acc.length)
theorem LitAt.step {s : ByteArray} {i j : Nat} {q c : UInt8} {acc : List UInt8} {k : Nat} (h : LitAt s i q acc j) (hx : litT q (s.data.toList.drop j) acc.length = litP c k (litT q (s.data.toList.drop (j + k)) (acc.length + 1))) (hl : acc.length ≠ 4096) :
    LitAt s i q (acc ++ [c]) (j + k) := by
  obtain ⟨h1, h2, h3⟩ := h
  refine ⟨by omega, by simp; omega, ?_⟩
  rw [h3, hx, litC_step, List.length_append, List.length_singleton]
  congr 1; omega

end Go.Proofs.YtemlijadhdejeaaGreatDoor

/- The lexer's numerals. -/
namespace Go.Proofs.YtemlijadhdejeaaGreatDoor
open Go.RowKit Go.Instr
set_option linter.unusedVariables false

theorem scan_at (s : ByteArray) (i : Nat) (hi : i ≤ s.size) : scanL s.data.toList i = ((scanL (s.data.toList.drop i) 0).1, (scanL (s.data.toList.drop i) 0).2.1, if (scanL (s.data.toList.drop i) 0).2.2.2 = 0 then (scanL (s.data.toList.drop i) 0).2.2.1 + i else (scanL (s.data.toList.drop i) 0).2.2.1, (scanL (s.data.toList.drop i) 0).2.2.2) := by
  have h := scan_shift (s.data.toList.take i) (s.data.toList.drop i)
  rw [List.take_append_drop] at h
  have hl : (s.data.toList.take i).length = i := by rw [List.length_take]; simp; omega
  rw [hl] at h
  exact h
end Go.Proofs.YtemlijadhdejeaaGreatDoor
