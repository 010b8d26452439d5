/- Scan and Parse agree; what Scan reads does not depend on what precedes it: plain facts, no program in sight. -/
import Derived.Test.YtjpegcaooamhfaaDoorNumPlain4
namespace Go.Proofs.YtjpegcaooamhfaaDoor
set_option linter.unusedVariables false

def shiftF (k : Nat) (f : Find) : Find := ⟨f.hex, if f.point < 0 then f.point else f.point + k, f.from_ + k, f.end_ + k⟩

theorem drop_shift (x l : List UInt8) (i : Nat) : (x ++ l).drop (i + x.length) = l.drop i := by
  rw [Nat.add_comm, ← List.drop_drop, List.drop_left]
theorem runL_shift (x l : List UInt8) (b i : Nat) : runL (x ++ l) b (i + x.length) = runL l b i + x.length := by
  unfold runL
  rw [drop_shift]; omega
theorem bat_shift (x l : List UInt8) (i : Nat) : bat (x ++ l) (i + x.length) = bat l i := by
  unfold bat
  rw [List.getD, List.getD, List.getElem?_append_right (by omega), Nat.add_sub_cancel]
theorem slice_shift (x l : List UInt8) (a b : Nat) : sliceL (x ++ l) (a + x.length) (b + x.length) = sliceL l a b := by
  unfold sliceL
  rw [drop_shift]
  congr 1; omega

theorem find_shift (x l : List UInt8) (i : Nat) : findL (x ++ l) (i + x.length) = (findL l i).map (shiftF x.length) := by
  have e1 := runL_shift x l 10 i
  have e2 := runL_shift x l 16 (runL l 10 i + 1)
  have e3 := runL_shift x l 10 (runL l 10 i + 1)
  have e4 := bat_shift x l i
  have e5 := bat_shift x l (runL l 10 i)
  unfold findL
  simp only []
  rw [e1]
  generalize runL l 10 i = e at *
  have c1 : e + x.length + 1 = e + 1 + x.length := by omega
  rw [c1, e2, e3, e4, e5]
  have hl : (x ++ l).length = l.length + x.length := by simp; omega
  rw [hl]
  by_cases h1 : e = i
  · rw [if_pos h1, if_pos (by omega)]; rfl
  · rw [if_neg h1, if_neg (by omega)]
    by_cases h2 : e = i + 1 ∧ bat l i = 48 ∧ e < l.length ∧ (bat l e = 120 ∨ bat l e = 88) ∧ e + 1 < runL l 16 (e + 1)
    · rw [if_pos h2, if_pos (by omega)]; simp [shiftF]
    · rw [if_neg h2, if_neg (by omega)]
      by_cases h3 : e < l.length ∧ bat l e = 46 ∧ e + 1 < runL l 10 (e + 1)
      · rw [if_pos h3, if_pos (by omega)]
        simp only [Option.map_some, shiftF]
        rw [if_neg (by omega)]
        simp
      · rw [if_neg h3, if_neg (by omega)]; simp [shiftF]

theorem num_shift (x l : List UInt8) (f : Find) : numT (x ++ l) (shiftF x.length f) = numT l f := by
  unfold numT shiftF
  simp only []
  rw [slice_shift]
  by_cases h : f.point < 0
  · rw [if_pos h, if_pos h, if_pos h]
  · have hn : ¬ f.point + (x.length : Int) < 0 := by omega
    rw [if_neg h, if_neg hn, if_neg h]
    have e : (f.point + (x.length : Int)).toNat = f.point.toNat + x.length := by omega
    have e2 : f.point.toNat + x.length + 1 = f.point.toNat + 1 + x.length := by omega
    have e3 : f.end_ + x.length - (f.point.toNat + 1 + x.length) = f.end_ - (f.point.toNat + 1) := by omega
    rw [e, e2, e3, slice_shift, slice_shift]

/-- What Scan answers behind another text. -/
theorem scan_shift (x l : List UInt8) : scanL (x ++ l) x.length = ((scanL l 0).1, (scanL l 0).2.1, if (scanL l 0).2.2.2 = 0 then (scanL l 0).2.2.1 + x.length else (scanL l 0).2.2.1, (scanL l 0).2.2.2) := by
  have hf := find_shift x l 0
  rw [Nat.zero_add] at hf
  unfold scanL
  rw [if_neg (by simp; omega), if_neg (by simp), Int.toNat_natCast, hf]
  show _ = ((match findL l 0 with | none => ((0 : Int), (0 : Int), (0 : Int), (4 : Int)) | some f => let t := numT l f; if t.2.2 = 0 then (t.1, t.2.1, (f.end_ : Int), 0) else (0, 0, 0, t.2.2)).1, _)
  cases hk : findL l 0 with
  | none => simp [hk]
  | some f =>
    simp only [Option.map_some, num_shift, hk, Int.toNat_zero]
    by_cases h : (numT l f).2.2 = 0
    · simp [h, shiftF]
    · simp [h]
theorem scan_err (l : List UInt8) : (scanL l 0).2.2.2 ≠ 0 → scanL l 0 = (0, 0, 0, (scanL l 0).2.2.2) := by
  unfold scanL
  rw [if_neg (by simp)]
  cases findL l (0 : Int).toNat with
  | none => intro _; rfl
  | some f =>
    simp only []
    split
    · intro h; exact absurd rfl h
    · intro _; rfl

theorem kind_end {l : List UInt8} {i : Nat} {f : Find} (h : Kind l i f) : f.end_ ≤ l.length := by
  cases h <;> simp only [] <;> omega
theorem scan_bd (l : List UInt8) : 0 ≤ (scanL l 0).2.2.1 ∧ (scanL l 0).2.2.1 ≤ l.length := by
  unfold scanL
  rw [if_neg (by simp), Int.toNat_zero]
  cases hk : findL l 0 with
  | none => simp
  | some f =>
    have := kind_end (find_kind (Nat.zero_le _) hk)
    simp only []
    split
    · simp only []; omega
    · simp

/-- A byte of a numeral. -/
def numByte (c : UInt8) : Prop := dvN c.toNat < 16 ∨ c = 46 ∨ c = 120 ∨ c = 88
theorem numByte_blank {c : UInt8} (h : numByte c) : blankL.contains c = false ∧ c ≠ 45 := by
  rcases h with h | rfl | rfl | rfl
  · exact ⟨digit_blank c h, (digit_ne c h).2.1⟩
  · exact ⟨by decide, by decide⟩
  · exact ⟨by decide, by decide⟩
  · exact ⟨by decide, by decide⟩
theorem mem_parts {l : List UInt8} {c : UInt8} (hc : c ∈ l) (d : Nat) : c ∈ l.take d ∨ c ∈ l.drop d := by
  rw [← List.take_append_drop d l] at hc
  exact List.mem_append.1 hc
theorem bat_mem {l : List UInt8} {d : Nat} (h : d < l.length) : ∃ c : UInt8, l.drop d = c :: l.drop (d + 1) ∧ c.toNat = bat l d := by
  refine ⟨l[d], List.drop_eq_getElem_cons h, ?_⟩
  unfold bat
  simp [List.getD, h]
theorem byte_of {c d : UInt8} (h : c.toNat = d.toNat) : c = d := UInt8.toNat_inj.1 h
theorem whole_bytes {l : List UInt8} {f : Find} (hk : Kind l 0 f) (he : f.end_ = l.length) : ∀ c ∈ l, numByte c := by
  cases hk with
  | whole q h1 h2 h3 =>
    simp only [] at he
    subst he
    intro c hc
    rw [slice_all] at h3
    exact .inl (by have := h3 c hc; omega)
  | hex q h1 h2 h3 h4 h5 =>
    simp only [] at he
    subst he
    intro c hc
    obtain ⟨c0, e0, b0⟩ := bat_mem (l := l) (d := 0) (by omega)
    obtain ⟨c1, e1, b1⟩ := bat_mem (l := l) (d := 1) (by omega)
    rw [List.drop_zero, Nat.zero_add] at e0
    rw [e0, e1] at hc
    rcases List.mem_cons.1 hc with rfl | hc
    · left; rw [b0, h3]; decide
    · rcases List.mem_cons.1 hc with rfl | hc
      · right; right
        rw [Nat.zero_add] at h4
        rcases h4 with h4 | h4
        · left; exact byte_of (b1.trans h4)
        · right; exact byte_of (b1.trans h4)
      · left
        refine h5 c ?_
        unfold sliceL
        rw [List.take_of_length_le (by simp)]
        exact hc
  | point d q h1 h2 h3 h4 h5 h6 =>
    simp only [] at he
    subst he
    intro c hc
    rcases mem_parts hc d with hc | hc
    · left
      have := h5 c (by unfold sliceL; simpa using hc)
      omega
    · obtain ⟨c0, e0, b0⟩ := bat_mem (l := l) (d := d) (by omega)
      rw [e0] at hc
      rcases List.mem_cons.1 hc with rfl | hc
      · right; left; exact byte_of (b0.trans h4)
      · left
        have := h6 c (by unfold sliceL; rw [List.take_of_length_le (by simp)]; exact hc)
        omega

/-- A text that is one numeral: Parse answers what Scan does. -/
theorem parse_scan {l : List UInt8} (h0 : (scanL l 0).2.2.2 = 0) (hl : (scanL l 0).2.2.1 = l.length) : parseL l = ((scanL l 0).1, (scanL l 0).2.1, 0) := by
  unfold scanL at h0 hl ⊢
  rw [if_neg (by simp)] at h0 hl ⊢
  rw [Int.toNat_zero] at h0 hl ⊢
  cases hk : findL l 0 with
  | none => rw [hk] at h0; cases h0
  | some f =>
    rw [hk] at h0 hl
    simp only [] at h0 hl ⊢
    by_cases ht : (numT l f).2.2 = 0
    · rw [if_pos ht] at hl ⊢
      have hend : f.end_ = l.length := by simp only [] at hl; omega
      have hb := whole_bytes (find_kind (Nat.zero_le _) hk) hend
      unfold parseL
      rw [trim_none (fun c hc => (numByte_blank (hb c hc)).1), if_neg (head_none fun d hd => (numByte_blank (hb d hd)).2), unsL_num hk hend]
      unfold minusT
      rw [if_pos ht]
      rfl
    · rw [if_neg ht] at h0; exact absurd h0 ht
end Go.Proofs.YtjpegcaooamhfaaDoor
