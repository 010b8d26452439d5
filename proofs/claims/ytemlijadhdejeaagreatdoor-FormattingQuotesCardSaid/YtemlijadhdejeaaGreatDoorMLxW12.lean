/- The lexer's symbols. -/
import Derived.Test.YtemlijadhdejeaaGreatDoorMLxC
namespace Go.Proofs.YtemlijadhdejeaaGreatDoor
open Go.RowKit Go.Instr
set_option linter.unusedVariables false

/-- The text of all symbols. -/
abbrev symS : ByteArray := ⟨#[46, 46, 46, 32, 47, 47, 32, 60, 60, 32, 62, 62, 32, 61, 61, 32, 126, 61, 32, 60, 61, 32, 62, 61, 32, 58, 58, 32, 46, 46, 32, 43, 32, 45, 32, 42, 32, 47, 32, 37, 32, 94, 32, 35, 32, 38, 32, 124, 32, 126, 32, 60, 32, 62, 32, 61, 32, 40, 32, 41, 32, 123, 32, 125, 32, 91, 32, 93, 32, 59, 32, 58, 32, 44, 32, 46]⟩
theorem syms_fields : Lib.fields symS.data.toList = syms := by decide +kernel
theorem symS_ascii : ∀ (j : Nat) b, symS.data.toList[j]? = some b → b.toNat < 128 := by
  have : ∀ b ∈ symS.data.toList, b.toNat < 128 := by decide +kernel
  intro j b h
  exact this b (List.mem_of_getElem? h)
/-- The symbols' cells. -/
def symCells : Array Value := (syms.map fun l => Value.string ⟨l.toArray⟩).toArray
theorem symCells_at (j : Nat) (h : j < syms.length) : symCells[j]? = some (.string (mkS syms[j])) := by
  unfold symCells
  simp [h, mkS]
theorem sym_find {r sy : List UInt8} {j : Nat} (h : j < syms.length) (hsy : syms[j] = sy) (hn : ∀ s ∈ syms.take j, s.isPrefixOf r = false) (hp : sy.isPrefixOf r = true) : symbolT r = ⟨0, 5, sy, sy.length⟩ := by
  have e : syms = syms.take j ++ sy :: syms.drop (j + 1) := by rw [← hsy, ← List.drop_eq_getElem_cons h, List.take_append_drop]
  have h1 : (syms.take j).find? (fun s => s.isPrefixOf r) = none := by
    rw [List.find?_eq_none]
    intro s hs
    rw [hn s hs]; simp
  have hf : syms.find? (fun s => s.isPrefixOf r) = some sy := by
    rw [e, List.find?_append, h1]
    simp only [Option.none_or]
    rw [List.find?_cons, hp]
  unfold symbolT
  rw [hf]
theorem take_false {r : List UInt8} {j : Nat} (h : j < syms.length) (hn : ∀ s ∈ syms.take j, s.isPrefixOf r = false) (hp : (syms[j]).isPrefixOf r = false) : ∀ s ∈ syms.take (j + 1), s.isPrefixOf r = false := by
  intro s hs
  rw [List.take_succ_eq_append_getElem h] at hs
  rcases List.mem_append.1 hs with hs | hs
  · exact hn s hs
  · simp at hs; rw [hs]; exact hp
theorem sym_none {r : List UInt8} (hn : ∀ s ∈ syms, s.isPrefixOf r = false) : symbolT r = errR 4 := by
  have hf : syms.find? (fun s => s.isPrefixOf r) = none := by
    rw [List.find?_eq_none]
    intro s hs
    rw [hn s hs]; simp
  unfold symbolT
  rw [hf]
theorem sym_len (j : Nat) (h : j < syms.length) : 1 ≤ (syms[j]).length ∧ (syms[j]).length ≤ 3 := by
  obtain ⟨h1, h2, -⟩ := syms_ok _ (List.getElem_mem h)
  exact ⟨List.length_pos_iff.2 h1, h2⟩

end Go.Proofs.YtemlijadhdejeaaGreatDoor
