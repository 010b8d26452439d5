/- The lexer's tests of bytes, made; how far a test holds in a text. -/
import Derived.Test.YtemlijadhdejeaaGreatDoorMLxA
import Derived.Test.YtemlijadhdejeaaGreatDoorMOwn
namespace Go.Proofs.YtemlijadhdejeaaGreatDoor
open Go.RowKit Go.Instr
set_option linter.unusedVariables false

theorem tests2 {w : World} {v1 v2 : Value} {p1 p2 : UInt8 → Bool} (t : TypeId) (h1 : IsTest w v1 p1) (h2 : IsTest w v2 p2) : TestsAt (w.alloc (.cells #[v1, v2] t)) w.heap.size [(v1, p1), (v2, p2)] := by
  have hb : Below w.heap.size w (w.alloc (.cells #[v1, v2] t)) := (Below.refl _ _).alloc (Nat.le_refl _) _
  intro j hj
  match j, hj with
  | 0, _ => exact ⟨World.cell?_alloc_at #[v1, v2] t _ 0 rfl, h1.later hb⟩
  | 1, _ => exact ⟨World.cell?_alloc_at #[v1, v2] t _ 1 rfl, h2.later hb⟩
theorem tests3 {w : World} {v1 v2 v3 : Value} {p1 p2 p3 : UInt8 → Bool} (t : TypeId) (h1 : IsTest w v1 p1) (h2 : IsTest w v2 p2) (h3 : IsTest w v3 p3) : TestsAt (w.alloc (.cells #[v1, v2, v3] t)) w.heap.size [(v1, p1), (v2, p2), (v3, p3)] := by
  have hb : Below w.heap.size w (w.alloc (.cells #[v1, v2, v3] t)) := (Below.refl _ _).alloc (Nat.le_refl _) _
  intro j hj
  match j, hj with
  | 0, _ => exact ⟨World.cell?_alloc_at #[v1, v2, v3] t _ 0 rfl, h1.later hb⟩
  | 1, _ => exact ⟨World.cell?_alloc_at #[v1, v2, v3] t _ 1 rfl, h2.later hb⟩
  | 2, _ => exact ⟨World.cell?_alloc_at #[v1, v2, v3] t _ 2 rfl, h3.later hb⟩
/-- A call that hands back a test. -/
abbrev TestSays (f : FuncId) (p : UInt8 → Bool) : Prop := ∀ w : World, Calls Tryz.prog f #[] w fun e w' => (∃ v, e = .returned v ∧ IsTest w' v p) ∧ Below w.heap.size w w'
theorem one_dec : ∀ c : Fin 256, decide (0 ≤ Lib.indexByte [95] (UInt8.ofNat c.val)) = decide (c.val = 95) := by decide +kernel
theorem one_us (c : UInt8) : decide (0 ≤ Lib.indexByte (⟨#[95]⟩ : ByteArray).data.toList c) = decide (c.toNat = 95) := by
  have := one_dec ⟨c.toNat, UInt8.toNat_lt c⟩
  simpa using this
/-- How far a test holds from an index on. -/
def spanI (p : UInt8 → Bool) (s : ByteArray) (i : Nat) : Nat := i + spanN p (s.data.toList.drop i)
theorem drop_get (s : ByteArray) (k : Nat) (h : k < s.size) : s.data.toList.drop k = s[k]'h :: s.data.toList.drop (k + 1) := by
  rw [List.drop_eq_getElem_cons (by simpa using h)]; rfl
theorem spanI_yes {p : UInt8 → Bool} {s : ByteArray} {k : Nat} (h : k < s.size) (hp : p (s[k]'h) = true) : spanI p s k = spanI p s (k + 1) := by
  unfold spanI
  rw [drop_get s k h, spanN_yes hp]; omega
theorem spanI_no {p : UInt8 → Bool} {s : ByteArray} {k : Nat} (h : k < s.size) (hp : p (s[k]'h) = false) : spanI p s k = k := by
  unfold spanI
  rw [drop_get s k h, spanN_no hp]; omega
theorem spanI_end {p : UInt8 → Bool} {s : ByteArray} {k : Nat} (h : s.size ≤ k) : spanI p s k = k := by
  unfold spanI
  rw [List.drop_eq_nil_of_le (by simpa using h), spanN_nil]; omega
theorem spanI_le (p : UInt8 → Bool) (s : ByteArray) (k : Nat) (h : k ≤ s.size) : k ≤ spanI p s k ∧ spanI p s k ≤ s.size := by
  unfold spanI
  have := spanN_le p (s.data.toList.drop k)
  simp at this
  omega
end Go.Proofs.YtemlijadhdejeaaGreatDoor
