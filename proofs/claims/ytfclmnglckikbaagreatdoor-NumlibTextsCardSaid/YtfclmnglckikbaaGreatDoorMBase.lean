/- Small facts for all walks: results, and what stays known of memory behind a call. No program. -/
import Derived.WalkKit
import Derived.WalkSpells
import Derived.WalkLawsBesides
import Derived.Deep.QuietTactic
import Derived.BigQuiet
import Derived.Handy
import Derived.Lib.Hide
namespace Go.Proofs.YtfclmnglckikbaaGreatDoor
open Go.RowKit
set_option linter.unusedVariables false

theorem ret_int {k : IntKind} {a b : Int} (h : a = b) : Ending.returned (.int k a) = .returned (.int k b) := by rw [h]
theorem ret_bool {a b : Bool} (h : a = b) : Ending.returned (.bool a) = .returned (.bool b) := by rw [h]
theorem ret_ib {k : IntKind} {a a' : Int} {b b' : Bool} (h : a = a' ∧ b = b') : Ending.returned (.tuple #[.int k a, .bool b]) = .returned (.tuple #[.int k a', .bool b']) := by rw [h.1, h.2]
theorem ret_ii {k l : IntKind} {a a' b b' : Int} (h : a = a' ∧ b = b') : Ending.returned (.tuple #[.int k a, .int l b]) = .returned (.tuple #[.int k a', .int l b']) := by rw [h.1, h.2]
theorem ret_num {a b c a' b' c' : Int} (h : a = a' ∧ b = b' ∧ c = c') : Ending.returned (.tuple #[.agg #[.int .i64 a, .int .i64 b], .int .i64 c]) = .returned (.tuple #[.agg #[.int .i64 a', .int .i64 b'], .int .i64 c']) := by
  rw [h.1, h.2.1, h.2.2]

theorem below_via {B B' : Nat} {w m w1 : World} (h : Below B' m w1) (hB : B ≤ B') (h0 : Below B w m) : Below B w w1 := h0.trans (h.mono hB)

/-- Ahead of the first call: the blocks that are known are those that were there. -/
theorem wzero (w : World) : ∀ b, b < w.heap.size → b < w.heap.size := fun _ h => h

/-! Behind a call: what is known of the blocks that were laid before it (the number: how many were laid since the last call). -/
theorem wuse0 {O : Nat → Prop} {w1 W w2 : World} {G : Prop} (Z : ∀ b, O b → b < w1.heap.size) (hb : Below W.heap.size W w2) (hle : w1.heap.size ≤ W.heap.size)
    (h : w1.heap.size ≤ w2.heap.size
    → (∀ b o, (O b) → w2.cell? ⟨b, o, none⟩ = W.cell? ⟨b, o, none⟩)
    → (∀ b o, (O b) → w2.frozen? ⟨b, o, none⟩ = W.frozen? ⟨b, o, none⟩)
    → (∀ b, (O b) → b ≤ w2.heap.size)
    → (∀ b, (O b) → b ≤ w2.heap.size + 1)
    → (∀ b, (O b) → b ≤ w2.heap.size + 1 + 1)
    → (∀ b, (O b) → b ≤ w2.heap.size + 1 + 1 + 1)
    → (∀ b, (O b) → b ≤ w2.heap.size + 1 + 1 + 1 + 1)
    → (∀ b, (O b) → ¬ b = w2.heap.size)
    → (∀ b, (O b) → ¬ b = w2.heap.size + 1)
    → (∀ b, (O b) → ¬ b = w2.heap.size + 1 + 1)
    → (∀ b, (O b) → ¬ b = w2.heap.size + 1 + 1 + 1)
    → (∀ b, (O b) → ¬ w2.heap.size = b)
    → (∀ b, (O b) → ¬ w2.heap.size + 1 = b)
    → (∀ b, (O b) → ¬ w2.heap.size + 1 + 1 = b)
    → (∀ b, (O b) → ¬ w2.heap.size + 1 + 1 + 1 = b)
    → (∀ b, (O b) → b < w2.heap.size) → G) : G := by
  have hs := hb.size
  have K : ∀ b, (O b) → b < W.heap.size := by
    intro b h
    have hO : O b → b < w1.heap.size := Z b
    have := hO h; omega
  refine h (by omega) (fun b o h => hb.cell (p := ⟨b, o, none⟩) (K b h)) (fun b o h => hb.frozen (p := ⟨b, o, none⟩) (K b h)) ?_ ?_ ?_ ?_ ?_ ?_ ?_ ?_ ?_ ?_ ?_ ?_ ?_ ?_ <;>
    (intro b h; have := K b h; omega)

theorem wuse1 {O : Nat → Prop} {w1 W w2 : World} {G : Prop} (Z : ∀ b, O b → b < w1.heap.size) (hb : Below W.heap.size W w2) (hle : w1.heap.size + 1 ≤ W.heap.size)
    (h : w1.heap.size + 1 ≤ w2.heap.size
    → (∀ b o, (O b ∨ b = w1.heap.size) → w2.cell? ⟨b, o, none⟩ = W.cell? ⟨b, o, none⟩)
    → (∀ b o, (O b ∨ b = w1.heap.size) → w2.frozen? ⟨b, o, none⟩ = W.frozen? ⟨b, o, none⟩)
    → (∀ b, (O b ∨ b = w1.heap.size) → b ≤ w2.heap.size)
    → (∀ b, (O b ∨ b = w1.heap.size) → b ≤ w2.heap.size + 1)
    → (∀ b, (O b ∨ b = w1.heap.size) → b ≤ w2.heap.size + 1 + 1)
    → (∀ b, (O b ∨ b = w1.heap.size) → b ≤ w2.heap.size + 1 + 1 + 1)
    → (∀ b, (O b ∨ b = w1.heap.size) → b ≤ w2.heap.size + 1 + 1 + 1 + 1)
    → (∀ b, (O b ∨ b = w1.heap.size) → ¬ b = w2.heap.size)
    → (∀ b, (O b ∨ b = w1.heap.size) → ¬ b = w2.heap.size + 1)
    → (∀ b, (O b ∨ b = w1.heap.size) → ¬ b = w2.heap.size + 1 + 1)
    → (∀ b, (O b ∨ b = w1.heap.size) → ¬ b = w2.heap.size + 1 + 1 + 1)
    → (∀ b, (O b ∨ b = w1.heap.size) → ¬ w2.heap.size = b)
    → (∀ b, (O b ∨ b = w1.heap.size) → ¬ w2.heap.size + 1 = b)
    → (∀ b, (O b ∨ b = w1.heap.size) → ¬ w2.heap.size + 1 + 1 = b)
    → (∀ b, (O b ∨ b = w1.heap.size) → ¬ w2.heap.size + 1 + 1 + 1 = b)
    → (∀ b, (O b ∨ b = w1.heap.size) → b < w2.heap.size) → G) : G := by
  have hs := hb.size
  have K : ∀ b, (O b ∨ b = w1.heap.size) → b < W.heap.size := by
    intro b h
    have hO : O b → b < w1.heap.size := Z b
    rcases h with h | h
    · have := hO h; omega
    · omega
  refine h (by omega) (fun b o h => hb.cell (p := ⟨b, o, none⟩) (K b h)) (fun b o h => hb.frozen (p := ⟨b, o, none⟩) (K b h)) ?_ ?_ ?_ ?_ ?_ ?_ ?_ ?_ ?_ ?_ ?_ ?_ ?_ ?_ <;>
    (intro b h; have := K b h; omega)

theorem wuse2 {O : Nat → Prop} {w1 W w2 : World} {G : Prop} (Z : ∀ b, O b → b < w1.heap.size) (hb : Below W.heap.size W w2) (hle : w1.heap.size + 1 + 1 ≤ W.heap.size)
    (h : w1.heap.size + 1 + 1 ≤ w2.heap.size
    → (∀ b o, (O b ∨ b = w1.heap.size ∨ b = w1.heap.size + 1) → w2.cell? ⟨b, o, none⟩ = W.cell? ⟨b, o, none⟩)
    → (∀ b o, (O b ∨ b = w1.heap.size ∨ b = w1.heap.size + 1) → w2.frozen? ⟨b, o, none⟩ = W.frozen? ⟨b, o, none⟩)
    → (∀ b, (O b ∨ b = w1.heap.size ∨ b = w1.heap.size + 1) → b ≤ w2.heap.size)
    → (∀ b, (O b ∨ b = w1.heap.size ∨ b = w1.heap.size + 1) → b ≤ w2.heap.size + 1)
    → (∀ b, (O b ∨ b = w1.heap.size ∨ b = w1.heap.size + 1) → b ≤ w2.heap.size + 1 + 1)
    → (∀ b, (O b ∨ b = w1.heap.size ∨ b = w1.heap.size + 1) → b ≤ w2.heap.size + 1 + 1 + 1)
    → (∀ b, (O b ∨ b = w1.heap.size ∨ b = w1.heap.size + 1) → b ≤ w2.heap.size + 1 + 1 + 1 + 1)
    → (∀ b, (O b ∨ b = w1.heap.size ∨ b = w1.heap.size + 1) → ¬ b = w2.heap.size)
    → (∀ b, (O b ∨ b = w1.heap.size ∨ b = w1.heap.size + 1) → ¬ b = w2.heap.size + 1)
    → (∀ b, (O b ∨ b = w1.heap.size ∨ b = w1.heap.size + 1) → ¬ b = w2.heap.size + 1 + 1)
    → (∀ b, (O b ∨ b = w1.heap.size ∨ b = w1.heap.size + 1) → ¬ b = w2.heap.size + 1 + 1 + 1)
    → (∀ b, (O b ∨ b = w1.heap.size ∨ b = w1.heap.size + 1) → ¬ w2.heap.size = b)
    → (∀ b, (O b ∨ b = w1.heap.size ∨ b = w1.heap.size + 1) → ¬ w2.heap.size + 1 = b)
    → (∀ b, (O b ∨ b = w1.heap.size ∨ b = w1.heap.size + 1) → ¬ w2.heap.size + 1 + 1 = b)
    → (∀ b, (O b ∨ b = w1.heap.size ∨ b = w1.heap.size + 1) → ¬ w2.heap.size + 1 + 1 + 1 = b)
    → (∀ b, (O b ∨ b = w1.heap.size ∨ b = w1.heap.size + 1) → b < w2.heap.size) → G) : G := by
  have hs := hb.size
  have K : ∀ b, (O b ∨ b = w1.heap.size ∨ b = w1.heap.size + 1) → b < W.heap.size := by
    intro b h
    have hO : O b → b < w1.heap.size := Z b
    rcases h with h | h
    · have := hO h; omega
    · omega
  refine h (by omega) (fun b o h => hb.cell (p := ⟨b, o, none⟩) (K b h)) (fun b o h => hb.frozen (p := ⟨b, o, none⟩) (K b h)) ?_ ?_ ?_ ?_ ?_ ?_ ?_ ?_ ?_ ?_ ?_ ?_ ?_ ?_ <;>
    (intro b h; have := K b h; omega)

theorem wuse3 {O : Nat → Prop} {w1 W w2 : World} {G : Prop} (Z : ∀ b, O b → b < w1.heap.size) (hb : Below W.heap.size W w2) (hle : w1.heap.size + 1 + 1 + 1 ≤ W.heap.size)
    (h : w1.heap.size + 1 + 1 + 1 ≤ w2.heap.size
    → (∀ b o, (O b ∨ b = w1.heap.size ∨ b = w1.heap.size + 1 ∨ b = w1.heap.size + 1 + 1) → w2.cell? ⟨b, o, none⟩ = W.cell? ⟨b, o, none⟩)
    → (∀ b o, (O b ∨ b = w1.heap.size ∨ b = w1.heap.size + 1 ∨ b = w1.heap.size + 1 + 1) → w2.frozen? ⟨b, o, none⟩ = W.frozen? ⟨b, o, none⟩)
    → (∀ b, (O b ∨ b = w1.heap.size ∨ b = w1.heap.size + 1 ∨ b = w1.heap.size + 1 + 1) → b ≤ w2.heap.size)
    → (∀ b, (O b ∨ b = w1.heap.size ∨ b = w1.heap.size + 1 ∨ b = w1.heap.size + 1 + 1) → b ≤ w2.heap.size + 1)
    → (∀ b, (O b ∨ b = w1.heap.size ∨ b = w1.heap.size + 1 ∨ b = w1.heap.size + 1 + 1) → b ≤ w2.heap.size + 1 + 1)
    → (∀ b, (O b ∨ b = w1.heap.size ∨ b = w1.heap.size + 1 ∨ b = w1.heap.size + 1 + 1) → b ≤ w2.heap.size + 1 + 1 + 1)
    → (∀ b, (O b ∨ b = w1.heap.size ∨ b = w1.heap.size + 1 ∨ b = w1.heap.size + 1 + 1) → b ≤ w2.heap.size + 1 + 1 + 1 + 1)
    → (∀ b, (O b ∨ b = w1.heap.size ∨ b = w1.heap.size + 1 ∨ b = w1.heap.size + 1 + 1) → ¬ b = w2.heap.size)
    → (∀ b, (O b ∨ b = w1.heap.size ∨ b = w1.heap.size + 1 ∨ b = w1.heap.size + 1 + 1) → ¬ b = w2.heap.size + 1)
    → (∀ b, (O b ∨ b = w1.heap.size ∨ b = w1.heap.size + 1 ∨ b = w1.heap.size + 1 + 1) → ¬ b = w2.heap.size + 1 + 1)
    → (∀ b, (O b ∨ b = w1.heap.size ∨ b = w1.heap.size + 1 ∨ b = w1.heap.size + 1 + 1) → ¬ b = w2.heap.size + 1 + 1 + 1)
    → (∀ b, (O b ∨ b = w1.heap.size ∨ b = w1.heap.size + 1 ∨ b = w1.heap.size + 1 + 1) → ¬ w2.heap.size = b)
    → (∀ b, (O b ∨ b = w1.heap.size ∨ b = w1.heap.size + 1 ∨ b = w1.heap.size + 1 + 1) → ¬ w2.heap.size + 1 = b)
    → (∀ b, (O b ∨ b = w1.heap.size ∨ b = w1.heap.size + 1 ∨ b = w1.heap.size + 1 + 1) → ¬ w2.heap.size + 1 + 1 = b)
    → (∀ b, (O b ∨ b = w1.heap.size ∨ b = w1.heap.size + 1 ∨ b = w1.heap.size + 1 + 1) → ¬ w2.heap.size + 1 + 1 + 1 = b)
    → (∀ b, (O b ∨ b = w1.heap.size ∨ b = w1.heap.size + 1 ∨ b = w1.heap.size + 1 + 1) → b < w2.heap.size) → G) : G := by
  have hs := hb.size
  have K : ∀ b, (O b ∨ b = w1.heap.size ∨ b = w1.heap.size + 1 ∨ b = w1.heap.size + 1 + 1) → b < W.heap.size := by
    intro b h
    have hO : O b → b < w1.heap.size := Z b
    rcases h with h | h
    · have := hO h; omega
    · omega
  refine h (by omega) (fun b o h => hb.cell (p := ⟨b, o, none⟩) (K b h)) (fun b o h => hb.frozen (p := ⟨b, o, none⟩) (K b h)) ?_ ?_ ?_ ?_ ?_ ?_ ?_ ?_ ?_ ?_ ?_ ?_ ?_ ?_ <;>
    (intro b h; have := K b h; omega)

theorem wuse4 {O : Nat → Prop} {w1 W w2 : World} {G : Prop} (Z : ∀ b, O b → b < w1.heap.size) (hb : Below W.heap.size W w2) (hle : w1.heap.size + 1 + 1 + 1 + 1 ≤ W.heap.size)
    (h : w1.heap.size + 1 + 1 + 1 + 1 ≤ w2.heap.size
    → (∀ b o, (O b ∨ b = w1.heap.size ∨ b = w1.heap.size + 1 ∨ b = w1.heap.size + 1 + 1 ∨ b = w1.heap.size + 1 + 1 + 1) → w2.cell? ⟨b, o, none⟩ = W.cell? ⟨b, o, none⟩)
    → (∀ b o, (O b ∨ b = w1.heap.size ∨ b = w1.heap.size + 1 ∨ b = w1.heap.size + 1 + 1 ∨ b = w1.heap.size + 1 + 1 + 1) → w2.frozen? ⟨b, o, none⟩ = W.frozen? ⟨b, o, none⟩)
    → (∀ b, (O b ∨ b = w1.heap.size ∨ b = w1.heap.size + 1 ∨ b = w1.heap.size + 1 + 1 ∨ b = w1.heap.size + 1 + 1 + 1) → b ≤ w2.heap.size)
    → (∀ b, (O b ∨ b = w1.heap.size ∨ b = w1.heap.size + 1 ∨ b = w1.heap.size + 1 + 1 ∨ b = w1.heap.size + 1 + 1 + 1) → b ≤ w2.heap.size + 1)
    → (∀ b, (O b ∨ b = w1.heap.size ∨ b = w1.heap.size + 1 ∨ b = w1.heap.size + 1 + 1 ∨ b = w1.heap.size + 1 + 1 + 1) → b ≤ w2.heap.size + 1 + 1)
    → (∀ b, (O b ∨ b = w1.heap.size ∨ b = w1.heap.size + 1 ∨ b = w1.heap.size + 1 + 1 ∨ b = w1.heap.size + 1 + 1 + 1) → b ≤ w2.heap.size + 1 + 1 + 1)
    → (∀ b, (O b ∨ b = w1.heap.size ∨ b = w1.heap.size + 1 ∨ b = w1.heap.size + 1 + 1 ∨ b = w1.heap.size + 1 + 1 + 1) → b ≤ w2.heap.size + 1 + 1 + 1 + 1)
    → (∀ b, (O b ∨ b = w1.heap.size ∨ b = w1.heap.size + 1 ∨ b = w1.heap.size + 1 + 1 ∨ b = w1.heap.size + 1 + 1 + 1) → ¬ b = w2.heap.size)
    → (∀ b, (O b ∨ b = w1.heap.size ∨ b = w1.heap.size + 1 ∨ b = w1.heap.size + 1 + 1 ∨ b = w1.heap.size + 1 + 1 + 1) → ¬ b = w2.heap.size + 1)
    → (∀ b, (O b ∨ b = w1.heap.size ∨ b = w1.heap.size + 1 ∨ b = w1.heap.size + 1 + 1 ∨ b = w1.heap.size + 1 + 1 + 1) → ¬ b = w2.heap.size + 1 + 1)
    → (∀ b, (O b ∨ b = w1.heap.size ∨ b = w1.heap.size + 1 ∨ b = w1.heap.size + 1 + 1 ∨ b = w1.heap.size + 1 + 1 + 1) → ¬ b = w2.heap.size + 1 + 1 + 1)
    → (∀ b, (O b ∨ b = w1.heap.size ∨ b = w1.heap.size + 1 ∨ b = w1.heap.size + 1 + 1 ∨ b = w1.heap.size + 1 + 1 + 1) → ¬ w2.heap.size = b)
    → (∀ b, (O b ∨ b = w1.heap.size ∨ b = w1.heap.size + 1 ∨ b = w1.heap.size + 1 + 1 ∨ b = w1.heap.size + 1 + 1 + 1) → ¬ w2.heap.size + 1 = b)
    → (∀ b, (O b ∨ b = w1.heap.size ∨ b = w1.heap.size + 1 ∨ b = w1.heap.size + 1 + 1 ∨ b = w1.heap.size + 1 + 1 + 1) → ¬ w2.heap.size + 1 + 1 = b)
    → (∀ b, (O b ∨ b = w1.heap.size ∨ b = w1.heap.size + 1 ∨ b = w1.heap.size + 1 + 1 ∨ b = w1.heap.size + 1 + 1 + 1) → ¬ w2.heap.size + 1 + 1 + 1 = b)
    → (∀ b, (O b ∨ b = w1.heap.size ∨ b = w1.heap.size + 1 ∨ b = w1.heap.size + 1 + 1 ∨ b = w1.heap.size + 1 + 1 + 1) → b < w2.heap.size) → G) : G := by
  have hs := hb.size
  have K : ∀ b, (O b ∨ b = w1.heap.size ∨ b = w1.heap.size + 1 ∨ b = w1.heap.size + 1 + 1 ∨ b = w1.heap.size + 1 + 1 + 1) → b < W.heap.size := by
    intro b h
    have hO : O b → b < w1.heap.size := Z b
    rcases h with h | h
    · have := hO h; omega
    · omega
  refine h (by omega) (fun b o h => hb.cell (p := ⟨b, o, none⟩) (K b h)) (fun b o h => hb.frozen (p := ⟨b, o, none⟩) (K b h)) ?_ ?_ ?_ ?_ ?_ ?_ ?_ ?_ ?_ ?_ ?_ ?_ ?_ ?_ <;>
    (intro b h; have := K b h; omega)

theorem wuse5 {O : Nat → Prop} {w1 W w2 : World} {G : Prop} (Z : ∀ b, O b → b < w1.heap.size) (hb : Below W.heap.size W w2) (hle : w1.heap.size + 1 + 1 + 1 + 1 + 1 ≤ W.heap.size)
    (h : w1.heap.size + 1 + 1 + 1 + 1 + 1 ≤ w2.heap.size
    → (∀ b o, (O b ∨ b = w1.heap.size ∨ b = w1.heap.size + 1 ∨ b = w1.heap.size + 1 + 1 ∨ b = w1.heap.size + 1 + 1 + 1 ∨ b = w1.heap.size + 1 + 1 + 1 + 1) → w2.cell? ⟨b, o, none⟩ = W.cell? ⟨b, o, none⟩)
    → (∀ b o, (O b ∨ b = w1.heap.size ∨ b = w1.heap.size + 1 ∨ b = w1.heap.size + 1 + 1 ∨ b = w1.heap.size + 1 + 1 + 1 ∨ b = w1.heap.size + 1 + 1 + 1 + 1) → w2.frozen? ⟨b, o, none⟩ = W.frozen? ⟨b, o, none⟩)
    → (∀ b, (O b ∨ b = w1.heap.size ∨ b = w1.heap.size + 1 ∨ b = w1.heap.size + 1 + 1 ∨ b = w1.heap.size + 1 + 1 + 1 ∨ b = w1.heap.size + 1 + 1 + 1 + 1) → b ≤ w2.heap.size)
    → (∀ b, (O b ∨ b = w1.heap.size ∨ b = w1.heap.size + 1 ∨ b = w1.heap.size + 1 + 1 ∨ b = w1.heap.size + 1 + 1 + 1 ∨ b = w1.heap.size + 1 + 1 + 1 + 1) → b ≤ w2.heap.size + 1)
    → (∀ b, (O b ∨ b = w1.heap.size ∨ b = w1.heap.size + 1 ∨ b = w1.heap.size + 1 + 1 ∨ b = w1.heap.size + 1 + 1 + 1 ∨ b = w1.heap.size + 1 + 1 + 1 + 1) → b ≤ w2.heap.size + 1 + 1)
    → (∀ b, (O b ∨ b = w1.heap.size ∨ b = w1.heap.size + 1 ∨ b = w1.heap.size + 1 + 1 ∨ b = w1.heap.size + 1 + 1 + 1 ∨ b = w1.heap.size + 1 + 1 + 1 + 1) → b ≤ w2.heap.size + 1 + 1 + 1)
    → (∀ b, (O b ∨ b = w1.heap.size ∨ b = w1.heap.size + 1 ∨ b = w1.heap.size + 1 + 1 ∨ b = w1.heap.size + 1 + 1 + 1 ∨ b = w1.heap.size + 1 + 1 + 1 + 1) → b ≤ w2.heap.size + 1 + 1 + 1 + 1)
    → (∀ b, (O b ∨ b = w1.heap.size ∨ b = w1.heap.size + 1 ∨ b = w1.heap.size + 1 + 1 ∨ b = w1.heap.size + 1 + 1 + 1 ∨ b = w1.heap.size + 1 + 1 + 1 + 1) → ¬ b = w2.heap.size)
    → (∀ b, (O b ∨ b = w1.heap.size ∨ b = w1.heap.size + 1 ∨ b = w1.heap.size + 1 + 1 ∨ b = w1.heap.size + 1 + 1 + 1 ∨ b = w1.heap.size + 1 + 1 + 1 + 1) → ¬ b = w2.heap.size + 1)
    → (∀ b, (O b ∨ b = w1.heap.size ∨ b = w1.heap.size + 1 ∨ b = w1.heap.size + 1 + 1 ∨ b = w1.heap.size + 1 + 1 + 1 ∨ b = w1.heap.size + 1 + 1 + 1 + 1) → ¬ b = w2.heap.size + 1 + 1)
    → (∀ b, (O b ∨ b = w1.heap.size ∨ b = w1.heap.size + 1 ∨ b = w1.heap.size + 1 + 1 ∨ b = w1.heap.size + 1 + 1 + 1 ∨ b = w1.heap.size + 1 + 1 + 1 + 1) → ¬ b = w2.heap.size + 1 + 1 + 1)
    → (∀ b, (O b ∨ b = w1.heap.size ∨ b = w1.heap.size + 1 ∨ b = w1.heap.size + 1 + 1 ∨ b = w1.heap.size + 1 + 1 + 1 ∨ b = w1.heap.size + 1 + 1 + 1 + 1) → ¬ w2.heap.size = b)
    → (∀ b, (O b ∨ b = w1.heap.size ∨ b = w1.heap.size + 1 ∨ b = w1.heap.size + 1 + 1 ∨ b = w1.heap.size + 1 + 1 + 1 ∨ b = w1.heap.size + 1 + 1 + 1 + 1) → ¬ w2.heap.size + 1 = b)
    → (∀ b, (O b ∨ b = w1.heap.size ∨ b = w1.heap.size + 1 ∨ b = w1.heap.size + 1 + 1 ∨ b = w1.heap.size + 1 + 1 + 1 ∨ b = w1.heap.size + 1 + 1 + 1 + 1) → ¬ w2.heap.size + 1 + 1 = b)
    → (∀ b, (O b ∨ b = w1.heap.size ∨ b = w1.heap.size + 1 ∨ b = w1.heap.size + 1 + 1 ∨ b = w1.heap.size + 1 + 1 + 1 ∨ b = w1.heap.size + 1 + 1 + 1 + 1) → ¬ w2.heap.size + 1 + 1 + 1 = b)
    → (∀ b, (O b ∨ b = w1.heap.size ∨ b = w1.heap.size + 1 ∨ b = w1.heap.size + 1 + 1 ∨ b = w1.heap.size + 1 + 1 + 1 ∨ b = w1.heap.size + 1 + 1 + 1 + 1) → b < w2.heap.size) → G) : G := by
  have hs := hb.size
  have K : ∀ b, (O b ∨ b = w1.heap.size ∨ b = w1.heap.size + 1 ∨ b = w1.heap.size + 1 + 1 ∨ b = w1.heap.size + 1 + 1 + 1 ∨ b = w1.heap.size + 1 + 1 + 1 + 1) → b < W.heap.size := by
    intro b h
    have hO : O b → b < w1.heap.size := Z b
    rcases h with h | h
    · have := hO h; omega
    · omega
  refine h (by omega) (fun b o h => hb.cell (p := ⟨b, o, none⟩) (K b h)) (fun b o h => hb.frozen (p := ⟨b, o, none⟩) (K b h)) ?_ ?_ ?_ ?_ ?_ ?_ ?_ ?_ ?_ ?_ ?_ ?_ ?_ ?_ <;>
    (intro b h; have := K b h; omega)

theorem wuse6 {O : Nat → Prop} {w1 W w2 : World} {G : Prop} (Z : ∀ b, O b → b < w1.heap.size) (hb : Below W.heap.size W w2) (hle : w1.heap.size + 1 + 1 + 1 + 1 + 1 + 1 ≤ W.heap.size)
    (h : w1.heap.size + 1 + 1 + 1 + 1 + 1 + 1 ≤ w2.heap.size
    → (∀ b o, (O b ∨ b = w1.heap.size ∨ b = w1.heap.size + 1 ∨ b = w1.heap.size + 1 + 1 ∨ b = w1.heap.size + 1 + 1 + 1 ∨ b = w1.heap.size + 1 + 1 + 1 + 1 ∨ b = w1.heap.size + 1 + 1 + 1 + 1 + 1) → w2.cell? ⟨b, o, none⟩ = W.cell? ⟨b, o, none⟩)
    → (∀ b o, (O b ∨ b = w1.heap.size ∨ b = w1.heap.size + 1 ∨ b = w1.heap.size + 1 + 1 ∨ b = w1.heap.size + 1 + 1 + 1 ∨ b = w1.heap.size + 1 + 1 + 1 + 1 ∨ b = w1.heap.size + 1 + 1 + 1 + 1 + 1) → w2.frozen? ⟨b, o, none⟩ = W.frozen? ⟨b, o, none⟩)
    → (∀ b, (O b ∨ b = w1.heap.size ∨ b = w1.heap.size + 1 ∨ b = w1.heap.size + 1 + 1 ∨ b = w1.heap.size + 1 + 1 + 1 ∨ b = w1.heap.size + 1 + 1 + 1 + 1 ∨ b = w1.heap.size + 1 + 1 + 1 + 1 + 1) → b ≤ w2.heap.size)
    → (∀ b, (O b ∨ b = w1.heap.size ∨ b = w1.heap.size + 1 ∨ b = w1.heap.size + 1 + 1 ∨ b = w1.heap.size + 1 + 1 + 1 ∨ b = w1.heap.size + 1 + 1 + 1 + 1 ∨ b = w1.heap.size + 1 + 1 + 1 + 1 + 1) → b ≤ w2.heap.size + 1)
    → (∀ b, (O b ∨ b = w1.heap.size ∨ b = w1.heap.size + 1 ∨ b = w1.heap.size + 1 + 1 ∨ b = w1.heap.size + 1 + 1 + 1 ∨ b = w1.heap.size + 1 + 1 + 1 + 1 ∨ b = w1.heap.size + 1 + 1 + 1 + 1 + 1) → b ≤ w2.heap.size + 1 + 1)
    → (∀ b, (O b ∨ b = w1.heap.size ∨ b = w1.heap.size + 1 ∨ b = w1.heap.size + 1 + 1 ∨ b = w1.heap.size + 1 + 1 + 1 ∨ b = w1.heap.size + 1 + 1 + 1 + 1 ∨ b = w1.heap.size + 1 + 1 + 1 + 1 + 1) → b ≤ w2.heap.size + 1 + 1 + 1)
    → (∀ b, (O b ∨ b = w1.heap.size ∨ b = w1.heap.size + 1 ∨ b = w1.heap.size + 1 + 1 ∨ b = w1.heap.size + 1 + 1 + 1 ∨ b = w1.heap.size + 1 + 1 + 1 + 1 ∨ b = w1.heap.size + 1 + 1 + 1 + 1 + 1) → b ≤ w2.heap.size + 1 + 1 + 1 + 1)
    → (∀ b, (O b ∨ b = w1.heap.size ∨ b = w1.heap.size + 1 ∨ b = w1.heap.size + 1 + 1 ∨ b = w1.heap.size + 1 + 1 + 1 ∨ b = w1.heap.size + 1 + 1 + 1 + 1 ∨ b = w1.heap.size + 1 + 1 + 1 + 1 + 1) → ¬ b = w2.heap.size)
    → (∀ b, (O b ∨ b = w1.heap.size ∨ b = w1.heap.size + 1 ∨ b = w1.heap.size + 1 + 1 ∨ b = w1.heap.size + 1 + 1 + 1 ∨ b = w1.heap.size + 1 + 1 + 1 + 1 ∨ b = w1.heap.size + 1 + 1 + 1 + 1 + 1) → ¬ b = w2.heap.size + 1)
    → (∀ b, (O b ∨ b = w1.heap.size ∨ b = w1.heap.size + 1 ∨ b = w1.heap.size + 1 + 1 ∨ b = w1.heap.size + 1 + 1 + 1 ∨ b = w1.heap.size + 1 + 1 + 1 + 1 ∨ b = w1.heap.size + 1 + 1 + 1 + 1 + 1) → ¬ b = w2.heap.size + 1 + 1)
    → (∀ b, (O b ∨ b = w1.heap.size ∨ b = w1.heap.size + 1 ∨ b = w1.heap.size + 1 + 1 ∨ b = w1.heap.size + 1 + 1 + 1 ∨ b = w1.heap.size + 1 + 1 + 1 + 1 ∨ b = w1.heap.size + 1 + 1 + 1 + 1 + 1) → ¬ b = w2.heap.size + 1 + 1 + 1)
    → (∀ b, (O b ∨ b = w1.heap.size ∨ b = w1.heap.size + 1 ∨ b = w1.heap.size + 1 + 1 ∨ b = w1.heap.size + 1 + 1 + 1 ∨ b = w1.heap.size + 1 + 1 + 1 + 1 ∨ b = w1.heap.size + 1 + 1 + 1 + 1 + 1) → ¬ w2.heap.size = b)
    → (∀ b, (O b ∨ b = w1.heap.size ∨ b = w1.heap.size + 1 ∨ b = w1.heap.size + 1 + 1 ∨ b = w1.heap.size + 1 + 1 + 1 ∨ b = w1.heap.size + 1 + 1 + 1 + 1 ∨ b = w1.heap.size + 1 + 1 + 1 + 1 + 1) → ¬ w2.heap.size + 1 = b)
    → (∀ b, (O b ∨ b = w1.heap.size ∨ b = w1.heap.size + 1 ∨ b = w1.heap.size + 1 + 1 ∨ b = w1.heap.size + 1 + 1 + 1 ∨ b = w1.heap.size + 1 + 1 + 1 + 1 ∨ b = w1.heap.size + 1 + 1 + 1 + 1 + 1) → ¬ w2.heap.size + 1 + 1 = b)
    → (∀ b, (O b ∨ b = w1.heap.size ∨ b = w1.heap.size + 1 ∨ b = w1.heap.size + 1 + 1 ∨ b = w1.heap.size + 1 + 1 + 1 ∨ b = w1.heap.size + 1 + 1 + 1 + 1 ∨ b = w1.heap.size + 1 + 1 + 1 + 1 + 1) → ¬ w2.heap.size + 1 + 1 + 1 = b)
    → (∀ b, (O b ∨ b = w1.heap.size ∨ b = w1.heap.size + 1 ∨ b = w1.heap.size + 1 + 1 ∨ b = w1.heap.size + 1 + 1 + 1 ∨ b = w1.heap.size + 1 + 1 + 1 + 1 ∨ b = w1.heap.size + 1 + 1 + 1 + 1 + 1) → b < w2.heap.size) → G) : G := by
  have hs := hb.size
  have K : ∀ b, (O b ∨ b = w1.heap.size ∨ b = w1.heap.size + 1 ∨ b = w1.heap.size + 1 + 1 ∨ b = w1.heap.size + 1 + 1 + 1 ∨ b = w1.heap.size + 1 + 1 + 1 + 1 ∨ b = w1.heap.size + 1 + 1 + 1 + 1 + 1) → b < W.heap.size := by
    intro b h
    have hO : O b → b < w1.heap.size := Z b
    rcases h with h | h
    · have := hO h; omega
    · omega
  refine h (by omega) (fun b o h => hb.cell (p := ⟨b, o, none⟩) (K b h)) (fun b o h => hb.frozen (p := ⟨b, o, none⟩) (K b h)) ?_ ?_ ?_ ?_ ?_ ?_ ?_ ?_ ?_ ?_ ?_ ?_ ?_ ?_ <;>
    (intro b h; have := K b h; omega)

theorem wuse7 {O : Nat → Prop} {w1 W w2 : World} {G : Prop} (Z : ∀ b, O b → b < w1.heap.size) (hb : Below W.heap.size W w2) (hle : w1.heap.size + 1 + 1 + 1 + 1 + 1 + 1 + 1 ≤ W.heap.size)
    (h : w1.heap.size + 1 + 1 + 1 + 1 + 1 + 1 + 1 ≤ w2.heap.size
    → (∀ b o, (O b ∨ b = w1.heap.size ∨ b = w1.heap.size + 1 ∨ b = w1.heap.size + 1 + 1 ∨ b = w1.heap.size + 1 + 1 + 1 ∨ b = w1.heap.size + 1 + 1 + 1 + 1 ∨ b = w1.heap.size + 1 + 1 + 1 + 1 + 1 ∨ b = w1.heap.size + 1 + 1 + 1 + 1 + 1 + 1) → w2.cell? ⟨b, o, none⟩ = W.cell? ⟨b, o, none⟩)
    → (∀ b o, (O b ∨ b = w1.heap.size ∨ b = w1.heap.size + 1 ∨ b = w1.heap.size + 1 + 1 ∨ b = w1.heap.size + 1 + 1 + 1 ∨ b = w1.heap.size + 1 + 1 + 1 + 1 ∨ b = w1.heap.size + 1 + 1 + 1 + 1 + 1 ∨ b = w1.heap.size + 1 + 1 + 1 + 1 + 1 + 1) → w2.frozen? ⟨b, o, none⟩ = W.frozen? ⟨b, o, none⟩)
    → (∀ b, (O b ∨ b = w1.heap.size ∨ b = w1.heap.size + 1 ∨ b = w1.heap.size + 1 + 1 ∨ b = w1.heap.size + 1 + 1 + 1 ∨ b = w1.heap.size + 1 + 1 + 1 + 1 ∨ b = w1.heap.size + 1 + 1 + 1 + 1 + 1 ∨ b = w1.heap.size + 1 + 1 + 1 + 1 + 1 + 1) → b ≤ w2.heap.size)
    → (∀ b, (O b ∨ b = w1.heap.size ∨ b = w1.heap.size + 1 ∨ b = w1.heap.size + 1 + 1 ∨ b = w1.heap.size + 1 + 1 + 1 ∨ b = w1.heap.size + 1 + 1 + 1 + 1 ∨ b = w1.heap.size + 1 + 1 + 1 + 1 + 1 ∨ b = w1.heap.size + 1 + 1 + 1 + 1 + 1 + 1) → b ≤ w2.heap.size + 1)
    → (∀ b, (O b ∨ b = w1.heap.size ∨ b = w1.heap.size + 1 ∨ b = w1.heap.size + 1 + 1 ∨ b = w1.heap.size + 1 + 1 + 1 ∨ b = w1.heap.size + 1 + 1 + 1 + 1 ∨ b = w1.heap.size + 1 + 1 + 1 + 1 + 1 ∨ b = w1.heap.size + 1 + 1 + 1 + 1 + 1 + 1) → b ≤ w2.heap.size + 1 + 1)
    → (∀ b, (O b ∨ b = w1.heap.size ∨ b = w1.heap.size + 1 ∨ b = w1.heap.size + 1 + 1 ∨ b = w1.heap.size + 1 + 1 + 1 ∨ b = w1.heap.size + 1 + 1 + 1 + 1 ∨ b = w1.heap.size + 1 + 1 + 1 + 1 + 1 ∨ b = w1.heap.size + 1 + 1 + 1 + 1 + 1 + 1) → b ≤ w2.heap.size + 1 + 1 + 1)
    → (∀ b, (O b ∨ b = w1.heap.size ∨ b = w1.heap.size + 1 ∨ b = w1.heap.size + 1 + 1 ∨ b = w1.heap.size + 1 + 1 + 1 ∨ b = w1.heap.size + 1 + 1 + 1 + 1 ∨ b = w1.heap.size + 1 + 1 + 1 + 1 + 1 ∨ b = w1.heap.size + 1 + 1 + 1 + 1 + 1 + 1) → b ≤ w2.heap.size + 1 + 1 + 1 + 1)
    → (∀ b, (O b ∨ b = w1.heap.size ∨ b = w1.heap.size + 1 ∨ b = w1.heap.size + 1 + 1 ∨ b = w1.heap.size + 1 + 1 + 1 ∨ b = w1.heap.size + 1 + 1 + 1 + 1 ∨ b = w1.heap.size + 1 + 1 + 1 + 1 + 1 ∨ b = w1.heap.size + 1 + 1 + 1 + 1 + 1 + 1) → ¬ b = w2.heap.size)
    → (∀ b, (O b ∨ b = w1.heap.size ∨ b = w1.heap.size + 1 ∨ b = w1.heap.size + 1 + 1 ∨ b = w1.heap.size + 1 + 1 + 1 ∨ b = w1.heap.size + 1 + 1 + 1 + 1 ∨ b = w1.heap.size + 1 + 1 + 1 + 1 + 1 ∨ b = w1.heap.size + 1 + 1 + 1 + 1 + 1 + 1) → ¬ b = w2.heap.size + 1)
    → (∀ b, (O b ∨ b = w1.heap.size ∨ b = w1.heap.size + 1 ∨ b = w1.heap.size + 1 + 1 ∨ b = w1.heap.size + 1 + 1 + 1 ∨ b = w1.heap.size + 1 + 1 + 1 + 1 ∨ b = w1.heap.size + 1 + 1 + 1 + 1 + 1 ∨ b = w1.heap.size + 1 + 1 + 1 + 1 + 1 + 1) → ¬ b = w2.heap.size + 1 + 1)
    → (∀ b, (O b ∨ b = w1.heap.size ∨ b = w1.heap.size + 1 ∨ b = w1.heap.size + 1 + 1 ∨ b = w1.heap.size + 1 + 1 + 1 ∨ b = w1.heap.size + 1 + 1 + 1 + 1 ∨ b = w1.heap.size + 1 + 1 + 1 + 1 + 1 ∨ b = w1.heap.size + 1 + 1 + 1 + 1 + 1 + 1) → ¬ b = w2.heap.size + 1 + 1 + 1)
    → (∀ b, (O b ∨ b = w1.heap.size ∨ b = w1.heap.size + 1 ∨ b = w1.heap.size + 1 + 1 ∨ b = w1.heap.size + 1 + 1 + 1 ∨ b = w1.heap.size + 1 + 1 + 1 + 1 ∨ b = w1.heap.size + 1 + 1 + 1 + 1 + 1 ∨ b = w1.heap.size + 1 + 1 + 1 + 1 + 1 + 1) → ¬ w2.heap.size = b)
    → (∀ b, (O b ∨ b = w1.heap.size ∨ b = w1.heap.size + 1 ∨ b = w1.heap.size + 1 + 1 ∨ b = w1.heap.size + 1 + 1 + 1 ∨ b = w1.heap.size + 1 + 1 + 1 + 1 ∨ b = w1.heap.size + 1 + 1 + 1 + 1 + 1 ∨ b = w1.heap.size + 1 + 1 + 1 + 1 + 1 + 1) → ¬ w2.heap.size + 1 = b)
    → (∀ b, (O b ∨ b = w1.heap.size ∨ b = w1.heap.size + 1 ∨ b = w1.heap.size + 1 + 1 ∨ b = w1.heap.size + 1 + 1 + 1 ∨ b = w1.heap.size + 1 + 1 + 1 + 1 ∨ b = w1.heap.size + 1 + 1 + 1 + 1 + 1 ∨ b = w1.heap.size + 1 + 1 + 1 + 1 + 1 + 1) → ¬ w2.heap.size + 1 + 1 = b)
    → (∀ b, (O b ∨ b = w1.heap.size ∨ b = w1.heap.size + 1 ∨ b = w1.heap.size + 1 + 1 ∨ b = w1.heap.size + 1 + 1 + 1 ∨ b = w1.heap.size + 1 + 1 + 1 + 1 ∨ b = w1.heap.size + 1 + 1 + 1 + 1 + 1 ∨ b = w1.heap.size + 1 + 1 + 1 + 1 + 1 + 1) → ¬ w2.heap.size + 1 + 1 + 1 = b)
    → (∀ b, (O b ∨ b = w1.heap.size ∨ b = w1.heap.size + 1 ∨ b = w1.heap.size + 1 + 1 ∨ b = w1.heap.size + 1 + 1 + 1 ∨ b = w1.heap.size + 1 + 1 + 1 + 1 ∨ b = w1.heap.size + 1 + 1 + 1 + 1 + 1 ∨ b = w1.heap.size + 1 + 1 + 1 + 1 + 1 + 1) → b < w2.heap.size) → G) : G := by
  have hs := hb.size
  have K : ∀ b, (O b ∨ b = w1.heap.size ∨ b = w1.heap.size + 1 ∨ b = w1.heap.size + 1 + 1 ∨ b = w1.heap.size + 1 + 1 + 1 ∨ b = w1.heap.size + 1 + 1 + 1 + 1 ∨ b = w1.heap.size + 1 + 1 + 1 + 1 + 1 ∨ b = w1.heap.size + 1 + 1 + 1 + 1 + 1 + 1) → b < W.heap.size := by
    intro b h
    have hO : O b → b < w1.heap.size := Z b
    rcases h with h | h
    · have := hO h; omega
    · omega
  refine h (by omega) (fun b o h => hb.cell (p := ⟨b, o, none⟩) (K b h)) (fun b o h => hb.frozen (p := ⟨b, o, none⟩) (K b h)) ?_ ?_ ?_ ?_ ?_ ?_ ?_ ?_ ?_ ?_ ?_ ?_ ?_ ?_ <;>
    (intro b h; have := K b h; omega)

theorem wuse8 {O : Nat → Prop} {w1 W w2 : World} {G : Prop} (Z : ∀ b, O b → b < w1.heap.size) (hb : Below W.heap.size W w2) (hle : w1.heap.size + 1 + 1 + 1 + 1 + 1 + 1 + 1 + 1 ≤ W.heap.size)
    (h : w1.heap.size + 1 + 1 + 1 + 1 + 1 + 1 + 1 + 1 ≤ w2.heap.size
    → (∀ b o, (O b ∨ b = w1.heap.size ∨ b = w1.heap.size + 1 ∨ b = w1.heap.size + 1 + 1 ∨ b = w1.heap.size + 1 + 1 + 1 ∨ b = w1.heap.size + 1 + 1 + 1 + 1 ∨ b = w1.heap.size + 1 + 1 + 1 + 1 + 1 ∨ b = w1.heap.size + 1 + 1 + 1 + 1 + 1 + 1 ∨ b = w1.heap.size + 1 + 1 + 1 + 1 + 1 + 1 + 1) → w2.cell? ⟨b, o, none⟩ = W.cell? ⟨b, o, none⟩)
    → (∀ b o, (O b ∨ b = w1.heap.size ∨ b = w1.heap.size + 1 ∨ b = w1.heap.size + 1 + 1 ∨ b = w1.heap.size + 1 + 1 + 1 ∨ b = w1.heap.size + 1 + 1 + 1 + 1 ∨ b = w1.heap.size + 1 + 1 + 1 + 1 + 1 ∨ b = w1.heap.size + 1 + 1 + 1 + 1 + 1 + 1 ∨ b = w1.heap.size + 1 + 1 + 1 + 1 + 1 + 1 + 1) → w2.frozen? ⟨b, o, none⟩ = W.frozen? ⟨b, o, none⟩)
    → (∀ b, (O b ∨ b = w1.heap.size ∨ b = w1.heap.size + 1 ∨ b = w1.heap.size + 1 + 1 ∨ b = w1.heap.size + 1 + 1 + 1 ∨ b = w1.heap.size + 1 + 1 + 1 + 1 ∨ b = w1.heap.size + 1 + 1 + 1 + 1 + 1 ∨ b = w1.heap.size + 1 + 1 + 1 + 1 + 1 + 1 ∨ b = w1.heap.size + 1 + 1 + 1 + 1 + 1 + 1 + 1) → b ≤ w2.heap.size)
    → (∀ b, (O b ∨ b = w1.heap.size ∨ b = w1.heap.size + 1 ∨ b = w1.heap.size + 1 + 1 ∨ b = w1.heap.size + 1 + 1 + 1 ∨ b = w1.heap.size + 1 + 1 + 1 + 1 ∨ b = w1.heap.size + 1 + 1 + 1 + 1 + 1 ∨ b = w1.heap.size + 1 + 1 + 1 + 1 + 1 + 1 ∨ b = w1.heap.size + 1 + 1 + 1 + 1 + 1 + 1 + 1) → b ≤ w2.heap.size + 1)
    → (∀ b, (O b ∨ b = w1.heap.size ∨ b = w1.heap.size + 1 ∨ b = w1.heap.size + 1 + 1 ∨ b = w1.heap.size + 1 + 1 + 1 ∨ b = w1.heap.size + 1 + 1 + 1 + 1 ∨ b = w1.heap.size + 1 + 1 + 1 + 1 + 1 ∨ b = w1.heap.size + 1 + 1 + 1 + 1 + 1 + 1 ∨ b = w1.heap.size + 1 + 1 + 1 + 1 + 1 + 1 + 1) → b ≤ w2.heap.size + 1 + 1)
    → (∀ b, (O b ∨ b = w1.heap.size ∨ b = w1.heap.size + 1 ∨ b = w1.heap.size + 1 + 1 ∨ b = w1.heap.size + 1 + 1 + 1 ∨ b = w1.heap.size + 1 + 1 + 1 + 1 ∨ b = w1.heap.size + 1 + 1 + 1 + 1 + 1 ∨ b = w1.heap.size + 1 + 1 + 1 + 1 + 1 + 1 ∨ b = w1.heap.size + 1 + 1 + 1 + 1 + 1 + 1 + 1) → b ≤ w2.heap.size + 1 + 1 + 1)
    → (∀ b, (O b ∨ b = w1.heap.size ∨ b = w1.heap.size + 1 ∨ b = w1.heap.size + 1 + 1 ∨ b = w1.heap.size + 1 + 1 + 1 ∨ b = w1.heap.size + 1 + 1 + 1 + 1 ∨ b = w1.heap.size + 1 + 1 + 1 + 1 + 1 ∨ b = w1.heap.size + 1 + 1 + 1 + 1 + 1 + 1 ∨ b = w1.heap.size + 1 + 1 + 1 + 1 + 1 + 1 + 1) → b ≤ w2.heap.size + 1 + 1 + 1 + 1)
    → (∀ b, (O b ∨ b = w1.heap.size ∨ b = w1.heap.size + 1 ∨ b = w1.heap.size + 1 + 1 ∨ b = w1.heap.size + 1 + 1 + 1 ∨ b = w1.heap.size + 1 + 1 + 1 + 1 ∨ b = w1.heap.size + 1 + 1 + 1 + 1 + 1 ∨ b = w1.heap.size + 1 + 1 + 1 + 1 + 1 + 1 ∨ b = w1.heap.size + 1 + 1 + 1 + 1 + 1 + 1 + 1) → ¬ b = w2.heap.size)
    → (∀ b, (O b ∨ b = w1.heap.size ∨ b = w1.heap.size + 1 ∨ b = w1.heap.size + 1 + 1 ∨ b = w1.heap.size + 1 + 1 + 1 ∨ b = w1.heap.size + 1 + 1 + 1 + 1 ∨ b = w1.heap.size + 1 + 1 + 1 + 1 + 1 ∨ b = w1.heap.size + 1 + 1 + 1 + 1 + 1 + 1 ∨ b = w1.heap.size + 1 + 1 + 1 + 1 + 1 + 1 + 1) → ¬ b = w2.heap.size + 1)
    → (∀ b, (O b ∨ b = w1.heap.size ∨ b = w1.heap.size + 1 ∨ b = w1.heap.size + 1 + 1 ∨ b = w1.heap.size + 1 + 1 + 1 ∨ b = w1.heap.size + 1 + 1 + 1 + 1 ∨ b = w1.heap.size + 1 + 1 + 1 + 1 + 1 ∨ b = w1.heap.size + 1 + 1 + 1 + 1 + 1 + 1 ∨ b = w1.heap.size + 1 + 1 + 1 + 1 + 1 + 1 + 1) → ¬ b = w2.heap.size + 1 + 1)
    → (∀ b, (O b ∨ b = w1.heap.size ∨ b = w1.heap.size + 1 ∨ b = w1.heap.size + 1 + 1 ∨ b = w1.heap.size + 1 + 1 + 1 ∨ b = w1.heap.size + 1 + 1 + 1 + 1 ∨ b = w1.heap.size + 1 + 1 + 1 + 1 + 1 ∨ b = w1.heap.size + 1 + 1 + 1 + 1 + 1 + 1 ∨ b = w1.heap.size + 1 + 1 + 1 + 1 + 1 + 1 + 1) → ¬ b = w2.heap.size + 1 + 1 + 1)
    → (∀ b, (O b ∨ b = w1.heap.size ∨ b = w1.heap.size + 1 ∨ b = w1.heap.size + 1 + 1 ∨ b = w1.heap.size + 1 + 1 + 1 ∨ b = w1.heap.size + 1 + 1 + 1 + 1 ∨ b = w1.heap.size + 1 + 1 + 1 + 1 + 1 ∨ b = w1.heap.size + 1 + 1 + 1 + 1 + 1 + 1 ∨ b = w1.heap.size + 1 + 1 + 1 + 1 + 1 + 1 + 1) → ¬ w2.heap.size = b)
    → (∀ b, (O b ∨ b = w1.heap.size ∨ b = w1.heap.size + 1 ∨ b = w1.heap.size + 1 + 1 ∨ b = w1.heap.size + 1 + 1 + 1 ∨ b = w1.heap.size + 1 + 1 + 1 + 1 ∨ b = w1.heap.size + 1 + 1 + 1 + 1 + 1 ∨ b = w1.heap.size + 1 + 1 + 1 + 1 + 1 + 1 ∨ b = w1.heap.size + 1 + 1 + 1 + 1 + 1 + 1 + 1) → ¬ w2.heap.size + 1 = b)
    → (∀ b, (O b ∨ b = w1.heap.size ∨ b = w1.heap.size + 1 ∨ b = w1.heap.size + 1 + 1 ∨ b = w1.heap.size + 1 + 1 + 1 ∨ b = w1.heap.size + 1 + 1 + 1 + 1 ∨ b = w1.heap.size + 1 + 1 + 1 + 1 + 1 ∨ b = w1.heap.size + 1 + 1 + 1 + 1 + 1 + 1 ∨ b = w1.heap.size + 1 + 1 + 1 + 1 + 1 + 1 + 1) → ¬ w2.heap.size + 1 + 1 = b)
    → (∀ b, (O b ∨ b = w1.heap.size ∨ b = w1.heap.size + 1 ∨ b = w1.heap.size + 1 + 1 ∨ b = w1.heap.size + 1 + 1 + 1 ∨ b = w1.heap.size + 1 + 1 + 1 + 1 ∨ b = w1.heap.size + 1 + 1 + 1 + 1 + 1 ∨ b = w1.heap.size + 1 + 1 + 1 + 1 + 1 + 1 ∨ b = w1.heap.size + 1 + 1 + 1 + 1 + 1 + 1 + 1) → ¬ w2.heap.size + 1 + 1 + 1 = b)
    → (∀ b, (O b ∨ b = w1.heap.size ∨ b = w1.heap.size + 1 ∨ b = w1.heap.size + 1 + 1 ∨ b = w1.heap.size + 1 + 1 + 1 ∨ b = w1.heap.size + 1 + 1 + 1 + 1 ∨ b = w1.heap.size + 1 + 1 + 1 + 1 + 1 ∨ b = w1.heap.size + 1 + 1 + 1 + 1 + 1 + 1 ∨ b = w1.heap.size + 1 + 1 + 1 + 1 + 1 + 1 + 1) → b < w2.heap.size) → G) : G := by
  have hs := hb.size
  have K : ∀ b, (O b ∨ b = w1.heap.size ∨ b = w1.heap.size + 1 ∨ b = w1.heap.size + 1 + 1 ∨ b = w1.heap.size + 1 + 1 + 1 ∨ b = w1.heap.size + 1 + 1 + 1 + 1 ∨ b = w1.heap.size + 1 + 1 + 1 + 1 + 1 ∨ b = w1.heap.size + 1 + 1 + 1 + 1 + 1 + 1 ∨ b = w1.heap.size + 1 + 1 + 1 + 1 + 1 + 1 + 1) → b < W.heap.size := by
    intro b h
    have hO : O b → b < w1.heap.size := Z b
    rcases h with h | h
    · have := hO h; omega
    · omega
  refine h (by omega) (fun b o h => hb.cell (p := ⟨b, o, none⟩) (K b h)) (fun b o h => hb.frozen (p := ⟨b, o, none⟩) (K b h)) ?_ ?_ ?_ ?_ ?_ ?_ ?_ ?_ ?_ ?_ ?_ ?_ ?_ ?_ <;>
    (intro b h; have := K b h; omega)

theorem cell_lt {w : World} {b o : Nat} {v : Value} (h : w.cell? ⟨b, o, none⟩ = some v) : b < w.heap.size := by
  rcases Nat.lt_or_ge b w.heap.size with hl | hl
  · exact hl
  · exfalso
    simp [World.cell?, Array.getElem?_eq_none hl] at h
theorem wle (w : World) : w.heap.size ≤ w.heap.size := Nat.le_refl _
theorem wle_alloc1 {n : Nat} {w : World} {o : Obj} (h : n ≤ w.heap.size) : n + 1 ≤ (w.alloc o).heap.size := by simp; omega
theorem wle_alloc {n : Nat} {w : World} {o : Obj} (h : n ≤ w.heap.size) : n ≤ (w.alloc o).heap.size := by simp; omega
theorem wle_set {n : Nat} {w : World} {a : Addr} {v : Value} (h : n ≤ w.heap.size) : n ≤ (w.setCell a v).heap.size := by simpa using h
theorem wle_drew {n : Nat} {w : World} (h : n ≤ w.heap.size) : n ≤ w.drew.heap.size := h
theorem wle_drewN {n k : Nat} {w : World} (h : n ≤ w.heap.size) : n ≤ (w.drewN k).heap.size := h
end Go.Proofs.YtfclmnglckikbaaGreatDoor

/- Small facts for walks through quiet regions, one behind the other. No program. -/
namespace Go.Proofs.YtfclmnglckikbaaGreatDoor
open Go.RowKit
set_option linter.unusedVariables false

theorem quiet_add {P : Program} {f : FuncId} {args : Array Value} {w : World} {a n : Nat} {v : Value}
    (h : Calls P f args (w.drewN (a + n)) fun e w' => e = .returned v ∧ ∃ m, w' = (w.drewN (a + n)).drewN m) :
    Calls P f args (w.drewN (a + n)) fun e w'' => e = .returned v ∧ ∃ m, w'' = w.drewN (a + m) :=
  h.mono fun _ _ ⟨he, m, hm⟩ => ⟨he, n + m, by rw [hm, World.drewN_drewN, Nat.add_assoc]⟩
theorem quiet_add_same {P : Program} {f : FuncId} {args : Array Value} {w : World} {a n : Nat} {v : Value}
    (h : Calls P f args (w.drewN (a + n)) fun e w' => e = .returned v ∧ w' = w.drewN (a + n)) :
    Calls P f args (w.drewN (a + n)) fun e w'' => e = .returned v ∧ ∃ m, w'' = w.drewN (a + m) :=
  h.mono fun _ _ ⟨he, hm⟩ => ⟨he, n, hm⟩
end Go.Proofs.YtfclmnglckikbaaGreatDoor
