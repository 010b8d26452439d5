/- Regions that draw their order and whose calls make memory: one walk in the order of the text serves every order. No program. -/
import Derived.Test.YtpahemohpaaeoaaDoorBase2
namespace Go.Proofs.YtpahemohpaaeoaaDoor
open Go.RowKit
set_option linter.unusedVariables false

/-- The worlds in which nothing that stood in w has turned. -/
def Later (w : World) : Type := { u : World // Below w.heap.size w u }
theorem later_ne (w : World) : Nonempty (Later w) := ⟨⟨w, Below.refl _ _⟩⟩

theorem wp_region_calm {P : Program} {id : Nat} {Q : Exit → Act → World → Prop} {a : Act} {w : World} {l : List Oper} (hm : P.follows .mixedOrders = true) (hB : Region.lexB .any l.toArray = true)
    (h : wpQuiet P l.toArray (fun w' => ∃ u : Later w, w' = u.1) (fun a' => ∀ w', (∃ u : Later w, w' = u.1) → Q .normal a' w') l a) : (Code.region id l.toArray true).wp P Q a w :=
  wp_region_quiet (C := fun w' => ∃ u : Later w, w' = u.1) hm hB ⟨⟨_, (Below.refl _ _).drew⟩, rfl⟩ (by simpa using h)

/-- A callee's contract, met in a later world. -/
theorem calm_of {P : Program} {f : FuncId} {args : Array Value} {w : World} {u : Later w} {v : Value}
    (h : Calls P f args u.1 fun e w' => e = .returned v ∧ Below u.1.heap.size u.1 w') : Calls P f args u.1 fun e w'' => e = .returned v ∧ ∃ u' : Later w, w'' = u'.1 :=
  h.mono fun _ w' ⟨he, hb⟩ => ⟨he, ⟨w', u.2.trans (hb.mono u.2.size)⟩, rfl⟩
theorem calm_same {P : Program} {f : FuncId} {args : Array Value} {w : World} {u : Later w} {v : Value}
    (h : Calls P f args u.1 fun e w' => e = .returned v ∧ w' = u.1) : Calls P f args u.1 fun e w'' => e = .returned v ∧ ∃ u' : Later w, w'' = u'.1 :=
  h.mono fun _ _ ⟨he, hb⟩ => ⟨he, u, hb⟩
theorem calm_drew {P : Program} {f : FuncId} {args : Array Value} {w : World} {u : Later w} {v : Value}
    (h : Calls P f args u.1 fun e w' => e = .returned v ∧ ∃ n, w' = u.1.drewN n) : Calls P f args u.1 fun e w'' => e = .returned v ∧ ∃ u' : Later w, w'' = u'.1 :=
  h.mono fun _ _ ⟨he, n, hb⟩ => ⟨he, ⟨_, below_drewN u.2 n⟩, hb⟩

theorem wcalm0 {O : Nat → Prop} {w1 W : World} {P : Program} {ops : Array Oper} {Q : Act → Prop} {l : List Oper} {a : Act} (Z : ∀ b, O b → b < w1.heap.size) (hle : w1.heap.size ≤ W.heap.size)
    (h : Nonempty (Later W) → (∀ (u : Later W) b o, (O b) → u.1.cell? ⟨b, o, none⟩ = W.cell? ⟨b, o, none⟩) → wpQuiet P ops (fun w' => ∃ u : Later W, w' = u.1) Q l a) : wpQuiet P ops (fun w' => ∃ u : Later W, w' = u.1) Q l a := by
  have K : ∀ b, (O b) → b < W.heap.size := by
    intro b h
    have hO : O b → b < w1.heap.size := Z b
    have := hO h; omega
  exact h (later_ne W) (fun u b o h => u.2.cell (p := ⟨b, o, none⟩) (K b h))

theorem wcalm1 {O : Nat → Prop} {w1 W : World} {P : Program} {ops : Array Oper} {Q : Act → Prop} {l : List Oper} {a : Act} (Z : ∀ b, O b → b < w1.heap.size) (hle : w1.heap.size + 1 ≤ W.heap.size)
    (h : Nonempty (Later W) → (∀ (u : Later W) b o, (O b ∨ b = w1.heap.size) → u.1.cell? ⟨b, o, none⟩ = W.cell? ⟨b, o, none⟩) → wpQuiet P ops (fun w' => ∃ u : Later W, w' = u.1) Q l a) : wpQuiet P ops (fun w' => ∃ u : Later W, w' = u.1) Q l a := by
  have K : ∀ b, (O b ∨ b = w1.heap.size) → b < W.heap.size := by
    intro b h
    have hO : O b → b < w1.heap.size := Z b
    rcases h with h | h
    · have := hO h; omega
    · omega
  exact h (later_ne W) (fun u b o h => u.2.cell (p := ⟨b, o, none⟩) (K b h))

theorem wcalm2 {O : Nat → Prop} {w1 W : World} {P : Program} {ops : Array Oper} {Q : Act → Prop} {l : List Oper} {a : Act} (Z : ∀ b, O b → b < w1.heap.size) (hle : w1.heap.size + 1 + 1 ≤ W.heap.size)
    (h : Nonempty (Later W) → (∀ (u : Later W) b o, (O b ∨ b = w1.heap.size ∨ b = w1.heap.size + 1) → u.1.cell? ⟨b, o, none⟩ = W.cell? ⟨b, o, none⟩) → wpQuiet P ops (fun w' => ∃ u : Later W, w' = u.1) Q l a) : wpQuiet P ops (fun w' => ∃ u : Later W, w' = u.1) Q l a := by
  have K : ∀ b, (O b ∨ b = w1.heap.size ∨ b = w1.heap.size + 1) → b < W.heap.size := by
    intro b h
    have hO : O b → b < w1.heap.size := Z b
    rcases h with h | h
    · have := hO h; omega
    · omega
  exact h (later_ne W) (fun u b o h => u.2.cell (p := ⟨b, o, none⟩) (K b h))

theorem wcalm3 {O : Nat → Prop} {w1 W : World} {P : Program} {ops : Array Oper} {Q : Act → Prop} {l : List Oper} {a : Act} (Z : ∀ b, O b → b < w1.heap.size) (hle : w1.heap.size + 1 + 1 + 1 ≤ W.heap.size)
    (h : Nonempty (Later W) → (∀ (u : Later W) b o, (O b ∨ b = w1.heap.size ∨ b = w1.heap.size + 1 ∨ b = w1.heap.size + 1 + 1) → u.1.cell? ⟨b, o, none⟩ = W.cell? ⟨b, o, none⟩) → wpQuiet P ops (fun w' => ∃ u : Later W, w' = u.1) Q l a) : wpQuiet P ops (fun w' => ∃ u : Later W, w' = u.1) Q l a := by
  have K : ∀ b, (O b ∨ b = w1.heap.size ∨ b = w1.heap.size + 1 ∨ b = w1.heap.size + 1 + 1) → b < W.heap.size := by
    intro b h
    have hO : O b → b < w1.heap.size := Z b
    rcases h with h | h
    · have := hO h; omega
    · omega
  exact h (later_ne W) (fun u b o h => u.2.cell (p := ⟨b, o, none⟩) (K b h))

theorem wcalm4 {O : Nat → Prop} {w1 W : World} {P : Program} {ops : Array Oper} {Q : Act → Prop} {l : List Oper} {a : Act} (Z : ∀ b, O b → b < w1.heap.size) (hle : w1.heap.size + 1 + 1 + 1 + 1 ≤ W.heap.size)
    (h : Nonempty (Later W) → (∀ (u : Later W) b o, (O b ∨ b = w1.heap.size ∨ b = w1.heap.size + 1 ∨ b = w1.heap.size + 1 + 1 ∨ b = w1.heap.size + 1 + 1 + 1) → u.1.cell? ⟨b, o, none⟩ = W.cell? ⟨b, o, none⟩) → wpQuiet P ops (fun w' => ∃ u : Later W, w' = u.1) Q l a) : wpQuiet P ops (fun w' => ∃ u : Later W, w' = u.1) Q l a := by
  have K : ∀ b, (O b ∨ b = w1.heap.size ∨ b = w1.heap.size + 1 ∨ b = w1.heap.size + 1 + 1 ∨ b = w1.heap.size + 1 + 1 + 1) → b < W.heap.size := by
    intro b h
    have hO : O b → b < w1.heap.size := Z b
    rcases h with h | h
    · have := hO h; omega
    · omega
  exact h (later_ne W) (fun u b o h => u.2.cell (p := ⟨b, o, none⟩) (K b h))

theorem wcalm5 {O : Nat → Prop} {w1 W : World} {P : Program} {ops : Array Oper} {Q : Act → Prop} {l : List Oper} {a : Act} (Z : ∀ b, O b → b < w1.heap.size) (hle : w1.heap.size + 1 + 1 + 1 + 1 + 1 ≤ W.heap.size)
    (h : Nonempty (Later W) → (∀ (u : Later W) b o, (O b ∨ b = w1.heap.size ∨ b = w1.heap.size + 1 ∨ b = w1.heap.size + 1 + 1 ∨ b = w1.heap.size + 1 + 1 + 1 ∨ b = w1.heap.size + 1 + 1 + 1 + 1) → u.1.cell? ⟨b, o, none⟩ = W.cell? ⟨b, o, none⟩) → wpQuiet P ops (fun w' => ∃ u : Later W, w' = u.1) Q l a) : wpQuiet P ops (fun w' => ∃ u : Later W, w' = u.1) Q l a := by
  have K : ∀ b, (O b ∨ b = w1.heap.size ∨ b = w1.heap.size + 1 ∨ b = w1.heap.size + 1 + 1 ∨ b = w1.heap.size + 1 + 1 + 1 ∨ b = w1.heap.size + 1 + 1 + 1 + 1) → b < W.heap.size := by
    intro b h
    have hO : O b → b < w1.heap.size := Z b
    rcases h with h | h
    · have := hO h; omega
    · omega
  exact h (later_ne W) (fun u b o h => u.2.cell (p := ⟨b, o, none⟩) (K b h))

theorem wcalm6 {O : Nat → Prop} {w1 W : World} {P : Program} {ops : Array Oper} {Q : Act → Prop} {l : List Oper} {a : Act} (Z : ∀ b, O b → b < w1.heap.size) (hle : w1.heap.size + 1 + 1 + 1 + 1 + 1 + 1 ≤ W.heap.size)
    (h : Nonempty (Later W) → (∀ (u : Later W) b o, (O b ∨ b = w1.heap.size ∨ b = w1.heap.size + 1 ∨ b = w1.heap.size + 1 + 1 ∨ b = w1.heap.size + 1 + 1 + 1 ∨ b = w1.heap.size + 1 + 1 + 1 + 1 ∨ b = w1.heap.size + 1 + 1 + 1 + 1 + 1) → u.1.cell? ⟨b, o, none⟩ = W.cell? ⟨b, o, none⟩) → wpQuiet P ops (fun w' => ∃ u : Later W, w' = u.1) Q l a) : wpQuiet P ops (fun w' => ∃ u : Later W, w' = u.1) Q l a := by
  have K : ∀ b, (O b ∨ b = w1.heap.size ∨ b = w1.heap.size + 1 ∨ b = w1.heap.size + 1 + 1 ∨ b = w1.heap.size + 1 + 1 + 1 ∨ b = w1.heap.size + 1 + 1 + 1 + 1 ∨ b = w1.heap.size + 1 + 1 + 1 + 1 + 1) → b < W.heap.size := by
    intro b h
    have hO : O b → b < w1.heap.size := Z b
    rcases h with h | h
    · have := hO h; omega
    · omega
  exact h (later_ne W) (fun u b o h => u.2.cell (p := ⟨b, o, none⟩) (K b h))

theorem wcalm7 {O : Nat → Prop} {w1 W : World} {P : Program} {ops : Array Oper} {Q : Act → Prop} {l : List Oper} {a : Act} (Z : ∀ b, O b → b < w1.heap.size) (hle : w1.heap.size + 1 + 1 + 1 + 1 + 1 + 1 + 1 ≤ W.heap.size)
    (h : Nonempty (Later W) → (∀ (u : Later W) b o, (O b ∨ b = w1.heap.size ∨ b = w1.heap.size + 1 ∨ b = w1.heap.size + 1 + 1 ∨ b = w1.heap.size + 1 + 1 + 1 ∨ b = w1.heap.size + 1 + 1 + 1 + 1 ∨ b = w1.heap.size + 1 + 1 + 1 + 1 + 1 ∨ b = w1.heap.size + 1 + 1 + 1 + 1 + 1 + 1) → u.1.cell? ⟨b, o, none⟩ = W.cell? ⟨b, o, none⟩) → wpQuiet P ops (fun w' => ∃ u : Later W, w' = u.1) Q l a) : wpQuiet P ops (fun w' => ∃ u : Later W, w' = u.1) Q l a := by
  have K : ∀ b, (O b ∨ b = w1.heap.size ∨ b = w1.heap.size + 1 ∨ b = w1.heap.size + 1 + 1 ∨ b = w1.heap.size + 1 + 1 + 1 ∨ b = w1.heap.size + 1 + 1 + 1 + 1 ∨ b = w1.heap.size + 1 + 1 + 1 + 1 + 1 ∨ b = w1.heap.size + 1 + 1 + 1 + 1 + 1 + 1) → b < W.heap.size := by
    intro b h
    have hO : O b → b < w1.heap.size := Z b
    rcases h with h | h
    · have := hO h; omega
    · omega
  exact h (later_ne W) (fun u b o h => u.2.cell (p := ⟨b, o, none⟩) (K b h))

theorem wcalm8 {O : Nat → Prop} {w1 W : World} {P : Program} {ops : Array Oper} {Q : Act → Prop} {l : List Oper} {a : Act} (Z : ∀ b, O b → b < w1.heap.size) (hle : w1.heap.size + 1 + 1 + 1 + 1 + 1 + 1 + 1 + 1 ≤ W.heap.size)
    (h : Nonempty (Later W) → (∀ (u : Later W) b o, (O b ∨ b = w1.heap.size ∨ b = w1.heap.size + 1 ∨ b = w1.heap.size + 1 + 1 ∨ b = w1.heap.size + 1 + 1 + 1 ∨ b = w1.heap.size + 1 + 1 + 1 + 1 ∨ b = w1.heap.size + 1 + 1 + 1 + 1 + 1 ∨ b = w1.heap.size + 1 + 1 + 1 + 1 + 1 + 1 ∨ b = w1.heap.size + 1 + 1 + 1 + 1 + 1 + 1 + 1) → u.1.cell? ⟨b, o, none⟩ = W.cell? ⟨b, o, none⟩) → wpQuiet P ops (fun w' => ∃ u : Later W, w' = u.1) Q l a) : wpQuiet P ops (fun w' => ∃ u : Later W, w' = u.1) Q l a := by
  have K : ∀ b, (O b ∨ b = w1.heap.size ∨ b = w1.heap.size + 1 ∨ b = w1.heap.size + 1 + 1 ∨ b = w1.heap.size + 1 + 1 + 1 ∨ b = w1.heap.size + 1 + 1 + 1 + 1 ∨ b = w1.heap.size + 1 + 1 + 1 + 1 + 1 ∨ b = w1.heap.size + 1 + 1 + 1 + 1 + 1 + 1 ∨ b = w1.heap.size + 1 + 1 + 1 + 1 + 1 + 1 + 1) → b < W.heap.size := by
    intro b h
    have hO : O b → b < w1.heap.size := Z b
    rcases h with h | h
    · have := hO h; omega
    · omega
  exact h (later_ne W) (fun u b o h => u.2.cell (p := ⟨b, o, none⟩) (K b h))

end Go.Proofs.YtpahemohpaaeoaaDoor
