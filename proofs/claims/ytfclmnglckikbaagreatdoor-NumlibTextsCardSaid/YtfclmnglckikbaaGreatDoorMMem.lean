/- Regions that draw their order and whose calls make memory: one walk in the order of the text serves every order. No program. -/
import Derived.Test.YtfclmnglckikbaaGreatDoorMBase
namespace Go.Proofs.YtfclmnglckikbaaGreatDoor
open Go.RowKit
set_option linter.unusedVariables false

/-- The worlds in which nothing that stood in w has turned. -/
def Later (w : World) : Type := { u : World // Below w.heap.size w u }
theorem later_ne (w : World) : Nonempty (Later w) := ⟨⟨w, Below.refl _ _⟩⟩

theorem wp_region_calm {P : Program} {id : Nat} {Q : Exit → Act → World → Prop} {a : Act} {w : World} {l : List Oper} (hm : P.follows .mixedOrders = true) (hB : Region.lexB .any l.toArray = true)
    (h : wpQuiet P l.toArray (fun w' => ∃ u : Later w, w' = u.1) (fun a' => ∀ w', (∃ u : Later w, w' = u.1) → Q .normal a' w') l a) : (Code.region id l.toArray true).wp P Q a w :=
  wp_region_quiet (C := fun w' => ∃ u : Later w, w' = u.1) hm hB ⟨⟨_, (Below.refl _ _).drew⟩, rfl⟩ (by simpa using h)

/-- A callee's contract, met in a later world. -/
theorem calm_of {P : Program} {f : FuncId} {args : Array Value} {w : World} {u : Later w} {v : Value}
    (h : Calls P f args u.1 fun e w' => e = .returned v ∧ Below u.1.heap.size u.1 w') : Calls P f args u.1 fun e w'' => e = .returned v ∧ ∃ u' : Later w, w'' = u'.1 :=
  h.mono fun _ w' ⟨he, hb⟩ => ⟨he, ⟨w', u.2.trans (hb.mono u.2.size)⟩, rfl⟩
theorem calm_same {P : Program} {f : FuncId} {args : Array Value} {w : World} {u : Later w} {v : Value}
    (h : Calls P f args u.1 fun e w' => e = .returned v ∧ w' = u.1) : Calls P f args u.1 fun e w'' => e = .returned v ∧ ∃ u' : Later w, w'' = u'.1 :=
  h.mono fun _ _ ⟨he, hb⟩ => ⟨he, u, hb⟩
theorem calm_drew {P : Program} {f : FuncId} {args : Array Value} {w : World} {u : Later w} {v : Value}
    (h : Calls P f args u.1 fun e w' => e = .returned v ∧ ∃ n, w' = u.1.drewN n) : Calls P f args u.1 fun e w'' => e = .returned v ∧ ∃ u' : Later w, w'' = u'.1 :=
  h.mono fun _ _ ⟨he, n, hb⟩ => ⟨he, ⟨_, below_drewN u.2 n⟩, hb⟩

theorem wcalm0 {O : Nat → Prop} {w1 W : World} {P : Program} {ops : Array Oper} {Q : Act → Prop} {l : List Oper} {a : Act} (Z : ∀ b, O b → b < w1.heap.size) (hle : w1.heap.size ≤ W.heap.size)
    (h : Nonempty (Later W) → (∀ (u : Later W) b o, (O b) → u.1.cell? ⟨b, o, none⟩ = W.cell? ⟨b, o, none⟩) → wpQuiet P ops (fun w' => ∃ u : Later W, w' = u.1) Q l a) : wpQuiet P ops (fun w' => ∃ u : Later W, w' = u.1) Q l a := by
  have K : ∀ b, (O b) → b < W.heap.size := by
    intro b h
    have hO : O b → b < w1.heap.size := Z b
    have := hO h; omega
  exact h (later_ne W) (fun u b o h => u.2.cell (p := ⟨b, o, none⟩) (K b h))

theorem wcalm1 {O : Nat → Prop} {w1 W : World} {P : Program} {ops : Array Oper} {Q : Act → Prop} {l : List Oper} {a : Act} (Z : ∀ b, O b → b < w1.heap.size) (hle : w1.heap.size + 1 ≤ W.heap.size)
    (h : Nonempty (Later W) → (∀ (u : Later W) b o, (O b ∨ b = w1.heap.size) → u.1.cell? ⟨b, o, none⟩ = W.cell? ⟨b, o, none⟩) → wpQuiet P ops (fun w' => ∃ u : Later W, w' = u.1) Q l a) : wpQuiet P ops (fun w' => ∃ u : Later W, w' = u.1) Q l a := by
  have K : ∀ b, (O b ∨ b = w1.heap.size) → b < W.heap.size := by
    intro b h
    have hO : O b → b < w1.heap.size := Z b
    rcases h with h | h
    · have := hO h; omega
    · omega
  exact h (later_ne W) (fun u b o h => u.2.cell (p := ⟨b, o, none⟩) (K b h))

theorem wcalm2 {O : Nat → Prop} {w1 W : World} {P : Program} {ops : Array Oper} {Q : Act → Prop} {l : List Oper} {a : Act} (Z : ∀ b, O b → b < w1.heap.size) (hle : w1.heap.size + 1 + 1 ≤ W.heap.size)
    (h : Nonempty (Later W) → (∀ (u : Later W) b o, (O b ∨ b = w1.heap.size ∨ b = w1.heap.size + 1) → u.1.cell? ⟨b, o, none⟩ = W.cell? ⟨b, o, none⟩) → wpQuiet P ops (fun w' => ∃ u : Later W, w' = u.1) Q l a) : wpQuiet P ops (fun w' => ∃ u : Later W, w' = u.1) Q l a := by
  have K : ∀ b, (O b ∨ b = w1.heap.size ∨ b = w1.heap.size + 1) → b < W.heap.size := by
    intro b h
    have hO : O b → b < w1.heap.size := Z b
    rcases h with h | h
    · have := hO h; omega
    · omega
  exact h (later_ne W) (fun u b o h => u.2.cell (p := ⟨b, o, none⟩) (K b h))

theorem wcalm3 {O : Nat → Prop} {w1 W : World} {P : Program} {ops : Array Oper} {Q : Act → Prop} {l : List Oper} {a : Act} (Z : ∀ b, O b → b < w1.heap.size) (hle : w1.heap.size + 1 + 1 + 1 ≤ W.heap.size)
    (h : Nonempty (Later W) → (∀ (u : Later W) b o, (O b ∨ b = w1.heap.size ∨ b = w1.heap.size + 1 ∨ b = w1.heap.size + 1 + 1) → u.1.cell? ⟨b, o, none⟩ = W.cell? ⟨b, o, none⟩) → wpQuiet P ops (fun w' => ∃ u : Later W, w' = u.1) Q l a) : wpQuiet P ops (fun w' => ∃ u : Later W, w' = u.1) Q l a := by
  have K : ∀ b, (O b ∨ b = w1.heap.size ∨ b = w1.heap.size + 1 ∨ b = w1.heap.size + 1 + 1) → b < W.heap.size := by
    intro b h
    have hO : O b → b < w1.heap.size := Z b
    rcases h with h | h
    · have := hO h; omega
    · omega
  exact h (later_ne W) (fun u b o h => u.2.cell (p := ⟨b, o, none⟩) (K b h))

theorem wcalm4 {O : Nat → Prop} {w1 W : World} {P : Program} {ops : Array Oper} {Q : Act → Prop} {l : List Oper} {a : Act} (Z : ∀ b, O b → b < w1.heap.size) (hle : w1.heap.size + 1 + 1 + 1 + 1 ≤ W.heap.size)
    (h : Nonempty (Later W) → (∀ (u : Later W) b o, (O b ∨ b = w1.heap.size ∨ b = w1.heap.size + 1 ∨ b = w1.heap.size + 1 + 1 ∨ b = w1.heap.size + 1 + 1 + 1) → u.1.cell? ⟨b, o, none⟩ = W.cell? ⟨b, o, none⟩) → wpQuiet P ops (fun w' => ∃ u : Later W, w' = u.1) Q l a) : wpQuiet P ops (fun w' => ∃ u : Later W, w' = u.1) Q l a := by
  have K : ∀ b, (O b ∨ b = w1.heap.size ∨ b = w1.heap.size + 1 ∨ b = w1.heap.size + 1 + 1 ∨ b = w1.heap.size + 1 + 1 + 1) → b < W.heap.size := by
    intro b h
    have hO : O b → b < w1.heap.size := Z b
    rcases h with h | h
    · have := hO h; omega
    · omega
  exact h (later_ne W) (fun u b o h => u.2.cell (p := ⟨b, o, none⟩) (K b h))

theorem wcalm5 {O : Nat → Prop} {w1 W : World} {P : Program} {ops : Array Oper} {Q : Act → Prop} {l : List Oper} {a : Act} (Z : ∀ b, O b → b < w1.heap.size) (hle : w1.heap.size + 1 + 1 + 1 + 1 + 1 ≤ W.heap.size)
    (h : Nonempty (Later W) → (∀ (u : Later W) b o, (O b ∨ b = w1.heap.size ∨ b = w1.heap.size + 1 ∨ b = w1.heap.size + 1 + 1 ∨ b = w1.heap.size + 1 + 1 + 1 ∨ b = w1.heap.size + 1 + 1 + 1 + 1) → u.1.cell? ⟨b, o, none⟩ = W.cell? ⟨b, o, none⟩) → wpQuiet P ops (fun w' => ∃ u : Later W, w' = u.1) Q l a) : wpQuiet P ops (fun w' => ∃ u : Later W, w' = u.1) Q l a := by
  have K : ∀ b, (O b ∨ b = w1.heap.size ∨ b = w1.heap.size + 1 ∨ b = w1.heap.size + 1 + 1 ∨ b = w1.heap.size + 1 + 1 + 1 ∨ b = w1.heap.size + 1 + 1 + 1 + 1) → b < W.heap.size := by
    intro b h
    have hO : O b → b < w1.heap.size := Z b
    rcases h with h | h
    · have := hO h; omega
    · omega
  exact h (later_ne W) (fun u b o h => u.2.cell (p := ⟨b, o, none⟩) (K b h))

theorem wcalm6 {O : Nat → Prop} {w1 W : World} {P : Program} {ops : Array Oper} {Q : Act → Prop} {l : List Oper} {a : Act} (Z : ∀ b, O b → b < w1.heap.size) (hle : w1.heap.size + 1 + 1 + 1 + 1 + 1 + 1 ≤ W.heap.size)
    (h : Nonempty (Later W) → (∀ (u : Later W) b o, (O b ∨ b = w1.heap.size ∨ b = w1.heap.size + 1 ∨ b = w1.heap.size + 1 + 1 ∨ b = w1.heap.size + 1 + 1 + 1 ∨ b = w1.heap.size + 1 + 1 + 1 + 1 ∨ b = w1.heap.size + 1 + 1 + 1 + 1 + 1) → u.1.cell? ⟨b, o, none⟩ = W.cell? ⟨b, o, none⟩) → wpQuiet P ops (fun w' => ∃ u : Later W, w' = u.1) Q l a) : wpQuiet P ops (fun w' => ∃ u : Later W, w' = u.1) Q l a := by
  have K : ∀ b, (O b ∨ b = w1.heap.size ∨ b = w1.heap.size + 1 ∨ b = w1.heap.size + 1 + 1 ∨ b = w1.heap.size + 1 + 1 + 1 ∨ b = w1.heap.size + 1 + 1 + 1 + 1 ∨ b = w1.heap.size + 1 + 1 + 1 + 1 + 1) → b < W.heap.size := by
    intro b h
    have hO : O b → b < w1.heap.size := Z b
    rcases h with h | h
    · have := hO h; omega
    · omega
  exact h (later_ne W) (fun u b o h => u.2.cell (p := ⟨b, o, none⟩) (K b h))

theorem wcalm7 {O : Nat → Prop} {w1 W : World} {P : Program} {ops : Array Oper} {Q : Act → Prop} {l : List Oper} {a : Act} (Z : ∀ b, O b → b < w1.heap.size) (hle : w1.heap.size + 1 + 1 + 1 + 1 + 1 + 1 + 1 ≤ W.heap.size)
    (h : Nonempty (Later W) → (∀ (u : Later W) b o, (O b ∨ b = w1.heap.size ∨ b = w1.heap.size + 1 ∨ b = w1.heap.size + 1 + 1 ∨ b = w1.heap.size + 1 + 1 + 1 ∨ b = w1.heap.size + 1 + 1 + 1 + 1 ∨ b = w1.heap.size + 1 + 1 + 1 + 1 + 1 ∨ b = w1.heap.size + 1 + 1 + 1 + 1 + 1 + 1) → u.1.cell? ⟨b, o, none⟩ = W.cell? ⟨b, o, none⟩) → wpQuiet P ops (fun w' => ∃ u : Later W, w' = u.1) Q l a) : wpQuiet P ops (fun w' => ∃ u : Later W, w' = u.1) Q l a := by
  have K : ∀ b, (O b ∨ b = w1.heap.size ∨ b = w1.heap.size + 1 ∨ b = w1.heap.size + 1 + 1 ∨ b = w1.heap.size + 1 + 1 + 1 ∨ b = w1.heap.size + 1 + 1 + 1 + 1 ∨ b = w1.heap.size + 1 + 1 + 1 + 1 + 1 ∨ b = w1.heap.size + 1 + 1 + 1 + 1 + 1 + 1) → b < W.heap.size := by
    intro b h
    have hO : O b → b < w1.heap.size := Z b
    rcases h with h | h
    · have := hO h; omega
    · omega
  exact h (later_ne W) (fun u b o h => u.2.cell (p := ⟨b, o, none⟩) (K b h))

theorem wcalm8 {O : Nat → Prop} {w1 W : World} {P : Program} {ops : Array Oper} {Q : Act → Prop} {l : List Oper} {a : Act} (Z : ∀ b, O b → b < w1.heap.size) (hle : w1.heap.size + 1 + 1 + 1 + 1 + 1 + 1 + 1 + 1 ≤ W.heap.size)
    (h : Nonempty (Later W) → (∀ (u : Later W) b o, (O b ∨ b = w1.heap.size ∨ b = w1.heap.size + 1 ∨ b = w1.heap.size + 1 + 1 ∨ b = w1.heap.size + 1 + 1 + 1 ∨ b = w1.heap.size + 1 + 1 + 1 + 1 ∨ b = w1.heap.size + 1 + 1 + 1 + 1 + 1 ∨ b = w1.heap.size + 1 + 1 + 1 + 1 + 1 + 1 ∨ b = w1.heap.size + 1 + 1 + 1 + 1 + 1 + 1 + 1) → u.1.cell? ⟨b, o, none⟩ = W.cell? ⟨b, o, none⟩) → wpQuiet P ops (fun w' => ∃ u : Later W, w' = u.1) Q l a) : wpQuiet P ops (fun w' => ∃ u : Later W, w' = u.1) Q l a := by
  have K : ∀ b, (O b ∨ b = w1.heap.size ∨ b = w1.heap.size + 1 ∨ b = w1.heap.size + 1 + 1 ∨ b = w1.heap.size + 1 + 1 + 1 ∨ b = w1.heap.size + 1 + 1 + 1 + 1 ∨ b = w1.heap.size + 1 + 1 + 1 + 1 + 1 ∨ b = w1.heap.size + 1 + 1 + 1 + 1 + 1 + 1 ∨ b = w1.heap.size + 1 + 1 + 1 + 1 + 1 + 1 + 1) → b < W.heap.size := by
    intro b h
    have hO : O b → b < w1.heap.size := Z b
    rcases h with h | h
    · have := hO h; omega
    · omega
  exact h (later_ne W) (fun u b o h => u.2.cell (p := ⟨b, o, none⟩) (K b h))

end Go.Proofs.YtfclmnglckikbaaGreatDoor

/- What stays known of memory behind a call, by tests that linear arithmetic decides. No program. -/
namespace Go.Proofs.YtfclmnglckikbaaGreatDoor
open Go.RowKit
set_option linter.unusedVariables false

/-- A cell, a mark of which nothing is known. -/
def opqC (w : World) (n i : Nat) : Option Value := w.cell? ⟨n, i, none⟩
def opqF (w : World) (n i : Nat) : Bool := w.frozen? ⟨n, i, none⟩

theorem mem_of {W w2 : World} (hb : Below W.heap.size W w2) : (∀ n i, w2.cell? ⟨n, i, none⟩ = if n < W.heap.size then W.cell? ⟨n, i, none⟩ else opqC w2 n i) ∧ (∀ n i, w2.frozen? ⟨n, i, none⟩ = if n < W.heap.size then W.frozen? ⟨n, i, none⟩ else opqF w2 n i) := by
  constructor
  · intro n i
    split
    · exact hb.cell (p := ⟨n, i, none⟩) ‹_›
    · rfl
  · intro n i
    split
    · exact hb.frozen (p := ⟨n, i, none⟩) ‹_›
    · rfl

theorem mem {W w2 : World} {G : Prop} (hb : Below W.heap.size W w2)
    (h : ∀ N, N = W.heap.size → N ≤ w2.heap.size → (∀ n i, w2.cell? ⟨n, i, none⟩ = if n < N then W.cell? ⟨n, i, none⟩ else opqC w2 n i) → (∀ n i, w2.frozen? ⟨n, i, none⟩ = if n < N then W.frozen? ⟨n, i, none⟩ else opqF w2 n i) → G) : G :=
  h _ rfl hb.size (mem_of hb).1 (mem_of hb).2

theorem calm_mem {P : Program} {ops : Array Oper} {Q : Act → Prop} {l : List Oper} {a : Act} {W : World}
    (h : ∀ N, N = W.heap.size → Nonempty (Later W) → (∀ (u : Later W) n i, u.1.cell? ⟨n, i, none⟩ = if n < N then W.cell? ⟨n, i, none⟩ else opqC u.1 n i) → wpQuiet P ops (fun w' => ∃ u : Later W, w' = u.1) Q l a) :
    wpQuiet P ops (fun w' => ∃ u : Later W, w' = u.1) Q l a :=
  h _ rfl (later_ne W) fun u => (mem_of u.2).1

theorem cell_alloc_if (w : World) (c : Array Value) (t : TypeId) (n i : Nat) : (w.alloc (.cells c t)).cell? ⟨n, i, none⟩ = if n = w.heap.size then c[i]? else w.cell? ⟨n, i, none⟩ := by
  split
  · rename_i h; exact World.cell?_alloc_at c t n i h
  · rename_i h; exact World.cell?_alloc_old _ _ _ h

theorem cell_set_if (w : World) (b o : Nat) (v : Value) (n i : Nat) : (w.setCell ⟨b, o, none⟩ v).cell? ⟨n, i, none⟩ = if b = n ∧ o = i then (w.cell? ⟨n, i, none⟩).map (fun _ => v) else w.cell? ⟨n, i, none⟩ := by
  split
  · rename_i h
    obtain ⟨rfl, rfl⟩ := h
    cases hc : w.cell? ⟨b, o, none⟩ with
    | some u => rw [World.cell?_setCell_same _ _ _ hc]; rfl
    | none =>
      unfold World.cell? at hc ⊢
      unfold World.setCell
      dsimp only at hc ⊢
      rw [Array.getElem?_modify, if_pos rfl]
      cases hh : w.heap[b]? with
      | none => rfl
      | some x =>
        rw [hh] at hc
        cases x with
        | cells c e f => simpa using hc
        | _ => rfl
  · rename_i h
    exact World.cell?_setCell_other _ _ _ _ (fun e => h (by injection e with e1 e2; exact ⟨e1, e2⟩))

theorem frozen_alloc (w : World) (c : Array Value) (t : TypeId) (a : Addr) : (w.alloc (.cells c t)).frozen? a = w.frozen? a := frozen?_alloc_cells w c t a

attribute [go_sem] cell_alloc_if cell_set_if frozen_alloc
end Go.Proofs.YtfclmnglckikbaaGreatDoor
