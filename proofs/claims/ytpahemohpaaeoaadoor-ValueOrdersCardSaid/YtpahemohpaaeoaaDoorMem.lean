/- What stays known of memory behind a call, by tests that linear arithmetic decides. No program. -/
import Derived.Test.YtpahemohpaaeoaaDoorCalm
namespace Go.Proofs.YtpahemohpaaeoaaDoor
open Go.RowKit
set_option linter.unusedVariables false

/-- A cell, a mark of which nothing is known. -/
def opqC (w : World) (n i : Nat) : Option Value := w.cell? ⟨n, i, none⟩
def opqF (w : World) (n i : Nat) : Bool := w.frozen? ⟨n, i, none⟩

theorem mem_of {W w2 : World} (hb : Below W.heap.size W w2) : (∀ n i, w2.cell? ⟨n, i, none⟩ = if n < W.heap.size then W.cell? ⟨n, i, none⟩ else opqC w2 n i) ∧ (∀ n i, w2.frozen? ⟨n, i, none⟩ = if n < W.heap.size then W.frozen? ⟨n, i, none⟩ else opqF w2 n i) := by
  constructor
  · intro n i
    split
    · exact hb.cell (p := ⟨n, i, none⟩) ‹_›
    · rfl
  · intro n i
    split
    · exact hb.frozen (p := ⟨n, i, none⟩) ‹_›
    · rfl

theorem mem {W w2 : World} {G : Prop} (hb : Below W.heap.size W w2)
    (h : ∀ N, N = W.heap.size → N ≤ w2.heap.size → (∀ n i, w2.cell? ⟨n, i, none⟩ = if n < N then W.cell? ⟨n, i, none⟩ else opqC w2 n i) → (∀ n i, w2.frozen? ⟨n, i, none⟩ = if n < N then W.frozen? ⟨n, i, none⟩ else opqF w2 n i) → G) : G :=
  h _ rfl hb.size (mem_of hb).1 (mem_of hb).2

theorem calm_mem {P : Program} {ops : Array Oper} {Q : Act → Prop} {l : List Oper} {a : Act} {W : World}
    (h : ∀ N, N = W.heap.size → Nonempty (Later W) → (∀ (u : Later W) n i, u.1.cell? ⟨n, i, none⟩ = if n < N then W.cell? ⟨n, i, none⟩ else opqC u.1 n i) → wpQuiet P ops (fun w' => ∃ u : Later W, w' = u.1) Q l a) :
    wpQuiet P ops (fun w' => ∃ u : Later W, w' = u.1) Q l a :=
  h _ rfl (later_ne W) fun u => (mem_of u.2).1

theorem cell_alloc_if (w : World) (c : Array Value) (t : TypeId) (n i : Nat) : (w.alloc (.cells c t)).cell? ⟨n, i, none⟩ = if n = w.heap.size then c[i]? else w.cell? ⟨n, i, none⟩ := by
  split
  · rename_i h; exact World.cell?_alloc_at c t n i h
  · rename_i h; exact World.cell?_alloc_old _ _ _ h

theorem cell_set_if (w : World) (b o : Nat) (v : Value) (n i : Nat) : (w.setCell ⟨b, o, none⟩ v).cell? ⟨n, i, none⟩ = if b = n ∧ o = i then (w.cell? ⟨n, i, none⟩).map (fun _ => v) else w.cell? ⟨n, i, none⟩ := by
  split
  · rename_i h
    obtain ⟨rfl, rfl⟩ := h
    cases hc : w.cell? ⟨b, o, none⟩ with
    | some u => rw [World.cell?_setCell_same _ _ _ hc]; rfl
    | none =>
      unfold World.cell? at hc ⊢
      unfold World.setCell
      dsimp only at hc ⊢
      rw [Array.getElem?_modify, if_pos rfl]
      cases hh : w.heap[b]? with
      | none => rfl
      | some x =>
        rw [hh] at hc
        cases x with
        | cells c e f => simpa using hc
        | _ => rfl
  · rename_i h
    exact World.cell?_setCell_other _ _ _ _ (fun e => h (by injection e with e1 e2; exact ⟨e1, e2⟩))

theorem frozen_alloc (w : World) (c : Array Value) (t : TypeId) (a : Addr) : (w.alloc (.cells c t)).frozen? a = w.frozen? a := frozen?_alloc_cells w c t a

attribute [go_sem] cell_alloc_if cell_set_if frozen_alloc
end Go.Proofs.YtpahemohpaaeoaaDoor
