/- A block beyond the heap is not frozen. -/
import Derived.Test.YtplphejillkdeaaGreatDoorMMem
namespace Go.Proofs.YtplphejillkdeaaGreatDoor
open Go.RowKit
set_option linter.unusedVariables false

theorem frozen_out (w : World) (n i : Nat) (h : w.heap.size ≤ n) : w.frozen? ⟨n, i, none⟩ = false := by
  unfold World.frozen?
  rw [Array.getElem?_eq_none h]
end Go.Proofs.YtplphejillkdeaaGreatDoor
