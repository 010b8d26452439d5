/- An expression among a law's arguments; the chunk that returns it. -/
import Derived.Test.YthkpggpnbdedjaaGreatMTrOpen
import Derived.Test.YthkpggpnbdedjaaGreatMTrLv
namespace Go.Proofs.YthkpggpnbdedjaaGreat
open Go.RowKit Go.Instr Go.ChangeShapes Go.WideShapes Go.ChangeAt
set_option linter.unusedVariables false

section
variable {H : Type} {enc : TypeId × Value → H} {w : World} {base : Nat} {spare : Nat → Bool} {held : Bool}
set_option maxRecDepth 100000 in
theorem open_expr {r : Reach} {b0 : Nat} {v : Value} {d : DataW H} {p : List MemPlace} (hv : Value.okWide Tryz.prog w r b0 28 v) (h : DataW.Trod enc Tryz.prog w base spare held 28 v d p) :
    ∃ x : TX, v = x.v ∧ InX w w.heap.size x ∧ rkX x ≤ Rows.uptoBulk d := by
  obtain ⟨cs, rfl, hsz⟩ := okWide_struct Tryz.underlying28 hv
  have h8 : cs.size = 8 := hsz.trans (show Tryz.prog.cellsOf 28 = 8 by kernel_rfl)
  obtain ⟨fuel, hf⟩ := h
  have hf' : DataW.trod enc Tryz.prog w base spare held fuel 28 cs.toList = some (d, p) := hf
  obtain ⟨x, hx, h1, h2⟩ := elem_X (fun n _ => opens_all n) (by simpa using h8) hf'
  refine ⟨x, ?_, h1, h2⟩
  have e : cs = x.cells.toArray := by rw [← hx]
  rw [e]
  rfl
end
theorem mkone_any (x : TX) (w : World) : Calls Tryz.prog 5 #[x.v] w fun e W' => ∃ b1 b2, e = .returned (.slice (some ⟨b2, 0, none⟩) 1 1) ∧ X8 W' b1 0 x ∧ S7 W' b2 0 (retS x b1) ∧ Below w.heap.size w W' := by
  go_enter Tryz.func5, Tryz.ntmps5
  go_wp2_with fail
  go_returns
  refine ⟨w.heap.size + 1, w.heap.size + 1 + 1, rfl, ?_, ?_, ?_⟩
  · unfold X8; simp [cell_alloc_if]
  · unfold S7 retS; simp [cell_alloc_if]
  · (repeat' (first | (with_reducible exact Below.refl _ _) | (with_reducible assumption) | (with_reducible refine Below.alloc ?_ ?_ _) | (with_reducible refine below_drewN ?_ _) | (with_reducible refine Below.drew ?_) | (with_reducible refine Below.setCell ?_ ?_ _) | (with_reducible refine below_via (by assumption) ?_ ?_) | (with_reducible refine below_via (later_below _) ?_ ?_) | (with_reducible exact Nat.le_refl _) | omega | (simp; omega) | (simp; done)))
def lgX (x : TX) : Bool := lgB (oneB x 0 0)
theorem largeX_any (x : TX) (b1 b2 : Nat) (W : World) (hx : InX W W.heap.size x) (c1 : X8 W b1 0 x) (c2 : S7 W b2 0 (retS x b1)) : Calls Tryz.prog 4 #[.slice (some ⟨b2, 0, none⟩) 1 1] W fun e w' => e = .returned (.bool (lgX x)) ∧ Below W.heap.size W w' :=
  large_any (oneB x b1 b2) W (inB_one hx (cell_lt c1.1) (cell_lt c2.1) c1 c2)
end Go.Proofs.YthkpggpnbdedjaaGreat
