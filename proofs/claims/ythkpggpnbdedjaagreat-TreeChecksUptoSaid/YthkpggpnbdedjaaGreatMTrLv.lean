/- large: whether a block is larger than the statements go through; the reference's Size and Depth once more. -/
import Derived.Test.YthkpggpnbdedjaaGreatMTrAw
import Derived.Test.YthkpggpnbdedjaaGreatMTrDp
namespace Go.Proofs.YthkpggpnbdedjaaGreat
open Go.RowKit Go.Instr
set_option linter.unusedVariables false

theorem below_drewn {w w' : World} (h : ∃ m, w' = w.drewN m) : Below w.heap.size w w' := by
  obtain ⟨m, rfl⟩ := h
  (repeat' (first | (with_reducible exact Below.refl _ _) | (with_reducible assumption) | (with_reducible refine Below.alloc ?_ ?_ _) | (with_reducible refine below_drewN ?_ _) | (with_reducible refine Below.drew ?_) | (with_reducible refine Below.setCell ?_ ?_ _) | (with_reducible refine below_via (by assumption) ?_ ?_) | (with_reducible refine below_via (later_below _) ?_ ?_) | (with_reducible exact Nat.le_refl _) | omega | (simp; omega) | (simp; done)))
theorem rsz_any (y : TB) (w : World) (hin : InB w w.heap.size y) : Calls Tryz.prog 11 #[y.v] w fun e w' => e = .returned (.int .i64 (wrap64 (szSs y.l))) ∧ Below w.heap.size w w' :=
  (rsize_any y.l y.a y.c w w.heap.size hin.ss).mono fun e w' h => ⟨h.1, below_drewn h.2⟩
theorem rdp_any (y : TB) (w : World) (hin : InB w w.heap.size y) : Calls Tryz.prog 20 #[y.v] w fun e w' => e = .returned (.int .i64 (dpB y)) ∧ Below w.heap.size w w' := by
  have e : dpB y = wrap64 (1 + mxSs y.l) := dpB_eq y
  rw [e]
  exact (rdepth_any y.l y.a y.c w w.heap.size hin.ss).mono fun e w' h => ⟨h.1, below_drewn h.2⟩
def lgB (y : TB) : Bool := decide (3000 < wrap64 (szSs y.l))
theorem large_any (y : TB) (w : World) (hin : InB w w.heap.size y) : Calls Tryz.prog 4 #[y.v] w fun e w' => e = .returned (.bool (lgB y)) ∧ Below w.heap.size w w' := by
  have HR := Lib.hid (rsz_any y w hin)
  unfold lgB
  obtain ⟨n, hn⟩ : ∃ n, wrap64 (szSs y.l) = n := ⟨_, rfl⟩
  rw [hn] at HR ⊢
  clear hin hn
  go_enter Tryz.func4, Tryz.ntmps4
  go_wp2_with (go_at_call 11; (with_reducible refine HR.out.mono ?_); rintro e w1 ⟨rfl, hb⟩)
  go_returns
  exact ⟨rfl, hb⟩
end Go.Proofs.YthkpggpnbdedjaaGreat
