/- The program's Funcs at a tree without functions. -/
import Derived.Test.YtplphejillkdeaaGreatDoorMTrEach
import Derived.Test.YtplphejillkdeaaGreatDoorMTrFo
import Derived.Test.YtplphejillkdeaaGreatDoorMTrDp
namespace Go.Proofs.YtplphejillkdeaaGreatDoor
open Go.RowKit Go.Instr Go.Shelf
set_option linter.unusedVariables false
attribute [local go_sem] Oper.semAt_some

/-- A block of its own that holds an expression. -/
def XBox (W : World) (B : Nat) (x : TX) : Prop := W.heap[B]? = some (.cells #[.int .i64 x.k, .int .i64 x.op, .int .i64 x.ln, .int .i64 x.p, .int .i64 x.q, .string x.s, .slice x.aA x.args.length x.aC, .slice x.fA x.funcs.length x.fC] 30 (0, 0))
theorem XBox.cells {W : World} {B : Nat} {x : TX} (h : XBox W B x) : X8n B x W := by
  unfold XBox at h
  unfold X8n
  simp [World.cell?, h]
theorem XBox.kept {W W' : World} {B : Nat} {x : TX} {row : Option Nat} (h : XBox W B x) (hg : W.grownBy W' row) (hne : some B ≠ row) : XBox W' B x := (hg.block B (Array.getElem?_eq_some_iff.1 h).1 hne).trans h
theorem XBox.new (W : World) (x : TX) : XBox (W.alloc (.cells #[.int .i64 x.k, .int .i64 x.op, .int .i64 x.ln, .int .i64 x.p, .int .i64 x.q, .string x.s, .slice x.aA x.args.length x.aC, .slice x.fA x.funcs.length x.fC] 30)) W.heap.size x := World.alloc_heap_new W _
set_option maxRecDepth 100000 in
set_option maxHeartbeats 4000000 in
theorem funcs_none (y : TB) (w : World) (hin : InB w w.heap.size y) (hno : ∀ x ∈ exsB y, x.funcs.length = 0) :
    Calls Tryz.prog 11 #[y.v] w fun e W' => ∃ B, e = .returned (.slice (some ⟨B, 0, none⟩) 1 1) ∧ w.heap.size ≤ B ∧ W'.cell? ⟨B, 0, none⟩ = some (.string ⟨#[109, 97, 105, 110]⟩) ∧ Below w.heap.size w W' := by
  obtain ⟨ys, hys⟩ : ∃ ys : List {x : TX // x.funcs.length = 0}, ys.map (fun x => x.1) = exsB y := ⟨(exsB y).attachWith _ hno, by simp⟩
  have fr0 := fun n i (h : w.heap.size ≤ n) => frozen_out w n i h
  refine (callsIn_wide (n := 6)).1 ?_
  refine callsIn_of_wp_marks Tryz.func11 rfl trivial ?_ rfl
  simp only [Tryz.ntmps11, List.size_toArray, List.length_cons, List.length_nil, Nat.reduceAdd, Nat.reduceSub, Array.replicate_succ, Array.replicate_zero, List.push_toArray, List.append_toArray, List.nil_append, List.cons_append]
  gi_wp2_with (first | (refine ⟨trivial, ?_⟩; gi_at_call 10; refine (callsIn_wide.2 (each_any y _)).mono ?_; rintro e w' ⟨rfl, rfl⟩) | (gi_at_call 10; refine (callsIn_wide.2 (each_any y _)).mono ?_; rintro e w' ⟨rfl, rfl⟩))
  obtain ⟨W0, hW0⟩ : ∃ W0, (((w.alloc (.cells #[.string ⟨#[109, 97, 105, 110]⟩, .slice none 0 0, .bool true, y.v, .int .i64 0] 52)).alloc (.cells #[.slice (some ⟨w.heap.size, 0, none⟩) 1 1] 28)).alloc (.cells #[y.v] 42)) = W0 := ⟨_, rfl⟩
  have hs0 : W0.heap.size = w.heap.size + 3 := by rw [← hW0]; simp
  have hB0 : Below w.heap.size w W0 := by rw [← hW0]; (repeat' (first | (with_reducible exact Below.refl _ _) | (with_reducible assumption) | (with_reducible refine Below.alloc ?_ ?_ _) | (with_reducible refine below_drewN ?_ _) | (with_reducible refine Below.drew ?_) | (with_reducible refine Below.setCell ?_ ?_ _) | (with_reducible refine below_via (by assumption) ?_ ?_) | (with_reducible refine below_via (later_below _) ?_ ?_) | (with_reducible exact Nat.le_refl _) | omega | (simp; omega) | (simp; done)))
  have c0 : W0.cell? ⟨w.heap.size, 0, none⟩ = some (.string ⟨#[109, 97, 105, 110]⟩) := by rw [← hW0]; simp [cell_alloc_if]; omega
  have c1 : W0.cell? ⟨w.heap.size + 1, 0, none⟩ = some (.slice (some ⟨w.heap.size, 0, none⟩) 1 1) := by rw [← hW0]; simp [cell_alloc_if]
  have c2 : W0.cell? ⟨w.heap.size + 2, 0, none⟩ = some y.v := by rw [← hW0]; simp [cell_alloc_if]
  have f1 : W0.frozen? ⟨w.heap.size + 1, 0, none⟩ = false := by rw [← hW0]; simp [frozen_alloc, fr0]
  rw [hW0]
  refine wpIn_rangeFunc_ownH rfl (by decide) (gf := 27) (lb := #[.pointer (some ⟨w.heap.size + 1 + 1, 0, none⟩)]) rfl trivial (enters_of Tryz.func27 (by kernel_rfl) rfl)
    (each_stops 5 w.heap.size W0.heap.size (w.heap.size + 1 + 1) y ys hys (by omega) W0 (hin.still (still_of hB0 (Nat.le_refl _)) (Nat.le_refl _)) (Nat.le_refl _) c2) keptK_t (keptK_b (by omega)) (Below.refl _ _) (fun _ => rfl)
    (fun _ W => (W.cell? ⟨w.heap.size + 1, 0, none⟩ = some (.slice (some ⟨w.heap.size, 0, none⟩) 1 1) ∧ W.frozen? ⟨w.heap.size + 1, 0, none⟩ = false ∧ W.cell? ⟨w.heap.size, 0, none⟩ = some (.string ⟨#[109, 97, 105, 110]⟩)) ∧ Below w.heap.size w W)
    (fun _ _ _ => False)
    (OwnFrom.and (Own.from (fun s A B row hs hg hr => ⟨cell_kept hs.1 hg hr, (frozen_kept hs.1 hg hr).trans hs.2.1, cell_kept hs.2.2 hg hr⟩) _) (ownFrom_below (Nat.le_refl _) (by omega)))
    (fun _ _ _ _ _ hs _ _ => hs)
    ⟨⟨c1, f1, c0⟩, hB0⟩
    (fun x a' W => ∃ Bx, w.heap.size + 1 < Bx ∧ XBox W Bx x.1 ∧ a' = { tmps := #[y.v, undef, .slice none 0 0, .pointer (some ⟨w.heap.size + 1, 0, none⟩), .pointer (some ⟨Bx, 0, none⟩), y.v, .agg #[.string ⟨#[109, 97, 105, 110]⟩, .slice none 0 0, .bool true, y.v, .int .i64 0], .slice (some ⟨w.heap.size, 0, none⟩) 1 1, y.v, .func (.func 27) #[] #[.pointer (some ⟨w.heap.size + 1 + 1, 0, none⟩)], x.1.v, undef, undef, undef, undef, undef], defers := [] })
    (fun x a' _ A B row hs hg hr => by
      obtain ⟨Bx, h1, h2, h3⟩ := hs
      exact ⟨Bx, h1, h2.kept hg (fun e => by obtain ⟨-, o, ho, hc⟩ := hr Bx e.symm; rw [show A.heap[Bx]? = _ from h2] at ho; cases ho; cases hc), h3⟩) ?assign ?body ?done ?stop
  case assign =>
    rintro l pre x W K ⟨⟨hc, hf, hm⟩, hB⟩ hK
    have hz := hB.size
    have hlt1 := cell_lt hc
    gi_wp2
    have hg : ∀ o, W.grownBy (W.alloc o) none := fun o => World.grownBy_alloc W o none
    exact hK _ _ ((KeepsOthers.alloc _ _).from _) (kept_of ((Below.refl _ W).alloc (Nat.le_refl _) _) hz)
      ⟨⟨cell_kept hc (hg _) (fun r e => by cases e), (frozen_kept hc (hg _) (fun r e => by cases e)).trans hf, cell_kept hm (hg _) (fun r e => by cases e)⟩, hB.alloc hz _⟩
      ⟨W.heap.size, hlt1, XBox.new W x.1, rfl⟩
  case body =>
    rintro l pre x a' W hl ⟨r, hr⟩ ⟨⟨hc, hf, hm⟩, hB⟩ ⟨Bx, hBx, bX, rfl⟩ hlt
    have hx0 := x.2
    obtain ⟨x0, x1, x2, x3, x4, x5, x6, x7⟩ := bX.cells
    rw [hx0] at x7
    cases hfa : x.1.fA with
    | none =>
      rw [hfa] at x7
      gi_wp2
      exact ⟨(KeepsOthers.setCell _ _ _).from _, kept_set _ _ (by omega) (by omega), ⟨World.cell?_setCell_same _ _ _ hc, by rw [World.frozen?_setCell]; exact hf, by simp [cell_set_if, hm]⟩, hB.setCell (p := ⟨w.heap.size + 1, 0, none⟩) (by simp) _⟩
    | some p =>
      rw [hfa] at x7
      gi_wp2
      exact ⟨(KeepsOthers.setCell _ _ _).from _, kept_set _ _ (by omega) (by omega), ⟨World.cell?_setCell_same _ _ _ hc, by rw [World.frozen?_setCell]; exact hf, by simp [cell_set_if, hm]⟩, hB.setCell (p := ⟨w.heap.size + 1, 0, none⟩) (by simp) _⟩
  case done =>
    rintro D xs W hD rfl ⟨⟨hc, hf, hm⟩, hB⟩ hK
    gi_wp2
    refine ⟨by simp, .inl ⟨_, _, rfl, run_takeDeferred hK, ?_⟩⟩
    refine ⟨_, results_tmp rfl _ _ _, w.heap.size, rfl, Nat.le_refl _, ?_, hB.trans (belowK_b (w := w) (Nat.le_refl _) W D _ _ (by omega) hK rfl rfl)⟩
    exact cell_kept hm (grownBy_putObj' _ D (.deferred none)) (fun r e => by cases e; exact ⟨_, hK, rfl⟩)
  case stop =>
    rintro D c pre W hD _ h _
    exact h.elim
end Go.Proofs.YtplphejillkdeaaGreatDoor
