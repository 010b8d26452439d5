/- The lexer's add: a token behind those that it has. -/
import Derived.Test.YtgjeljhodflbgaaDoorMLxW4
import Derived.Deep.AppendLies
import Derived.Deep.RegionLaw
namespace Go.Proofs.YtgjeljhodflbgaaDoor
open Go.RowKit Go.Instr
set_option linter.unusedVariables false

theorem token_info : (Tryd.prog.info? 30).map (fun i => (i.zero, i.size, i.bytes)) = some (some (.agg #[.int .i64 0, .string ⟨#[]⟩, .int .i64 0, .int .i64 0]), 4, 40) := by kernel_rfl
theorem Sc.grown {w w1 : World} {X : Nat} {s : ByteArray} {i ln : Nat} {v : Value} {T : TypeId} {r : Option Nat} (h : w.heap[X]? = some (.cells #[.string s, .int .i64 i, .int .i64 ln, v] T (0, 0))) (hg : w.grownBy w1 r) (hr : r ≠ some X) : w1.heap[X]? = some (.cells #[.string s, .int .i64 i, .int .i64 ln, v] T (0, 0)) :=
  (hg.block X (Array.getElem?_eq_some_iff.1 h).1 (fun e => hr e.symm)).trans h

theorem Sc.added {w1 : World} {X : Nat} {s xb : ByteArray} {i ln : Nat} {k : Int} {v v2 : Value} {T : TypeId} {l : List Tk} (en : Nat) (h : w1.heap[X]? = some (.cells #[.string s, .int .i64 i, .int .i64 ln, v] T (0, 0)))
    (ho : w1.ownsRow (X + 1) 30 4 v2 (l.length + 1) (flatTk l ++ [.int .i64 k, .string xb, .int .i64 ln, .int .i64 i])) :
    Sc ((w1.setCell ⟨X, 3, none⟩ v2).setCell ⟨X, 1, none⟩ (.int .i64 en)) X s en ln (l ++ [⟨k, xb.data.toList, ln, i⟩]) := by
  refine ⟨v2, T, ?_, ?_⟩
  · exact heap_setCell_same _ X 1 _ T _ (heap_setCell_same w1 X 3 _ T _ h)
  · rw [List.length_append, flatTk_snoc, mkS_of]
    exact ownsRow_setCell_below (ownsRow_setCell_below ho (by simp) _) (by simp) _
set_option maxRecDepth 100000 in
set_option maxHeartbeats 3200000 in
theorem addTk_any (X : Nat) (s xb : ByteArray) (i ln en : Nat) (k : Int) (l : List Tk) (w : World) (hn : l.length ≤ 1000000) (h : Sc w X s i ln l) :
    Calls Tryd.prog 63 #[.pointer (some ⟨X, 0, none⟩), .int .i64 k, .string xb, .int .i64 en] w fun e w' => e = .returned (.tuple #[]) ∧ Sc w' X s en ln (l ++ [⟨k, xb.data.toList, ln, i⟩]) ∧ Below X w w' := by
  obtain ⟨i0, hi0, hz0, hz1, hz2⟩ := info_parts token_info
  obtain ⟨v, T, hb, hown⟩ := h
  have hX : X < w.heap.size := (Array.getElem?_eq_some_iff.1 hb).1
  have hne : v.ownBlock ≠ some X := by
    intro e
    have := (hown.lt X e).1
    omega
  have HBk := Lib.hid hb
  have HO := Lib.hid hown
  have HNE := Lib.hid hne
  have c1 := cell_of_row w X 1 _ T (0, 0) hb
  have c2 := cell_of_row w X 2 _ T (0, 0) hb
  have c3 := cell_of_row w X 3 _ T (0, 0) hb
  simp at c1 c2 c3
  clear hb hown hne
  go_enter Tryd.func63, Tryd.ntmps63
  go_wp2_with fail
  go_region_law
    ((refine step_append_lies _ (by rfl) _ _ _ (by rfl) (X + 1) 30 i0 _ 4 40 Tryd.underlying23 hi0 hz0 hz1 hz2 rfl (by omega) v l.length (flatTk l) (by rfl) ((HO.out.alloc _).drew)
        ⟨w.heap.size, 0, none⟩ 1 1 [.int .i64 k, .string xb, .int .i64 ln, .int .i64 i] (by rfl) (by rfl) (World.news_of_block (cs := #[.int .i64 k, .string xb, .int .i64 ln, .int .i64 i]) (t := 30) (fr := (0, 0)) (heap_alloc_new w _)) (by simp [Value.oneCell'])
        (by omega) (by unfold maxLen; omega) (by omega) (by simp; omega) (w.heap.size + 1) (by simp) ?_; intro gg cap w1 hown1 hgrow hat hlt; have hblk := Lib.hid (Sc.grown (((Below.refl _ _).alloc (Nat.le_refl _) _).drew.block X hX |>.trans HBk.out) hgrow HNE.out); have fz := frozen_of_row w1 X 3 _ T hblk.out; have fz1 := frozen_of_row w1 X 1 _ T hblk.out; have cz1 : w1.cell? ⟨X, 1, none⟩ = some (.int .i64 i) := cell_of_row w1 X 1 _ T (0, 0) hblk.out; have cz2 : w1.cell? ⟨X, 2, none⟩ = some (.int .i64 ln) := cell_of_row w1 X 2 _ T (0, 0) hblk.out; have cz3 : w1.cell? ⟨X, 3, none⟩ = some v := cell_of_row w1 X 3 _ T (0, 0) hblk.out))
  go_wp2
  all_goals
    go_returns
    refine ⟨rfl, Sc.added en hblk.out hown1, ?_⟩
    have hB0 : Below X w w1 := (((Below.refl _ _).alloc (by omega) _).drew).grown hgrow (by simp; omega) (fun r hr => by have := (HO.out.lt r hr).1; omega)
    exact (hB0.setCell (Nat.le_refl _) _).setCell (Nat.le_refl _) _
end Go.Proofs.YtgjeljhodflbgaaDoor
