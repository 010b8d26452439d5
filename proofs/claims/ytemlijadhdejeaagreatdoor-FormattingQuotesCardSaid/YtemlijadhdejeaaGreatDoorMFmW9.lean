/- The parts of a format in memory; the program's flush. -/
import Derived.Test.YtemlijadhdejeaaGreatDoorMFmW2
import Derived.Test.YtemlijadhdejeaaGreatDoorMOwn
import Derived.Deep.AppendLies
import Derived.Deep.RegionLaw
namespace Go.Proofs.YtemlijadhdejeaaGreatDoor
open Go.RowKit Go.Instr
set_option linter.unusedVariables false

theorem piece_info : (Tryz.prog.info? 31).map (fun i => (i.zero, i.size, i.bytes)) = some (some (.agg #[.string ⟨#[]⟩, .int .u8 0, .bool false, .bool false, .bool false, .int .i64 0, .int .i64 0]), 7, 40) := by kernel_rfl
theorem byte_inf2 : (Tryz.prog.info? 5).map (fun i => (i.zero, i.size, i.bytes)) = some (some (.int .u8 0), 1, 1) := by kernel_rfl
/-- A part of a format as cells. -/
def pcC (p : Pc) : List Value := [.string (mkS p.t), .int .u8 p.v, .bool p.mi, .bool p.ze, .bool p.pl, .int .i64 p.w, .int .i64 p.n]
def flatPc (l : List Pc) : List Value := l.flatMap pcC
theorem flatPc_snoc (l : List Pc) (p : Pc) : flatPc (l ++ [p]) = flatPc l ++ pcC p := by unfold flatPc; simp
theorem pcC_one (p : Pc) : ∀ u ∈ pcC p, u.oneCell' = true := by unfold pcC; simp [Value.oneCell']
def apart (v u : Value) : Prop := ∀ k, v.ownBlock = some k → u.ownBlock ≠ some k
theorem apart.kept {v u : Value} (h : apart v u) : v.ownBlock = none ∨ v.ownBlock ≠ u.ownBlock := by
  cases hv : v.ownBlock with
  | none => exact .inl rfl
  | some k => exact .inr (fun e => h k hv e.symm)
theorem apart.kept2 {v u : Value} (h : apart v u) : u.ownBlock = none ∨ u.ownBlock ≠ v.ownBlock := by
  cases hv : u.ownBlock with
  | none => exact .inl rfl
  | some k => exact .inr (fun e => h k e.symm hv)
/-- What Pieces has read: the parts (their slice lies in block B), the text (in block B + 1). -/
def PSt (W : World) (B : Nat) (out : List Pc) (a : List UInt8) (v u : Value) (w : World) : Prop :=
  w.heap[B]? = some (.cells #[v] 23 (0, 0)) ∧ w.heap[B + 1]? = some (.cells #[u] 52 (0, 0)) ∧ w.ownsRow (B + 2) 31 7 v out.length (flatPc out) ∧ w.ownsRow (B + 2) 5 1 u a.length (u8s a) ∧ apart v u ∧ Below B W w
theorem PSt.later {W w w' : World} {B : Nat} {out : List Pc} {a : List UInt8} {v u : Value} (h : PSt W B out a v u w) (hb : Below w.heap.size w w') : PSt W B out a v u w' := by
  obtain ⟨h1, h2, h3, h4, h5, h6⟩ := h
  have hB : B < w.heap.size := (Array.getElem?_eq_some_iff.1 h1).1
  exact ⟨(hb.block B hB).trans h1, (hb.block _ (Array.getElem?_eq_some_iff.1 h2).1).trans h2, ownsRow_later h3 hb, ownsRow_later h4 hb, h5, h6.trans (hb.mono (by omega))⟩
theorem PSt.alloc {W w : World} {B : Nat} {out : List Pc} {a : List UInt8} {v u : Value} (h : PSt W B out a v u w) (o : Obj) : PSt W B out a v u (w.alloc o) := h.later ((Below.refl _ _).alloc (Nat.le_refl _) o)
theorem PSt.lt {W w : World} {B : Nat} {out : List Pc} {a : List UInt8} {v u : Value} (h : PSt W B out a v u w) : B + 1 < w.heap.size := (Array.getElem?_eq_some_iff.1 h.2.1).1
theorem PSt.eq {W w : World} {B : Nat} {out out' : List Pc} {a a' : List UInt8} {v u : Value} (h : PSt W B out a v u w) (h1 : out = out') (h2 : a = a') : PSt W B out' a' v u w := by subst h1 h2; exact h
theorem ownsRow_set {w : World} {base : Nat} {e : TypeId} {size : Nat} {v : Value} {n : Nat} {xs : List Value} (h : w.ownsRow base e size v n xs) (p : Addr) (hp : p.block < base) (u : Value) : (w.setCell p u).ownsRow base e size v n xs := by
  obtain ⟨h1, h2 | ⟨g, cap, cur, hv, hg, hh, rest⟩⟩ := h
  · exact ⟨h1, .inl h2⟩
  · exact ⟨h1, .inr ⟨g, cap, cur, hv, hg, (Below.heap_setCell _ _ _ _ (by omega)).trans hh, rest⟩⟩
/-- The text has grown. -/
theorem PSt.addT {W w0 w1 : World} {B : Nat} {out : List Pc} {a : List UInt8} {v u : Value} {c : UInt8} {g cap : Nat} (h : PSt W B out a v u w0)
    (ho : w1.ownsRow (B + 2) 5 1 (.slice (some ⟨g, 0, none⟩) (a.length + 1) cap) (a.length + 1) (u8s a ++ [.int .u8 c.toNat])) (hg : w0.grownBy w1 u.ownBlock) (hl : u.ownBlock = some g ∨ g = w0.heap.size) :
    PSt W B out (a ++ [c]) v (.slice (some ⟨g, 0, none⟩) (a.length + 1) cap) (w1.setCell ⟨B + 1, 0, none⟩ (.slice (some ⟨g, 0, none⟩) (a.length + 1) cap)) := by
  have hB1 := h.lt
  obtain ⟨h1, h2, h3, h4, h5, h6⟩ := h
  have hB : B < w0.heap.size := by omega
  have hu : ∀ k, u.ownBlock = some k → B + 2 ≤ k := fun k hk => (h4.lt k hk).1
  refine ⟨?_, ?_, ?_, ?_, ?_, ?_⟩
  · refine (Below.heap_setCell _ _ _ _ (by simp)).trans ((hg.block B hB (fun e => ?_)).trans h1)
    have := hu B e.symm; omega
  · exact heap_setCell_same w1 (B + 1) 0 _ _ _ ((hg.block _ hB1 (fun e => by have := hu _ e.symm; omega)).trans h2)
  · exact ownsRow_set (h3.kept hg h5.kept) _ (by simp) _
  · have := ownsRow_set ho ⟨B + 1, 0, none⟩ (by simp) (.slice (some ⟨g, 0, none⟩) (a.length + 1) cap)
    rw [u8s_app, List.length_append]; exact this
  · intro k hk e
    simp [Value.ownBlock] at e
    rcases hl with hl | hl
    · exact h5 k hk (by rw [hl, e])
    · have := (h3.lt k hk).2; omega
  · exact (h6.trans ((Below.refl _ _).grown hg (by omega) (fun k hk => by have := hu k hk; omega))).setCell (by simp) _
/-- The parts have grown. -/
theorem PSt.addO {W w0 w1 : World} {B : Nat} {out : List Pc} {a : List UInt8} {v u : Value} {p : Pc} {g cap : Nat} (h : PSt W B out a v u w0)
    (ho : w1.ownsRow (B + 2) 31 7 (.slice (some ⟨g, 0, none⟩) (out.length + 1) cap) (out.length + 1) (flatPc out ++ pcC p)) (hg : w0.grownBy w1 v.ownBlock) (hl : v.ownBlock = some g ∨ g = w0.heap.size) :
    PSt W B (out ++ [p]) a (.slice (some ⟨g, 0, none⟩) (out.length + 1) cap) u (w1.setCell ⟨B, 0, none⟩ (.slice (some ⟨g, 0, none⟩) (out.length + 1) cap)) := by
  have hB1 := h.lt
  obtain ⟨h1, h2, h3, h4, h5, h6⟩ := h
  have hB : B < w0.heap.size := by omega
  have hu : ∀ k, v.ownBlock = some k → B + 2 ≤ k := fun k hk => (h3.lt k hk).1
  refine ⟨?_, ?_, ?_, ?_, ?_, ?_⟩
  · exact heap_setCell_same w1 B 0 _ _ _ ((hg.block _ hB (fun e => by have := hu _ e.symm; omega)).trans h1)
  · refine (Below.heap_setCell _ _ _ _ (by simp)).trans ((hg.block _ hB1 (fun e => ?_)).trans h2)
    have := hu _ e.symm; omega
  · have := ownsRow_set ho ⟨B, 0, none⟩ (by simp) (.slice (some ⟨g, 0, none⟩) (out.length + 1) cap)
    rw [flatPc_snoc, List.length_append]; exact this
  · exact ownsRow_set (h4.kept hg h5.kept2) _ (by simp) _
  · intro k hk e
    simp [Value.ownBlock] at hk
    rcases hl with hl | hl
    · exact h5 k (by rw [hl, hk]) e
    · have := (h4.lt k e).2; omega
  · exact (h6.trans ((Below.refl _ _).grown hg (by omega) (fun k hk => by have := hu k hk; omega))).setCell (by simp) _
/-- The text is struck. -/
theorem PSt.strike {W w : World} {B : Nat} {out : List Pc} {a : List UInt8} {v u : Value} (h : PSt W B out a v u w) : PSt W B out [] v (.slice none 0 0) (w.setCell ⟨B + 1, 0, none⟩ (.slice none 0 0)) := by
  obtain ⟨h1, h2, h3, h4, h5, h6⟩ := h
  refine ⟨(Below.heap_setCell _ _ _ _ (by simp)).trans h1, heap_setCell_same w (B + 1) 0 _ _ _ h2, ownsRow_set h3 _ (by simp) _, World.ownsRow_nil _ _ _ _, fun k _ e => by simp [Value.ownBlock] at e, h6.setCell (by simp) _⟩
theorem PSt.cells {W w : World} {B : Nat} {out : List Pc} {a : List UInt8} {v u : Value} (h : PSt W B out a v u w) : w.cell? ⟨B, 0, none⟩ = some v ∧ w.cell? ⟨B + 1, 0, none⟩ = some u ∧ w.frozen? ⟨B, 0, none⟩ = false ∧ w.frozen? ⟨B + 1, 0, none⟩ = false := by
  obtain ⟨h1, h2, -⟩ := h
  exact ⟨cell_of_row w B 0 _ _ (0, 0) h1, cell_of_row w (B + 1) 0 _ _ (0, 0) h2, frozen_of_row w B 0 _ _ h1, frozen_of_row w (B + 1) 0 _ _ h2⟩
theorem grown_cells {W w0 w1 : World} {B : Nat} {out : List Pc} {a : List UInt8} {v u : Value} {r : Option Nat} (h : PSt W B out a v u w0) (hg : w0.grownBy w1 r) (hr : ∀ k, r = some k → B + 2 ≤ k) :
    w1.cell? ⟨B, 0, none⟩ = some v ∧ w1.cell? ⟨B + 1, 0, none⟩ = some u ∧ w1.frozen? ⟨B, 0, none⟩ = false ∧ w1.frozen? ⟨B + 1, 0, none⟩ = false := by
  have hB1 := h.lt
  obtain ⟨h1, h2, -⟩ := h
  have e1 := (hg.block B (by omega) (fun e => by have := hr _ e.symm; omega)).trans h1
  have e2 := (hg.block (B + 1) hB1 (fun e => by have := hr _ e.symm; omega)).trans h2
  exact ⟨cell_of_row w1 B 0 _ _ (0, 0) e1, cell_of_row w1 (B + 1) 0 _ _ (0, 0) e2, frozen_of_row w1 B 0 _ _ e1, frozen_of_row w1 (B + 1) 0 _ _ e2⟩
theorem own_form {w : World} {base : Nat} {e : TypeId} {size : Nat} {v : Value} {n : Nat} {xs : List Value} (h : w.ownsRow base e size v n xs) : ∃ x cap, v = .slice x n cap := by
  rcases h.2 with ⟨hv, hn⟩ | ⟨g, cap, cur, hv, _⟩
  · exact ⟨_, _, by rw [hv, hn]⟩
  · exact ⟨_, _, hv⟩

set_option maxHeartbeats 4000000 in
set_option maxRecDepth 100000 in
theorem flush_any (W w : World) (B : Nat) (out : List Pc) (a : List UInt8) (v u : Value) (h : PSt W B out a v u w) (hn : out.length ≤ 1000000) (ha : a.length ≤ 1000000) :
    Calls Tryz.prog 27 #[.pointer (some ⟨B + 1, 0, none⟩), .pointer (some ⟨B, 0, none⟩)] w fun e w' => e = .returned (.tuple #[]) ∧ (∃ v' u', PSt W B (out ++ flushP a) [] v' u' w') ∧ w.heap.size ≤ w'.heap.size ∧ ∀ k, k < w.heap.size → k ≠ B → k ≠ B + 1 → v.ownBlock ≠ some k → w'.heap[k]? = w.heap[k]? := by
  obtain ⟨i0, hi0, hz0, hz1, hz2⟩ := info_parts piece_info
  obtain ⟨c1, c2, f1, f2⟩ := h.cells
  obtain ⟨xu, cu, rfl⟩ := own_form h.2.2.2.1
  obtain ⟨xv, cv, rfl⟩ := own_form h.2.2.1
  have HP := Lib.hid h
  by_cases ha0 : a = []
  · subst ha0
    clear h
    go_enter Tryz.func27, Tryz.ntmps27
    go_wp2_with fail
    go_returns
    exact ⟨rfl, ⟨_, _, HP.out.eq (by unfold flushP; simp) rfl⟩, Nat.le_refl _, fun _ _ _ _ _ => rfl⟩
  · have hl0 : decide (0 < (a.length : Int)) = true := by
      have : 0 < a.length := by cases a; exact absurd rfl ha0; simp
      simp; omega
    have hl1 : decide (0 < a.length) = true := by simpa using hl0
    have hcv := Own.str (P := Tryz.prog) (Own.of_row h.2.2.2.1) ha0 52 9 5 Tryz.underlying52 Tryz.underlying5 Tryz.underlying9
    have hfl : flushP a = [txtP a] := if_neg ha0
    have HFL := Lib.hid hfl
    have hcv2 : (convert 52 9 (.slice xu a.length cu)).run Tryz.prog w = .ok (.string (mkS a)) w := hcv
    have hsz := h.lt
    have hv : ∀ k, (Value.slice xv out.length cv).ownBlock = some k → B + 2 ≤ k := fun k hk => (h.2.2.1.lt k hk).1
    have HV := Lib.hid hv
    clear h ha0 hfl hcv hv
    go_enter Tryz.func27, Tryz.ntmps27
    go_wp2_with (first | (at_builtin; refine wpList_append_lies _ rfl _ _ 23 rfl (B + 2) 31 i0 _ 7 40 Tryz.underlying23 hi0 hz0 hz1 hz2 rfl (by omega) (.slice xv out.length cv) out.length (flatPc out) rfl (HP.out.alloc _).2.2.1 ⟨w.heap.size, 0, none⟩ 1 1 (pcC (txtP a)) rfl (by rfl) (World.news_of_block (cs := (pcC (txtP a)).toArray) (t := 31) (fr := (0, 0)) (heap_alloc_new w _)) (pcC_one _) (by omega) (by unfold maxLen; omega) (by omega) (by simp; omega) _ rfl ?_; intro g cap w1 ho1 hg1 hl1 hlt1; have HO1 := Lib.hid ho1; have HG1 := Lib.hid hg1; have HL1 := Lib.hid hl1; obtain ⟨d1, d2, e1, e2⟩ := grown_cells (HP.out.alloc _) hg1 HV.out; clear ho1 hg1 hl1))
    go_returns
    have HH := ((HP.out.alloc _).addO (p := txtP a) HO1.out HG1.out HL1.out).strike
    refine ⟨rfl, ⟨_, _, HH.eq (by rw [HFL.out]) rfl⟩, ?_, fun k hk h1 h2 h3 => ?_⟩
    · have := HG1.out.size
      simp [World.setCell] at this ⊢
      omega
    · refine (Below.heap_setCell _ _ _ _ (by simpa using h2)).trans ((Below.heap_setCell _ _ _ _ (by simpa using h1)).trans ((HG1.out.block k (by simp; omega) (fun e => h3 e.symm)).trans (heap_alloc_old _ _ hk)))
end Go.Proofs.YtemlijadhdejeaaGreatDoor
