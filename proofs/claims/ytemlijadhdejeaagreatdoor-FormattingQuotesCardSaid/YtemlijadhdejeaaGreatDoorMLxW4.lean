/- The lexer's scanner in memory; skip. -/
import Derived.Test.YtemlijadhdejeaaGreatDoorMLxW3
import Derived.Test.YtemlijadhdejeaaGreatDoorMLxP
import Derived.Laws.Rows
import Derived.Deep.QuietTactic
import Derived.BigQuiet
import Derived.Deep.LoopGhost
import Derived.Deep.RegionHeld3
namespace Go.Proofs.YtemlijadhdejeaaGreatDoor
open Go.RowKit Go.Instr
set_option linter.unusedVariables false

/-- Tokens as cells. -/
def flatTk (l : List Tk) : List Value := l.flatMap fun t => [.int .i64 t.k, .string (mkS t.x), .int .i64 t.ln, .int .i64 t.at_]
theorem flatTk_snoc (l : List Tk) (t : Tk) : flatTk (l ++ [t]) = flatTk l ++ [.int .i64 t.k, .string (mkS t.x), .int .i64 t.ln, .int .i64 t.at_] := by unfold flatTk; simp
/-- The scanner at block X: its text, its index, its line, the tokens that it has read. -/
def Sc (w : World) (X : Nat) (s : ByteArray) (i ln : Nat) (l : List Tk) : Prop :=
  ∃ v T, w.heap[X]? = some (.cells #[.string s, .int .i64 i, .int .i64 ln, v] T (0, 0)) ∧ w.ownsRow (X + 1) 49 4 v l.length (flatTk l)
theorem ownsRow_below {W w : World} {base : Nat} {e : TypeId} {size : Nat} {v : Value} {n : Nat} {xs : List Value} (hb : Below W.heap.size W w) (h : W.ownsRow base e size v n xs) : w.ownsRow base e size v n xs := by
  obtain ⟨h1, h2 | ⟨g, cap, cur, hv, hg, hh, rest⟩⟩ := h
  · exact ⟨h1, .inl h2⟩
  · have hlt : g < W.heap.size := (Array.getElem?_eq_some_iff.1 hh).1
    exact ⟨h1, .inr ⟨g, cap, cur, hv, hg, (hb.block g hlt).trans hh, rest⟩⟩
theorem Sc.later {w w' : World} {X : Nat} {s : ByteArray} {i ln : Nat} {l : List Tk} (h : Sc w X s i ln l) (hb : Below w.heap.size w w') : Sc w' X s i ln l := by
  obtain ⟨v, T, h1, h2⟩ := h
  exact ⟨v, T, (hb.block X (Array.getElem?_eq_some_iff.1 h1).1).trans h1, ownsRow_below hb h2⟩
theorem Sc.lt {w : World} {X : Nat} {s : ByteArray} {i ln : Nat} {l : List Tk} (h : Sc w X s i ln l) : X < w.heap.size := by
  obtain ⟨v, T, h1, h2⟩ := h
  exact (Array.getElem?_eq_some_iff.1 h1).1
theorem Sc.set1 {w : World} {X : Nat} {s : ByteArray} {i ln : Nat} {l : List Tk} (h : Sc w X s i ln l) (k : Nat) : Sc (w.setCell ⟨X, 1, none⟩ (.int .i64 k)) X s k ln l := by
  obtain ⟨v, T, h1, h2⟩ := h
  exact ⟨v, T, heap_setCell_same w X 1 _ T _ h1, ownsRow_setCell_below h2 (by simp) _⟩
theorem Sc.set2 {w : World} {X : Nat} {s : ByteArray} {i ln : Nat} {l : List Tk} (h : Sc w X s i ln l) (k : Nat) : Sc (w.setCell ⟨X, 2, none⟩ (.int .i64 k)) X s i k l := by
  obtain ⟨v, T, h1, h2⟩ := h
  exact ⟨v, T, heap_setCell_same w X 2 _ T _ h1, ownsRow_setCell_below h2 (by simp) _⟩
theorem Sc.eq {w : World} {X : Nat} {s : ByteArray} {i i' ln ln' : Nat} {l : List Tk} (h : Sc w X s i ln l) (hi : i = i') (hl : ln = ln') : Sc w X s i' ln' l := by subst hi hl; exact h
/-- The scanner's cells, for a walk. -/
theorem Sc.cells {w : World} {X : Nat} {s : ByteArray} {i ln : Nat} {l : List Tk} (h : Sc w X s i ln l) :
    w.cell? ⟨X, 0, none⟩ = some (.string s) ∧ w.cell? ⟨X, 1, none⟩ = some (.int .i64 i) ∧ w.cell? ⟨X, 2, none⟩ = some (.int .i64 ln) ∧ w.frozen? ⟨X, 1, none⟩ = false ∧ w.frozen? ⟨X, 2, none⟩ = false ∧ w.frozen? ⟨X, 3, none⟩ = false := by
  obtain ⟨v, T, h1, h2⟩ := h
  exact ⟨cell_of_row w X 0 _ T (0, 0) h1, cell_of_row w X 1 _ T (0, 0) h1, cell_of_row w X 2 _ T (0, 0) h1, frozen_of_row w X 1 _ T h1, frozen_of_row w X 2 _ T h1, frozen_of_row w X 3 _ T h1⟩

/-- The index and the line behind the gap at an index. -/
def gapI (s : ByteArray) (i : Nat) : Nat := i + (gapN (s.data.toList.drop i)).1
def gapL (s : ByteArray) (i ln : Nat) : Nat := ln + (gapN (s.data.toList.drop i)).2
theorem gap_nl {s : ByteArray} {k ln : Nat} (h : k < s.size) (hc : (s[k]'h).toNat = 10) : gapI s k = gapI s (k + 1) ∧ gapL s k ln = gapL s (k + 1) (ln + 1) := by
  unfold gapI gapL
  rw [drop_get s k h, gapN_nl hc]
  exact ⟨by simp only []; omega, by simp only []; omega⟩
theorem gap_blank {s : ByteArray} {k ln : Nat} (h : k < s.size) (h0 : (s[k]'h).toNat ≠ 10) (hc : blkB (s[k]'h) = true) : gapI s k = gapI s (k + 1) ∧ gapL s k ln = gapL s (k + 1) ln := by
  unfold gapI gapL
  rw [drop_get s k h, gapN_blank h0 hc]
  exact ⟨by simp only []; omega, rfl⟩
theorem gap_rem {s : ByteArray} {k ln : Nat} (h : k < s.size) (hc : (s[k]'h).toNat = 45) (h2 : ((s.data.toList.drop (k + 1)).head?.map UInt8.toNat) = some 45) :
    gapI s k = gapI s (spanI notNl s k) ∧ gapL s k ln = gapL s (spanI notNl s k) ln ∧ k < spanI notNl s k := by
  have hy : notNl (s[k]'h) = true := by unfold notNl; simp; omega
  have e := spanI_yes h hy
  have hle := (spanI_le notNl s (k + 1) (by omega)).1
  have e2 : spanI notNl s k = k + 1 + spanN notNl (s.data.toList.drop (k + 1)) := e
  have e3 : s.data.toList.drop (spanI notNl s k) = (s.data.toList.drop (k + 1)).drop (spanN notNl (s.data.toList.drop (k + 1))) := by rw [e2, List.drop_drop]
  unfold gapI gapL
  rw [e3, drop_get s k h, gapN_rem hc h2]
  exact ⟨by simp only []; omega, rfl, by omega⟩
theorem gap_stop {s : ByteArray} {k ln : Nat} (h : k < s.size) (h0 : (s[k]'h).toNat ≠ 10) (h1 : blkB (s[k]'h) = false) (h2 : ¬ ((s[k]'h).toNat = 45 ∧ ((s.data.toList.drop (k + 1)).head?.map UInt8.toNat) = some 45)) : gapI s k = k ∧ gapL s k ln = ln := by
  unfold gapI gapL
  rw [drop_get s k h, gapN_stop h0 h1 h2]
  exact ⟨rfl, rfl⟩
theorem gap_end {s : ByteArray} {k ln : Nat} (h : s.size ≤ k) : gapI s k = k ∧ gapL s k ln = ln := by
  unfold gapI gapL
  rw [List.drop_eq_nil_of_le (by simpa using h), gapN_nil]
  exact ⟨rfl, rfl⟩
theorem gapI_le (s : ByteArray) (k : Nat) (h : k ≤ s.size) : k ≤ gapI s k ∧ gapI s k ≤ s.size := by
  unfold gapI
  have := gapN_le (s.data.toList.drop k).length (s.data.toList.drop k) (Nat.le_refl _)
  simp at this
  omega
/-- Whether two hyphens are ahead. -/
theorem rem_prefix {s : ByteArray} {k : Nat} (h : k < s.size) (b : Bool) (hb : decide ((s[k]'h).toNat = 45 ∧ ((s.data.toList.drop (k + 1)).head?.map UInt8.toNat) = some 45) = b) (w : World) :
    Calls Tryz.prog 23 #[.string (s.extract k s.size), .string ⟨#[45, 45]⟩] w fun e w' => e = .returned (.bool b) ∧ w' = w := by
  have e : (s.extract k s.size).data.toList = s[k]'h :: s.data.toList.drop (k + 1) := by
    rw [← drop_get s k h, Lib.extract_to_end]
  have hp : Lib.hasPrefix (s.extract k s.size).data.toList (⟨#[45, 45]⟩ : ByteArray).data.toList = b := by
    rw [e, ← hb]
    show List.isPrefixOf [45, 45] _ = _
    generalize s[k]'h = c
    have back : ∀ d : UInt8, ((45 : UInt8) == d) = decide (d.toNat = 45) := by
      intro d
      rw [Bool.eq_iff_iff]
      simp only [beq_iff_eq, decide_eq_true_eq]
      exact ⟨fun e => by rw [← e]; rfl, fun e => (UInt8.toNat_inj.1 (e.trans (by rfl))).symm⟩
    cases s.data.toList.drop (k + 1) with
    | nil => simp [List.isPrefixOf]
    | cons d u =>
      simp only [List.isPrefixOf, back, List.head?_cons, Option.map_some, Option.some.injEq]
      simp
  exact (Tryz.strings_HasPrefix _ _ w).mono fun _ _ ⟨he, hw⟩ => ⟨by rw [he, hp], hw⟩

end Go.Proofs.YtemlijadhdejeaaGreatDoor
