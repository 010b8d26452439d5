/- A slice of one-cell elements that the call itself appends to and writes to: as module Own, with all its cells writable. No program. -/
import Derived.Test.YtjpegcaooamhfaaDoorOwn
namespace Go.Proofs.YtjpegcaooamhfaaDoor
open Go.RowKit
set_option linter.unusedVariables false

/-- The slice v holds just the cells xs, in a block from base on; all its cells may be written. -/
def OwnF (w : World) (base : Nat) (v : Value) (xs : List Value) : Prop :=
  (v = .slice none 0 0 ∧ xs = []) ∨ ∃ g cap, v = .slice (some ⟨g, 0, none⟩) xs.length cap ∧ base ≤ g ∧ g < w.heap.size ∧ xs.length ≤ cap ∧
    (∀ (j : Nat) u, xs[j]? = some u → w.cell? ⟨g, j, none⟩ = some u) ∧ (∀ j, j < cap → (w.cell? ⟨g, j, none⟩).isSome = true ∧ w.frozen? ⟨g, j, none⟩ = false)

theorem OwnF.own {w : World} {base : Nat} {v : Value} {xs : List Value} (h : OwnF w base v xs) : Own w base v xs := by
  rcases h with h | ⟨g, cap, h1, h2, h3, h4, h5, h6⟩
  · exact .inl h
  · exact .inr ⟨g, cap, h1, h2, h3, h4, h5, fun j _ hj => h6 j hj⟩
theorem OwnF.empty (w : World) (base g : Nat) (h : base ≤ g) (h2 : g < w.heap.size) : OwnF w base (.slice (some ⟨g, 0, none⟩) 0 0) [] :=
  .inr ⟨g, 0, rfl, h, h2, Nat.le_refl _, fun j u h => by simp at h, fun j h => by omega⟩
theorem OwnF.of_row {w : World} {base : Nat} {e : TypeId} {v : Value} {n : Nat} {xs : List Value} (h : w.ownsRow base e 1 v n xs) : OwnF w base v xs := by
  have hn : xs.length = n := by simpa using h.1
  rcases h.2 with ⟨h1, h2⟩ | ⟨g, cap, cur, hv, hb, hg, hnc, _, hs, ht⟩
  · left
    subst h2
    exact ⟨h1, List.eq_nil_of_length_eq_zero hn⟩
  · right
    have hlt : g < w.heap.size := (Array.getElem?_eq_some_iff.1 hg).1
    refine ⟨g, cap, by rw [hv, hn], hb, hlt, by omega, ?_, ?_⟩
    · intro j u hj
      rw [cell_of_row w g j cur e (0, 0) hg]
      rw [← ht, List.getElem?_take] at hj
      split at hj
      · simpa using hj
      · cases hj
    · intro j hj
      constructor
      · rw [cell_of_row w g j cur e (0, 0) hg, Array.getElem?_eq_getElem (by omega)]; rfl
      · simp [World.frozen?, hg]
theorem OwnF.keep {w w' : World} {base : Nat} {v : Value} {xs : List Value} (h : OwnF w base v xs) (hs : w.heap.size ≤ w'.heap.size) (hk : ∀ g, base ≤ g → g < w.heap.size → w'.heap[g]? = w.heap[g]?) : OwnF w' base v xs := by
  rcases h with h | ⟨g, cap, hv, hb, hlt, hnc, hc, hf⟩
  · exact .inl h
  · right
    have hg := hk g hb hlt
    have hcell : ∀ j, w'.cell? ⟨g, j, none⟩ = w.cell? ⟨g, j, none⟩ := fun j => World.cell?_of_block hg
    have hfro : ∀ j, w'.frozen? ⟨g, j, none⟩ = w.frozen? ⟨g, j, none⟩ := fun j => World.frozen?_of_block hg
    refine ⟨g, cap, hv, hb, by omega, hnc, fun j u hj => by rw [hcell]; exact hc j u hj, fun j h2 => ?_⟩
    rw [hcell, hfro]; exact hf j h2
theorem OwnF.below {w w' : World} {base : Nat} {v : Value} {xs : List Value} (h : OwnF w base v xs) (hb : Below w.heap.size w w') : OwnF w' base v xs :=
  h.keep hb.size fun g _ hg => hb.block g hg
theorem OwnF.alloc {w : World} {base : Nat} {v : Value} {xs : List Value} (h : OwnF w base v xs) (o : Obj) : OwnF (w.alloc o) base v xs := h.below ((Below.refl _ _).alloc (Nat.le_refl _) o)
theorem ownF_eq {w : World} {base : Nat} {v : Value} {xs ys : List Value} (h : OwnF w base v xs) (e : xs = ys) : OwnF w base v ys := by rw [← e]; exact h
theorem OwnF.form {w : World} {base : Nat} {v : Value} {xs : List Value} (h : OwnF w base v xs) (hne : xs ≠ []) :
    ∃ g cap, v = .slice (some ⟨g, 0, none⟩) xs.length cap ∧ base ≤ g ∧ g < w.heap.size ∧ xs.length ≤ cap ∧ (∀ (j : Nat) u, xs[j]? = some u → w.cell? ⟨g, j, none⟩ = some u) ∧ (∀ j, j < cap → w.frozen? ⟨g, j, none⟩ = false) := by
  rcases h with ⟨_, h⟩ | ⟨g, cap, h1, h2, h3, h4, h5, h6⟩
  · exact absurd h hne
  · exact ⟨g, cap, h1, h2, h3, h4, h5, fun j hj => (h6 j hj).2⟩
theorem OwnF.shape {w : World} {base : Nat} {v : Value} {xs : List Value} (h : OwnF w base v xs) : ∃ a cap, v = .slice a xs.length cap := by
  rcases h with ⟨h1, h2⟩ | ⟨g, cap, h1, _⟩
  · exact ⟨none, 0, by rw [h1, h2]; rfl⟩
  · exact ⟨_, _, h1⟩
/-- A cell within the slice is written. -/
theorem OwnF.put {w : World} {base g cap : Nat} {xs : List Value} (h : OwnF w base (.slice (some ⟨g, 0, none⟩) xs.length cap) xs) (j : Nat) (hj : j < xs.length) (u : Value) : OwnF (w.setCell ⟨g, j, none⟩ u) base (.slice (some ⟨g, 0, none⟩) xs.length cap) (xs.set j u) := by
  rcases h with ⟨h1, h2⟩ | ⟨g', cap', h1, h2, h3, h4, h5, h6⟩
  · cases h1
  · simp only [Value.slice.injEq, Option.some.injEq, Addr.mk.injEq, and_true, true_and] at h1
    obtain ⟨rfl, rfl⟩ := h1
    have hlen : (xs.set j u).length = xs.length := by simp
    refine .inr ⟨g, cap, by rw [hlen], h2, by rw [size_setCell_eq]; exact h3, by rw [hlen]; exact h4, ?_, ?_⟩
    · intro k y hk
      rw [cell_set_if]
      by_cases hjk : j = k
      · subst hjk
        rw [if_pos ⟨rfl, rfl⟩]
        obtain ⟨y0, hy0⟩ := Option.isSome_iff_exists.1 (h6 j (by omega)).1
        rw [hy0]
        rw [List.getElem?_set_self hj] at hk
        exact hk
      · rw [if_neg (fun h => hjk h.2)]
        rw [List.getElem?_set_ne hjk] at hk
        exact h5 k y hk
    · intro k hk
      rw [World.frozen?_setCell, cell_set_if]
      have := h6 k hk
      refine ⟨?_, this.2⟩
      split
      · obtain ⟨y0, hy0⟩ := Option.isSome_iff_exists.1 this.1
        rw [hy0]; rfl
      · exact this.1

theorem wp_pushF {P : Program} {w : World} {ops : Array Oper} {rest : List Oper} {o : Oper} {a : Act} {Q : Exit → Act → World → Prop}
    (hg : o.guard = none) (s x : Operand) (t : TypeId) (hop : o.op = Op.call { callee := Callee.builtin Builtin.append, args := #[s, x], argTypes := #[t, t] })
    (e : TypeId) (i : TypeInfo) (z : Value) (bytes : Nat) (h1 : P.underlying t = some (.slice e)) (h2 : P.info? e = some i) (h3 : i.zero = some z) (h4 : i.size = 1) (h5 : i.bytes = bytes) (h6 : z.cells.size = 1)
    (base : Nat) (v : Value) (xs : List Value) (hown : OwnF w base v xs) (hs : a.eval s = v) (ad : Addr) (c : Nat) (u : Value) (hx : a.eval x = .slice (some ad) 1 c) (hc : w.cell? ad = some u) (h1c : u.oneCell' = true)
    (hbase : base ≤ w.heap.size) (b1 : xs.length + 1 ≤ maxLen) (b2 : (xs.length + 1) * bytes ≤ 140737488355328)
    (hK : ∀ v' w', OwnF w' base v' (xs ++ [u]) → Below base w w' → wpList P ops Q rest (a.put o.dst v') w') : wpList P ops Q (o :: rest) a w := by
  have hnew : ∀ (j : Nat) y, [u][j]? = some y → w.cell? (ad.add j) = some y := by
    intro j y hj
    cases j with
    | zero => simp at hj; subst hj; simpa [Addr.add] using hc
    | succ j => simp at hj
  have hgrow : ∀ v' w', w'.ownsRow w.heap.size e 1 v' (xs.length + 1) (xs ++ [u]) → w.grownBy w' none → wpList P ops Q rest (a.put o.dst v') w' := by
    intro v' w' ho hgr
    refine hK v' w' ?_ (((Below.refl w.heap.size w).grown hgr (Nat.le_refl _) (fun k h => by cases h)).mono hbase)
    rcases OwnF.of_row ho with h | ⟨g, cap, h1, h2, h3, h4, h5, h6⟩
    · exact .inl h
    · exact .inr ⟨g, cap, h1, by omega, h3, h4, h5, h6⟩
  rcases hown with ⟨rfl, rfl⟩ | ⟨g, cap, rfl, hb, hlt, hnc, hcell, hspare⟩
  · refine wpList_append_grows w hg s x t hop e i z 1 bytes h1 h2 h3 h4 h5 h6 (by omega) none 0 0 [] hs (fun _ => ⟨rfl, rfl⟩) rfl (fun b h => by cases h) ad 1 c [u] hx rfl hnew (by simpa using h1c) (by omega) b1 b2 ?_
    exact hgrow
  · refine wpList_append_arg w hg s x t hop e i z 1 bytes h1 h2 h3 h4 h5 h6 (by omega) g 0 xs.length cap xs hs (by simp) (fun j y hj => by rw [Nat.zero_add]; exact hcell j y hj) ad 1 c [u] hx rfl hnew (by simpa using h1c) ?_ b1 b2 ?_ ?_
    · intro hr j hj
      have : j = 0 := by simp at hj; omega
      subst this
      have := hspare xs.length (by omega)
      simpa using this
    · intro hr
      have hs2 := hspare xs.length (by omega)
      have hw : w.setCells g (0 + xs.length * 1) [u] = w.setCell ⟨g, xs.length, none⟩ u := by simp [World.setCells]
      rw [hw]
      have hlen : (xs ++ [u]).length = xs.length + 1 := by simp
      refine hK _ _ (.inr ⟨g, cap, by rw [hlen], hb, by rw [size_setCell_eq]; exact hlt, by rw [hlen]; exact hr, ?_, ?_⟩) ((Below.refl _ _).setCell hb u)
      · intro j y hj
        rw [cell_set_if]
        by_cases hjx : xs.length = j
        · subst hjx
          rw [if_pos ⟨rfl, rfl⟩]
          simp at hj
          obtain ⟨y0, hy0⟩ := Option.isSome_iff_exists.1 hs2.1
          rw [hy0, hj]; rfl
        · rw [if_neg (fun h => hjx h.2)]
          rw [List.getElem?_append] at hj
          split at hj
          · exact hcell j y hj
          · rename_i h
            have : j - xs.length ≥ 1 := by omega
            rw [List.getElem?_eq_none (by simpa using this)] at hj
            cases hj
      · intro j hj2
        have hs3 := hspare j hj2
        rw [World.frozen?_setCell, cell_set_if]
        refine ⟨?_, hs3.2⟩
        split
        · obtain ⟨y0, hy0⟩ := Option.isSome_iff_exists.1 hs3.1
          rw [hy0]; rfl
        · exact hs3.1
    · intro _ v' w' ho hgr
      exact hgrow v' w' ho hgr
end Go.Proofs.YtjpegcaooamhfaaDoor
