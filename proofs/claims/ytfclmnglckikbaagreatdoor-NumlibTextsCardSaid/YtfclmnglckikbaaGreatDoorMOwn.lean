/- A slice of one-cell elements that the call itself appends to: one law for 'append(v, x)', one for what it reads as in the end. No program. -/
import Derived.Test.YtfclmnglckikbaaGreatDoorMMem
import Derived.ArgAppend
import Derived.Lib.LazyBuf
namespace Go.Proofs.YtfclmnglckikbaaGreatDoor
open Go.RowKit
set_option linter.unusedVariables false

/-- The slice v holds just the cells xs, in a block from base on; what spare cells it has may be written. -/
def Own (w : World) (base : Nat) (v : Value) (xs : List Value) : Prop :=
  (v = .slice none 0 0 ∧ xs = []) ∨ ∃ g cap, v = .slice (some ⟨g, 0, none⟩) xs.length cap ∧ base ≤ g ∧ g < w.heap.size ∧ xs.length ≤ cap ∧
    (∀ (j : Nat) u, xs[j]? = some u → w.cell? ⟨g, j, none⟩ = some u) ∧ (∀ j, xs.length ≤ j → j < cap → (w.cell? ⟨g, j, none⟩).isSome = true ∧ w.frozen? ⟨g, j, none⟩ = false)

theorem Own.nil (w : World) (base : Nat) : Own w base (.slice none 0 0) [] := .inl ⟨rfl, rfl⟩
theorem Own.empty (w : World) (base g : Nat) (h : base ≤ g) (h2 : g < w.heap.size) : Own w base (.slice (some ⟨g, 0, none⟩) 0 0) [] :=
  .inr ⟨g, 0, rfl, h, h2, Nat.le_refl _, fun j u h => by simp at h, fun j _ h => by omega⟩

theorem Own.of_row {w : World} {base : Nat} {e : TypeId} {v : Value} {n : Nat} {xs : List Value} (h : w.ownsRow base e 1 v n xs) : Own w base v xs := by
  have hn : xs.length = n := by simpa using h.1
  rcases h.2 with ⟨h1, h2⟩ | ⟨g, cap, cur, hv, hb, hg, hnc, _, hs, ht⟩
  · left
    subst h2
    exact ⟨h1, List.eq_nil_of_length_eq_zero hn⟩
  · right
    have hlt : g < w.heap.size := (Array.getElem?_eq_some_iff.1 hg).1
    refine ⟨g, cap, by rw [hv, hn], hb, hlt, by omega, ?_, ?_⟩
    · intro j u hj
      rw [cell_of_row w g j cur e (0, 0) hg]
      rw [← ht, List.getElem?_take] at hj
      split at hj
      · simpa using hj
      · cases hj
    · intro j _ hj
      constructor
      · rw [cell_of_row w g j cur e (0, 0) hg, Array.getElem?_eq_getElem (by omega)]; rfl
      · simp [World.frozen?, hg]

/-- What stays: every step that leaves the blocks from base on as they are, and every step that touches blocks below base alone. -/
theorem Own.keep {w w' : World} {base : Nat} {v : Value} {xs : List Value} (h : Own w base v xs) (hs : w.heap.size ≤ w'.heap.size) (hk : ∀ g, base ≤ g → g < w.heap.size → w'.heap[g]? = w.heap[g]?) : Own w' base v xs := by
  rcases h with h | ⟨g, cap, hv, hb, hlt, hnc, hc, hf⟩
  · exact .inl h
  · right
    have hg := hk g hb hlt
    have hcell : ∀ j, w'.cell? ⟨g, j, none⟩ = w.cell? ⟨g, j, none⟩ := fun j => World.cell?_of_block hg
    have hfro : ∀ j, w'.frozen? ⟨g, j, none⟩ = w.frozen? ⟨g, j, none⟩ := fun j => World.frozen?_of_block hg
    refine ⟨g, cap, hv, hb, by omega, hnc, fun j u hj => by rw [hcell]; exact hc j u hj, fun j h1 h2 => ?_⟩
    rw [hcell, hfro]; exact hf j h1 h2
theorem Own.below {w w' : World} {base : Nat} {v : Value} {xs : List Value} (h : Own w base v xs) (hb : Below w.heap.size w w') : Own w' base v xs :=
  h.keep hb.size fun g _ hg => hb.block g hg
theorem Own.alloc {w : World} {base : Nat} {v : Value} {xs : List Value} (h : Own w base v xs) (o : Obj) : Own (w.alloc o) base v xs := h.below ((Below.refl _ _).alloc (Nat.le_refl _) o)
theorem Own.drew {w : World} {base : Nat} {v : Value} {xs : List Value} (h : Own w base v xs) : Own w.drew base v xs := h.below (Below.refl _ _).drew
theorem Own.drewN {w : World} {base : Nat} {v : Value} {xs : List Value} (h : Own w base v xs) (n : Nat) : Own (w.drewN n) base v xs := h.below (below_drewN (Below.refl _ _) n)
theorem Own.setCell {w : World} {base : Nat} {v : Value} {xs : List Value} (h : Own w base v xs) (p : Addr) (hp : p.block < base) (u : Value) : Own (w.setCell p u) base v xs :=
  h.keep (by simp [World.setCell]) fun g hb _ => Below.heap_setCell _ _ _ _ (by omega)

theorem size_setCell_eq (w : World) (a : Addr) (v : Value) : (w.setCell a v).heap.size = w.heap.size := by simp [World.setCell]

theorem wp_push {P : Program} {w : World} {ops : Array Oper} {rest : List Oper} {o : Oper} {a : Act} {Q : Exit → Act → World → Prop}
    (hg : o.guard = none) (s x : Operand) (t : TypeId) (hop : o.op = Op.call { callee := Callee.builtin Builtin.append, args := #[s, x], argTypes := #[t, t] })
    (e : TypeId) (i : TypeInfo) (z : Value) (bytes : Nat) (h1 : P.underlying t = some (.slice e)) (h2 : P.info? e = some i) (h3 : i.zero = some z) (h4 : i.size = 1) (h5 : i.bytes = bytes) (h6 : z.cells.size = 1)
    (base : Nat) (v : Value) (xs : List Value) (hown : Own w base v xs) (hs : a.eval s = v) (ad : Addr) (c : Nat) (u : Value) (hx : a.eval x = .slice (some ad) 1 c) (hc : w.cell? ad = some u) (h1c : u.oneCell' = true)
    (hbase : base ≤ w.heap.size) (b1 : xs.length + 1 ≤ maxLen) (b2 : (xs.length + 1) * bytes ≤ 140737488355328)
    (hK : ∀ v' w', Own w' base v' (xs ++ [u]) → Below base w w' → wpList P ops Q rest (a.put o.dst v') w') : wpList P ops Q (o :: rest) a w := by
  have hnew : ∀ (j : Nat) y, [u][j]? = some y → w.cell? (ad.add j) = some y := by
    intro j y hj
    cases j with
    | zero => simp at hj; subst hj; simpa [Addr.add] using hc
    | succ j => simp at hj
  have hgrow : ∀ v' w', w'.ownsRow w.heap.size e 1 v' (xs.length + 1) (xs ++ [u]) → w.grownBy w' none → wpList P ops Q rest (a.put o.dst v') w' := by
    intro v' w' ho hgr
    refine hK v' w' ?_ (((Below.refl w.heap.size w).grown hgr (Nat.le_refl _) (fun k h => by cases h)).mono hbase)
    rcases Own.of_row ho with h | ⟨g, cap, h1, h2, h3, h4, h5, h6⟩
    · exact .inl h
    · exact .inr ⟨g, cap, h1, by omega, h3, h4, h5, h6⟩
  rcases hown with ⟨rfl, rfl⟩ | ⟨g, cap, rfl, hb, hlt, hnc, hcell, hspare⟩
  · refine wpList_append_grows w hg s x t hop e i z 1 bytes h1 h2 h3 h4 h5 h6 (by omega) none 0 0 [] hs (fun _ => ⟨rfl, rfl⟩) rfl (fun b h => by cases h) ad 1 c [u] hx rfl hnew (by simpa using h1c) (by omega) b1 b2 ?_
    exact hgrow
  · refine wpList_append_arg w hg s x t hop e i z 1 bytes h1 h2 h3 h4 h5 h6 (by omega) g 0 xs.length cap xs hs (by simp) (fun j y hj => by rw [Nat.zero_add]; exact hcell j y hj) ad 1 c [u] hx rfl hnew (by simpa using h1c) ?_ b1 b2 ?_ ?_
    · intro hr j hj
      have : j = 0 := by simp at hj; omega
      subst this
      have := hspare xs.length (Nat.le_refl _) (by omega)
      simpa using this
    · intro hr
      have hs2 := hspare xs.length (Nat.le_refl _) (by omega)
      have hw : w.setCells g (0 + xs.length * 1) [u] = w.setCell ⟨g, xs.length, none⟩ u := by simp [World.setCells]
      rw [hw]
      have hlen : (xs ++ [u]).length = xs.length + 1 := by simp
      refine hK _ _ (.inr ⟨g, cap, by rw [hlen], hb, by rw [size_setCell_eq]; exact hlt, by rw [hlen]; exact hr, ?_, ?_⟩) ((Below.refl _ _).setCell hb u)
      · intro j y hj
        rw [cell_set_if]
        by_cases hjx : xs.length = j
        · subst hjx
          rw [if_pos ⟨rfl, rfl⟩]
          simp at hj
          obtain ⟨y0, hy0⟩ := Option.isSome_iff_exists.1 hs2.1
          rw [hy0, hj]; rfl
        · rw [if_neg (fun h => hjx h.2)]
          rw [List.getElem?_append] at hj
          split at hj
          · exact hcell j y hj
          · rename_i h
            have : j - xs.length ≥ 1 := by omega
            rw [List.getElem?_eq_none (by simpa using this)] at hj
            cases hj
      · intro j hj1 hj2
        rw [hlen] at hj1
        have hs3 := hspare j (by omega) hj2
        rw [cell_set_if, if_neg (by omega)]
        refine ⟨hs3.1, ?_⟩
        rw [World.frozen?_setCell]
        exact hs3.2
    · intro _ v' w' ho hgr
      exact hgrow v' w' ho hgr

/-- '[]byte(s)': the bytes of a string. -/
theorem own_of_string (w : World) (s : ByteArray) (e : TypeId) (base C k m : Nat) (hC : s.size ≤ C) (hk : k = C) (hb : base ≤ w.heap.size) :
    Own (w.drew.alloc (.cells (bytesRow s C) e (k, m))) base (.slice (some ⟨w.heap.size, 0, none⟩) s.size C) (s.data.toList.map fun b => Value.int .u8 b.toNat) := by
  subst hk
  have hsz : (bytesRow s k).size = k := by simp [bytesRow]; omega
  have hln : (s.data.toList.map fun b => Value.int .u8 b.toNat).length = s.size := by simp
  refine .inr ⟨w.heap.size, k, by rw [hln], hb, by simp, by rw [hln]; exact hC, ?_, ?_⟩
  · intro j u hj
    have := World.cell?_alloc_mark w.drew (bytesRow s k) e (k, m) j
    rw [show w.drew.heap.size = w.heap.size from rfl] at this
    rw [this]
    unfold bytesRow
    rw [Array.getElem?_append_left (by simpa using (List.getElem?_eq_some_iff.1 hj).1)]
    simpa using hj
  · intro j h1 h2
    have := World.cell?_alloc_mark w.drew (bytesRow s k) e (k, m) j
    rw [show w.drew.heap.size = w.heap.size from rfl] at this
    rw [this]
    refine ⟨by rw [Array.getElem?_eq_getElem (by omega)]; rfl, ?_⟩
    have hh : (w.drew.alloc (.cells (bytesRow s k) e (k, m))).heap[w.heap.size]? = some (.cells (bytesRow s k) e (k, m)) := by
      show (w.heap.push _)[w.heap.size]? = _
      simp
    simp only [World.frozen?, hh]
    simp
    omega

theorem own_bytes (w : World) (s : ByteArray) (e : TypeId) (base : Nat) (hb : base ≤ w.heap.size) :
    Own (w.drew.alloc (.cells (bytesRow s (grownCap w s.size 0 e)) e ((bytesRow s (grownCap w s.size 0 e)).size, (bytesRow s (grownCap w s.size 0 e)).size + 1))) base (.slice (some ⟨w.heap.size, 0, none⟩) s.size (grownCap w s.size 0 e)) (s.data.toList.map fun b => Value.int .u8 b.toNat) := by
  have hg := grownCap_ge w s.size 0 e
  have hsz : (bytesRow s (grownCap w s.size 0 e)).size = grownCap w s.size 0 e := by simp [bytesRow]; omega
  exact own_of_string w s e base _ _ _ hg hsz hb

/-- 'string(v)'. -/
theorem Own.str {P : Program} {w : World} {base : Nat} {v : Value} {L : List UInt8} (h : Own w base v (L.map fun b => Value.int .u8 b.toNat)) (hne : L ≠ []) (src dst e : TypeId)
    (hs : P.underlying src = some (.slice e)) (he : P.underlying e = some (.int .u8)) (hd : P.underlying dst = some .string) : (convert src dst v).run P w = .ok (.string ⟨L.toArray⟩) w := by
  rcases h with ⟨_, h⟩ | ⟨g, cap, rfl, _, _, _, hc, _⟩
  · exact absurd (by simpa using h) hne
  · rw [List.length_map]
    refine run_convert_bytes_back (P := P) w src dst e ⟨g, 0, none⟩ cap L hs he hd ?_
    intro j hj
    rw [show (⟨g, 0, none⟩ : Addr).add j = ⟨g, j, none⟩ by unfold Addr.add; split <;> simp_all]
    exact hc j _ (by rw [List.getElem?_map, List.getElem?_eq_getElem hj]; rfl)
theorem own_eq {w : World} {base : Nat} {v : Value} {xs ys : List Value} (h : Own w base v xs) (e : xs = ys) : Own w base v ys := by rw [← e]; exact h
theorem cell_new1 (w : World) (x : Value) (t : TypeId) : (w.alloc (.cells #[x] t)).cell? ⟨w.heap.size, 0, none⟩ = some x := World.cell?_alloc_at #[x] t _ 0 rfl
end Go.Proofs.YtfclmnglckikbaaGreatDoor
