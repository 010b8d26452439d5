/- Lists of values that a call puts together. -/
import Derived.Test.YtemlijadhdejeaaGreatDoorMFmWB
import Derived.Laws.OwnMore
import Derived.Laws.AppendOwnNone
namespace Go.Proofs.YtemlijadhdejeaaGreatDoor
open Go.RowKit Go.Instr
set_option linter.unusedVariables false

theorem aval_info : (Tryz.prog.info? 42).map (fun i => (i.zero, i.size, i.bytes)) = some (some (vV 0 0 0 ⟨#[]⟩ 0), 5, 48) := by kernel_rfl
/-- Values as cells. -/
def vC (v : VV) : List Value := [.int .i64 v.k, .int .i64 v.p, .int .i64 v.q, .string v.s, .int .i64 v.r]
def valsC (l : List VV) : List Value := l.flatMap vC
theorem valsC_app (l m : List VV) : valsC (l ++ m) = valsC l ++ valsC m := by unfold valsC; simp
theorem valsC_len : ∀ l : List VV, (valsC l).length = l.length * 5
  | [] => rfl
  | v :: l => by
    show (vC v ++ valsC l).length = _
    rw [List.length_append, valsC_len l]
    simp [vC]; omega
theorem valsC_get : ∀ (l : List VV) (i : Nat) (h : i < l.length) (j : Nat), j < 5 → (valsC l)[i * 5 + j]? = (vC l[i])[j]?
  | [], i, h, _, _ => by cases h
  | x :: l, 0, _, j, hj => by
    show (vC x ++ valsC l)[0 * 5 + j]? = _
    rw [Nat.zero_mul, Nat.zero_add, List.getElem?_append_left (by simpa [vC] using hj)]; rfl
  | x :: l, i + 1, h, j, hj => by
    show (vC x ++ valsC l)[(i + 1) * 5 + j]? = _
    rw [List.getElem?_append_right (by simp [vC]; omega), show (i + 1) * 5 + j - (vC x).length = i * 5 + j by simp [vC]; omega]
    exact valsC_get l i (by simpa using h) j hj
theorem valsC_one (l : List VV) : ∀ u ∈ valsC l, u.oneCell' = true := by
  intro u hu
  unfold valsC at hu
  obtain ⟨v, -, h⟩ := List.mem_flatMap.1 hu
  unfold vC at h
  simp at h
  rcases h with rfl | rfl | rfl | rfl | rfl <;> rfl
theorem vC_at {w : World} {b o : Nat} {v : VV} (h : VAt w b o v) (j : Nat) (hj : j < 5) : w.cell? ⟨b, o + j, none⟩ = (vC v)[j]? := by
  obtain ⟨h0, h1, h2, h3, h4⟩ := h
  have : j = 0 ∨ j = 1 ∨ j = 2 ∨ j = 3 ∨ j = 4 := by omega
  rcases this with rfl | rfl | rfl | rfl | rfl
  · exact h0
  · exact h1
  · exact h2
  · exact h3
  · exact h4
/-- The values at an address, cell by cell. -/
theorem vals_news {w : World} {b o : Nat} {l : List VV} (h : VsAt w (some ⟨b, o, none⟩) l) : ∀ (j : Nat) u, (valsC l)[j]? = some u → w.cell? ((⟨b, o, none⟩ : Addr).add j) = some u := by
  intro j u hj
  have hlt : j < (valsC l).length := (List.getElem?_eq_some_iff.1 hj).1
  rw [valsC_len] at hlt
  have hadd : (⟨b, o, none⟩ : Addr).add j = ⟨b, o + j, none⟩ := by unfold Addr.add; split <;> simp_all
  rw [hadd]
  rcases h with h | ⟨b2, o2, h1, h2⟩
  · omega
  · injection h1 with h1
    injection h1 with hb ho
    subst hb ho
    have hi : j / 5 < l.length := by omega
    have := vC_at (h2 (j / 5) hi) (j % 5) (by omega)
    rw [show o + j / 5 * 5 + j % 5 = o + j by omega] at this
    rw [this, ← hj, ← valsC_get l (j / 5) hi (j % 5) (by omega), show j / 5 * 5 + j % 5 = j by omega]
/-- A row of values of the call's own. -/
theorem own_vals {w : World} {base : Nat} {e : TypeId} {v : Value} {l : List VV} (h : w.ownsRow base e 5 v l.length (valsC l)) : ∃ a cap, v = .slice a l.length cap ∧ VsAt w a l := by
  rcases Nat.eq_zero_or_pos l.length with h0 | h0
  · rcases h.2 with ⟨hv, hn⟩ | ⟨g, cap, cur, hv, _⟩
    · exact ⟨none, 0, by rw [hv, hn], .inl h0⟩
    · exact ⟨_, cap, hv, .inl h0⟩
  · obtain ⟨g, cap, hv, hb, hg, hc, hcell⟩ := own_cell h h0
    refine ⟨_, cap, hv, .inr ⟨g, 0, rfl, fun i hi => ?_⟩⟩
    have hl := valsC_len l
    have c : ∀ j, j < 5 → w.cell? ⟨g, 0 + i * 5 + j, none⟩ = (vC l[i])[j]? := fun j hj => by
      rw [hcell _ (by omega), show 0 + i * 5 + j = i * 5 + j by omega, valsC_get l i hi j hj]
    exact ⟨c 0 (by omega), c 1 (by omega), c 2 (by omega), c 3 (by omega), c 4 (by omega)⟩
theorem VsAt.take {w : World} {a : Option Addr} {l : List VV} (h : VsAt w a l) (k : Nat) : VsAt w a (l.take k) := by
  rcases h with h | ⟨b, o, h1, h2⟩
  · exact .inl (by rw [List.length_take]; omega)
  · refine .inr ⟨b, o, h1, fun i hi => ?_⟩
    rw [List.getElem_take]
    exact h2 i (by rw [List.length_take] at hi; omega)
/-- A slice literal without elements. -/
theorem own_lit0 (w : World) (base : Nat) (e : TypeId) (h : base ≤ w.heap.size) (g : Nat) (hg : w.heap.size = g) : (w.alloc (.cells #[] e)).ownsRow base e 5 (.slice (some ⟨g, 0, none⟩) 0 0) 0 (valsC []) := by
  subst hg
  exact ⟨rfl, .inr ⟨w.heap.size, 0, #[], rfl, h, heap_alloc_new w _, Nat.le_refl _, by unfold maxLen; omega, rfl, rfl⟩⟩
/-- A row of values that a call puts together; what lay below base in W0 lies as it lay. -/
def AV (W0 : World) (base : Nat) (v : Value) (l : List VV) (w : World) : Prop := w.ownsRow base 42 5 v l.length (valsC l) ∧ Below base W0 w ∧ base ≤ w.heap.size
theorem AV.lit (w : World) (g : Nat) (hg : w.heap.size = g) : AV w w.heap.size (.slice (some ⟨g, 0, none⟩) 0 0) [] (w.alloc (.cells #[] 42)) :=
  ⟨own_lit0 w _ _ (Nat.le_refl _) g hg, (Below.refl _ _).alloc (Nat.le_refl _) _, by simp⟩
/-- 'append(v, m...)', m anywhere, nil or not. -/
theorem wp_vals {w : World} {ops : Array Oper} {rest : List Oper} {o : Oper} {a : Act} {Q : Exit → Act → World → Prop}
    (hg : o.guard = none) (s x : Operand) (hop : o.op = Op.call { callee := Callee.builtin Builtin.append, args := #[s, x], argTypes := #[34, 34] })
    (W0 : World) (base : Nat) (v : Value) (l : List VV) (hb : AV W0 base v l w) (hs : a.eval s = v) (A : Option Addr) (n C : Nat) (m : List VV) (hx : a.eval x = .slice A n C) (hn : m.length = n) (hC : A = none → C = 0) (hA : VsAt w A m)
    (hl : l.length + m.length ≤ 1000000) (hK : ∀ v' w', AV W0 base v' (l ++ m) w' → wpList Tryz.prog ops Q rest (a.put o.dst v') w') : wpList Tryz.prog ops Q (o :: rest) a w := by
  obtain ⟨i0, hi0, hz0, hz1, hz2⟩ := info_parts aval_info
  subst hn
  have own : ∀ (ad : Addr), a.eval x = .slice (some ad) m.length C → (∀ (j : Nat) u, (valsC m)[j]? = some u → w.cell? (ad.add j) = some u) → wpList Tryz.prog ops Q (o :: rest) a w := by
    intro ad hx2 hnews
    refine wpList_append_own _ hg s x _ hop base 42 i0 _ 5 48 Tryz.underlying34 hi0 hz0 hz1 hz2 rfl (by omega) v l.length (valsC l) hs hb.1 ad m.length C (valsC m) hx2 (valsC_len m) hnews (valsC_one m) (by unfold maxLen; omega) (by omega) hb.2.2 ?_
    intro v' w' ho hgr _
    refine hK v' w' ⟨by rw [List.length_append, valsC_app]; exact ho, hb.2.1.grown hgr hb.2.2 (fun k hk => (hb.1.lt k hk).1), Nat.le_trans hb.2.2 hgr.size⟩
  cases A with
  | none =>
    have hm : m = [] := by
      rcases hA with h | ⟨b, o2, h, -⟩
      · exact List.eq_nil_of_length_eq_zero h
      · cases h
    subst hm
    obtain rfl := hC rfl
    refine wpList_append_own_none hg s x _ hop base 42 i0 5 Tryz.underlying34 hi0 v l.length (valsC l) hs hb.1 hx ?_
    have := hK v w (by rw [List.append_nil]; exact hb)
    exact this
  | some ad =>
    rcases hA with h | ⟨b, o2, h1, h2⟩
    · have hm : m = [] := List.eq_nil_of_length_eq_zero h
      subst hm
      exact own ad hx (fun j u hj => by simp [valsC] at hj)
    · have hv := vals_news (w := w) (b := b) (o := o2) (l := m) (.inr ⟨b, o2, rfl, h2⟩)
      injection h1 with h1
      subst h1
      exact own _ hx hv
theorem AV.vals {W0 w : World} {base : Nat} {v : Value} {l : List VV} (h : AV W0 base v l w) : ∃ a cap, v = .slice a l.length cap ∧ VsAt w a l := own_vals h.1
end Go.Proofs.YtemlijadhdejeaaGreatDoor
