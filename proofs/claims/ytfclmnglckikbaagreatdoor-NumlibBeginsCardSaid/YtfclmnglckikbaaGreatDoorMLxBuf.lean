/- A row of one-cell elements that the call itself makes and appends to: one form for every append. No program. -/
import Derived.Test.YtfclmnglckikbaaGreatDoorMStr
import Derived.Test.YtfclmnglckikbaaGreatDoorMOwn
import Derived.Lib.AppendStr
import Derived.Laws.BytesArg
namespace Go.Proofs.YtfclmnglckikbaaGreatDoor
open Go.RowKit
set_option linter.unusedVariables false

/-- The bytes of a list as cells. -/
def u8s (l : List UInt8) : List Value := l.map fun b => Value.int .u8 b.toNat
theorem u8s_len (l : List UInt8) : (u8s l).length = l.length := by unfold u8s; simp
theorem u8s_app (l m : List UInt8) : u8s (l ++ m) = u8s l ++ u8s m := by unfold u8s; simp
theorem u8s_str (s : ByteArray) : Lib.strCells s = u8s s.data.toList := rfl
/-- The slice v owns just the cells xs, in a block from base on; what lay below base in w0 lies as it lay. -/
def Buf (w0 : World) (base : Nat) (e : TypeId) (v : Value) (xs : List Value) (w : World) : Prop := w.ownsRow base e 1 v xs.length xs ∧ Below base w0 w ∧ base ≤ w.heap.size
theorem Buf.alloc {w0 w : World} {base : Nat} {e : TypeId} {v : Value} {xs : List Value} (h : Buf w0 base e v xs w) (o : Obj) : Buf w0 base e v xs (w.alloc o) :=
  ⟨h.1.alloc o, h.2.1.alloc h.2.2 o, by simp; have := h.2.2; omega⟩
theorem ownsRow_later {w w' : World} {base : Nat} {e : TypeId} {size : Nat} {v : Value} {n : Nat} {xs : List Value} (h : w.ownsRow base e size v n xs) (hb : Below w.heap.size w w') : w'.ownsRow base e size v n xs := by
  obtain ⟨h1, h2 | ⟨g, cap, cur, hv, hg, hh, rest⟩⟩ := h
  · exact ⟨h1, .inl h2⟩
  · exact ⟨h1, .inr ⟨g, cap, cur, hv, hg, (hb.block g (Array.getElem?_eq_some_iff.1 hh).1).trans hh, rest⟩⟩
theorem Buf.later {w0 w w' : World} {base : Nat} {e : TypeId} {v : Value} {xs : List Value} (h : Buf w0 base e v xs w) (hb : Below w.heap.size w w') : Buf w0 base e v xs w' :=
  ⟨ownsRow_later h.1 hb, h.2.1.trans (hb.mono h.2.2), Nat.le_trans h.2.2 hb.size⟩
theorem Buf.nil (w0 w : World) (base : Nat) (e : TypeId) (hb : Below base w0 w) (h : base ≤ w.heap.size) : Buf w0 base e (.slice none 0 0) [] w := ⟨World.ownsRow_nil _ _ _ _, hb, h⟩
theorem Buf.eq {w0 w : World} {base : Nat} {e : TypeId} {v : Value} {xs ys : List Value} (h : Buf w0 base e v xs w) (he : xs = ys) : Buf w0 base e v ys w := by rw [← he]; exact h
/-- A slice literal: its block is new. -/
theorem Buf.lit (w0 w : World) (base : Nat) (e : TypeId) (xs : List Value) (hb : Below base w0 w) (h : base ≤ w.heap.size) (hm : xs.length ≤ maxLen) : Buf w0 base e (.slice (some ⟨w.heap.size, 0, none⟩) xs.length xs.length) xs (w.alloc (.cells xs.toArray e)) :=
  ⟨⟨by simp, .inr ⟨w.heap.size, xs.length, xs.toArray, rfl, h, heap_alloc_new w _, Nat.le_refl _, hm, by simp, by simp⟩⟩, hb.alloc h _, by simp; omega⟩
theorem Buf.form {w0 w : World} {base : Nat} {e : TypeId} {v : Value} {xs : List Value} (h : Buf w0 base e v xs w) : ∃ a cap, v = .slice a xs.length cap := by
  obtain ⟨⟨h1, h2 | ⟨g, cap, cur, hv, -⟩⟩, -⟩ := h
  · exact ⟨none, 0, by rw [h2.1, h2.2]⟩
  · exact ⟨_, cap, hv⟩
theorem own_cell {w : World} {base : Nat} {e : TypeId} {size : Nat} {v : Value} {n : Nat} {xs : List Value} (h : w.ownsRow base e size v n xs) (hn : 0 < n) :
    ∃ g cap, v = .slice (some ⟨g, 0, none⟩) n cap ∧ base ≤ g ∧ g < w.heap.size ∧ n ≤ cap ∧ ∀ i, i < xs.length → w.cell? ⟨g, i, none⟩ = xs[i]? := by
  obtain ⟨h1, h2 | ⟨g, cap, cur, hv, hg, hh, hnc, hcm, hs, ht⟩⟩ := h
  · omega
  · refine ⟨g, cap, hv, hg, (Array.getElem?_eq_some_iff.1 hh).1, hnc, fun i hi => ?_⟩
    rw [cell_of_row w g i cur e (0, 0) hh, ← ht, List.getElem?_take]
    rw [← ht, List.length_take] at hi
    rw [if_pos (by omega)]
    simp
/-- A block of new cells, read cell by cell. -/
theorem cells_new (w : World) (xs : List Value) (t : TypeId) : ∀ (j : Nat) u, xs[j]? = some u → (w.alloc (.cells xs.toArray t)).cell? ((⟨w.heap.size, 0, none⟩ : Addr).add j) = some u := by
  intro j u hj
  rw [show (⟨w.heap.size, 0, none⟩ : Addr).add j = ⟨w.heap.size, j, none⟩ by unfold Addr.add; split <;> simp_all]
  refine (World.cell?_alloc_at xs.toArray t _ j ?_).trans ?_ <;> simp_all
theorem cells_at (w : World) (g : Nat) (xs : List Value) (t : TypeId) (hg : w.heap.size = g) : ∀ (j : Nat) u, xs[j]? = some u → (w.alloc (.cells xs.toArray t)).cell? ((⟨g, 0, none⟩ : Addr).add j) = some u := by
  subst hg; exact cells_new w xs t
/-- 'append(v, x, y ..)'. -/
theorem wp_buf {P : Program} {w : World} {ops : Array Oper} {rest : List Oper} {o : Oper} {a : Act} {Q : Exit → Act → World → Prop}
    (hg : o.guard = none) (s x : Operand) (t : TypeId) (hop : o.op = Op.call { callee := Callee.builtin Builtin.append, args := #[s, x], argTypes := #[t, t] })
    (e : TypeId) (i : TypeInfo) (z : Value) (bytes : Nat) (h1 : P.underlying t = some (.slice e)) (h2 : P.info? e = some i) (h3 : i.zero = some z) (h4 : i.size = 1) (h5 : i.bytes = bytes) (h6 : z.cells.size = 1)
    (w0 : World) (base : Nat) (v : Value) (xs : List Value) (hb : Buf w0 base e v xs w) (hs : a.eval s = v) (ad : Addr) (news : List Value) (hx : ∃ c, a.eval x = .slice (some ad) news.length c)
    (hc : ∀ (j : Nat) u, news[j]? = some u → w.cell? (ad.add j) = some u) (h1c : ∀ u ∈ news, u.oneCell' = true) (b1 : xs.length + news.length ≤ maxLen) (b2 : (xs.length + news.length) * bytes ≤ 140737488355328)
    (hK : ∀ v' w', Buf w0 base e v' (xs ++ news) w' → wpList P ops Q rest (a.put o.dst v') w') : wpList P ops Q (o :: rest) a w := by
  obtain ⟨c, hx⟩ := hx
  refine wpList_append_own w hg s x t hop base e i z 1 bytes h1 h2 h3 h4 h5 h6 (by omega) v xs.length xs hs hb.1 ad news.length c news hx (by simp) hc h1c b1 b2 hb.2.2 ?_
  intro v' w' ho hgr _
  refine hK v' w' ⟨by rw [List.length_append]; exact ho, hb.2.1.grown hgr hb.2.2 (fun k hk => ?_), Nat.le_trans hb.2.2 hgr.size⟩
  obtain ⟨-, h2 | ⟨g, cap, cur, hv, hg, -⟩⟩ := hb.1
  · rw [h2.1] at hk; cases hk
  · rw [hv] at hk; cases hk; exact hg
/-- 'append(v, x, y ..)', the block of x, y .. being just made. -/
theorem wp_lit {P : Program} {W : World} {news : List Value} {T : TypeId} {ops : Array Oper} {rest : List Oper} {o : Oper} {a : Act} {Q : Exit → Act → World → Prop}
    (hg : o.guard = none) (s x : Operand) (t : TypeId) (hop : o.op = Op.call { callee := Callee.builtin Builtin.append, args := #[s, x], argTypes := #[t, t] })
    (e : TypeId) (i : TypeInfo) (z : Value) (bytes : Nat) (h1 : P.underlying t = some (.slice e)) (h2 : P.info? e = some i) (h3 : i.zero = some z) (h4 : i.size = 1) (h5 : i.bytes = bytes) (h6 : z.cells.size = 1)
    (w0 : World) (base : Nat) (v : Value) (xs : List Value) (hb : Buf w0 base e v xs W) (hs : a.eval s = v) (hx : ∃ g c, a.eval x = .slice (some ⟨g, 0, none⟩) news.length c ∧ W.heap.size = g)
    (h1c : ∀ u ∈ news, u.oneCell' = true) (b1 : xs.length + news.length ≤ maxLen) (b2 : (xs.length + news.length) * bytes ≤ 140737488355328)
    (hK : ∀ v' w', Buf w0 base e v' (xs ++ news) w' → wpList P ops Q rest (a.put o.dst v') w') : wpList P ops Q (o :: rest) a (W.alloc (.cells news.toArray T)) := by
  obtain ⟨g, c, hx, hgs⟩ := hx
  exact wp_buf hg s x t hop e i z bytes h1 h2 h3 h4 h5 h6 w0 base v xs (hb.alloc _) hs ⟨g, 0, none⟩ news ⟨c, hx⟩ (cells_at W g news T hgs) h1c b1 b2 hK
/-- 'append(v, s...)', s a string. -/
theorem wp_bufS {P : Program} {w : World} {ops : Array Oper} {rest : List Oper} {o : Oper} {a : Act} {Q : Exit → Act → World → Prop}
    (hg : o.guard = none) (sl x : Operand) (t u : TypeId) (hop : o.op = Op.call { callee := Callee.builtin Builtin.append, args := #[sl, x], argTypes := #[t, u] })
    (e : TypeId) (i : TypeInfo) (h1 : P.underlying t = some (.slice e)) (hu : P.underlying u = some .string) (h2 : P.info? e = some i) (h3 : i.zero = some (.int .u8 0)) (h4 : i.size = 1) (h5 : i.bytes = 1)
    (w0 : World) (base : Nat) (v : Value) (xs : List Value) (hb : Buf w0 base e v xs w) (hs : a.eval sl = v) (s : ByteArray) (hx : a.eval x = .string s) (b1 : xs.length + s.size ≤ maxLen) (b2 : xs.length + s.size ≤ 140737488355328)
    (hK : ∀ v' w', Buf w0 base e v' (xs ++ u8s s.data.toList) w' → (v' = .slice none 0 0 ↔ v = .slice none 0 0 ∧ s.size = 0) → wpList P ops Q rest (a.put o.dst v') w') : wpList P ops Q (o :: rest) a w := by
  refine Lib.wpList_append_own_string w hg sl x t u hop base e i h1 hu h2 h3 h4 h5 v xs.length xs hs hb.1 s hx b1 b2 hb.2.2 ?_
  intro v' w' ho hgr hn
  refine hK v' w' ⟨?_, hb.2.1.grown hgr hb.2.2 (fun k hk => ?_), Nat.le_trans hb.2.2 hgr.size⟩ hn
  · rw [List.length_append, u8s_len, ← u8s_str, show s.data.toList.length = s.size by simp]; exact ho
  · obtain ⟨-, h2 | ⟨g, cap, cur, hv, hg, -⟩⟩ := hb.1
    · rw [h2.1] at hk; cases hk
    · rw [hv] at hk; cases hk; exact hg
/-- 'string(v)'. -/
theorem Buf.str {P : Program} {w0 w : World} {base : Nat} {e : TypeId} {v : Value} {L : List UInt8} (h : Buf w0 base e v (u8s L) w) (hn : L = [] → v = .slice none 0 0) (src dst : TypeId)
    (hs : P.underlying src = some (.slice e)) (he : P.underlying e = some (.int .u8)) (hd : P.underlying dst = some .string) : (convert src dst v).run P w = .ok (.string (mkS L)) w := by
  by_cases hne : L = []
  · rw [hn hne, hne]
    exact run_convert_bytes_nil (w := w) src e hs he 0 0 dst hd
  · exact Own.str (Own.of_row h.1) hne src dst e hs he hd
end Go.Proofs.YtfclmnglckikbaaGreatDoor
