/- Rows of expressions that a call puts together; what a tree shows, without the parent's kind. -/
import Derived.Test.YthkpggpnbdedjaaMTrEach
import Derived.Test.YthkpggpnbdedjaaMTrOpen
import Derived.Laws.OwnMore
import Derived.Laws.AppendOwnNone
import Derived.Test.YthkpggpnbdedjaaMTrChk5
namespace Go.Proofs.Ythkpggpnbdedjaa
open Go.RowKit Go.Instr
set_option linter.unusedVariables false

/-- The expressions that are shown of a part. -/
def exP (n : Nat) (p : TX ⊕ TB) : List TX := (evN false n p 0).map toX
theorem exP_par : ∀ (n : Nat) (x : TX) (par : Int), (evN false n (.inl x) par).map toX = exP n (.inl x)
  | 0, _, _ => rfl
  | _ + 1, _, _ => rfl
theorem exP_x (n : Nat) (x : TX) : exP (n + 1) (.inl x) = x :: (x.args.flatMap (fun y => exP n (.inl y)) ++ x.funcs.flatMap (fun f => exP n (.inr ⟨f.bA, f.bC, f.body⟩))) := by
  show toX (.ex x 0) :: List.map toX _ = _
  rw [List.map_append, List.map_flatMap, List.map_flatMap]
  congr 2
  congr 1
  funext y
  exact exP_par n y x.k
theorem range_flat {α β : Type} (g : α → List β) : ∀ l : List α, (List.range l.length).flatMap (fun i => (l[i]?.map g).getD []) = l.flatMap g
  | [] => rfl
  | x :: l => by
    rw [List.length_cons, List.range_succ_eq_map, List.flatMap_cons, List.flatMap_map, List.flatMap_cons]
    congr 1
    rw [← range_flat g l]
    rfl
theorem exP_b (n : Nat) (y : TB) : exP (n + 1) (.inr y) = y.l.flatMap (fun s => (partsS s).flatMap (exP n)) := by
  rw [← range_flat]
  show List.map toX ((List.range y.l.length).flatMap _) = _
  rw [List.map_flatMap]
  congr 1
  funext i
  rw [if_neg (by simp), List.nil_append]
  cases y.l[i]? with
  | none => rfl
  | some s =>
    show List.map toX ((partsS s).flatMap _) = _
    rw [List.map_flatMap]
    rfl
theorem exsB_exP (y : TB) : exsB y = exP (rkB y + 1) (.inr y) := rfl
theorem flat_succ' {α β : Type} {l : List α} {f : α → List β} {k : Nat} (h : k < l.length) : (l.take (k + 1)).flatMap f = (l.take k).flatMap f ++ f l[k] := by
  rw [List.take_succ_eq_append_getElem h, List.flatMap_append]; simp
theorem flat_le {α β : Type} {l : List α} {f : α → List β} (k : Nat) : ((l.take k).flatMap f).length ≤ (l.flatMap f).length := by
  have e : l.flatMap f = (l.take k).flatMap f ++ (l.drop k).flatMap f := by rw [← List.flatMap_append, List.take_append_drop]
  rw [e, List.length_append]; omega
/-- An if's conditions and blocks so far. -/
theorem zipP_succ : ∀ (r : List TX) (b : List TB) (k : Nat), zipP (r.take (k + 1)) (b.take (k + 1)) = zipP (r.take k) (b.take k) ++ ((r[k]?.map fun x => [Sum.inl x]).getD [] ++ (b[k]?.map fun y => [Sum.inr y]).getD [])
  | [], b, k => by
    have e : ∀ m (c : List TB), zipP (([] : List TX).take m) c = c.map Sum.inr := fun m c => by cases m <;> (cases c <;> rfl)
    rw [e, e, List.take_add_one, List.map_append]
    cases b[k]? <;> rfl
  | x :: r, [], k => by
    have e : ∀ m, zipP ((x :: r).take m) (([] : List TB).take m) = ((x :: r).take m).map Sum.inl := fun m => by cases m <;> rfl
    rw [e, e, List.take_add_one, List.map_append]
    cases (x :: r)[k]? <;> rfl
  | x :: r, y :: b, 0 => rfl
  | x :: r, y :: b, k + 1 => by
    show Sum.inl x :: Sum.inr y :: zipP (r.take (k + 1)) (b.take (k + 1)) = Sum.inl x :: Sum.inr y :: (zipP (r.take k) (b.take k) ++ _)
    rw [zipP_succ r b k]
    rfl
theorem zipP_take (r : List TX) (b : List TB) (k : Nat) (h1 : r.length ≤ k) (h2 : b.length ≤ k) : zipP (r.take k) (b.take k) = zipP r b := by
  rw [List.take_of_length_le h1, List.take_of_length_le h2]
theorem zipP_mono (g : TX ⊕ TB → List TX) (r : List TX) (b : List TB) : ∀ d m, ((zipP (r.take m) (b.take m)).flatMap g).length ≤ ((zipP (r.take (m + d)) (b.take (m + d))).flatMap g).length
  | 0, _ => Nat.le_refl _
  | d + 1, m => by
    refine Nat.le_trans (zipP_mono g r b d m) ?_
    rw [show m + (d + 1) = (m + d) + 1 by omega, zipP_succ, List.flatMap_append, List.length_append]
    omega
theorem zipP_le (g : TX ⊕ TB → List TX) (m : Nat) (r : List TX) (b : List TB) : ((zipP (r.take m) (b.take m)).flatMap g).length ≤ ((zipP r b).flatMap g).length := by
  have h := zipP_mono g r b (r.length + b.length) m
  rwa [zipP_take r b (m + (r.length + b.length)) (by omega) (by omega)] at h

theorem axpr_info : (Try.prog.info? 35).map (fun i => (i.zero, i.size, i.bytes)) = some (some (.agg #[.int .i64 0, .int .i64 0, .int .i64 0, .int .i64 0, .int .i64 0, .string ⟨#[]⟩, .slice none 0 0, .slice none 0 0]), 8, 104) := by kernel_rfl
def xsC (l : List TX) : List Value := l.flatMap TX.cells
theorem xsC_app (l m : List TX) : xsC (l ++ m) = xsC l ++ xsC m := by unfold xsC; simp
theorem xsC_len : ∀ l : List TX, (xsC l).length = l.length * 8
  | [] => rfl
  | v :: l => by
    show (v.cells ++ xsC l).length = _
    rw [List.length_append, xsC_len l]
    simp [TX.cells]; omega
theorem xsC_get : ∀ (l : List TX) (i : Nat) (h : i < l.length) (j : Nat), j < 8 → (xsC l)[i * 8 + j]? = (l[i].cells)[j]?
  | [], i, h, _, _ => by cases h
  | x :: l, 0, _, j, hj => by
    show (x.cells ++ xsC l)[0 * 8 + j]? = _
    rw [Nat.zero_mul, Nat.zero_add, List.getElem?_append_left (by simpa [TX.cells] using hj)]; rfl
  | x :: l, i + 1, h, j, hj => by
    show (x.cells ++ xsC l)[(i + 1) * 8 + j]? = _
    rw [List.getElem?_append_right (by simp [TX.cells]; omega), show (i + 1) * 8 + j - x.cells.length = i * 8 + j by simp [TX.cells]; omega]
    exact xsC_get l i (by simpa using h) j hj
theorem tx_one (x : TX) : ∀ u ∈ x.cells, u.oneCell' = true := by
  intro u h
  unfold TX.cells at h
  simp at h
  rcases h with rfl | rfl | rfl | rfl | rfl | rfl | rfl | rfl <;> rfl
theorem row_later {w w' : World} {base : Nat} {e : TypeId} {size : Nat} {v : Value} {n : Nat} {xs : List Value} (h : w.ownsRow base e size v n xs) (hb : Below w.heap.size w w') : w'.ownsRow base e size v n xs := by
  obtain ⟨h1, h2 | ⟨g, cap, cur, hv, hg, hh, rest⟩⟩ := h
  · exact ⟨h1, .inl h2⟩
  · exact ⟨h1, .inr ⟨g, cap, cur, hv, hg, (hb.block g (Array.getElem?_eq_some_iff.1 hh).1).trans hh, rest⟩⟩
theorem row_cell {w : World} {base : Nat} {e : TypeId} {size : Nat} {v : Value} {n : Nat} {xs : List Value} (h : w.ownsRow base e size v n xs) (hn : 0 < n) :
    ∃ g cap, v = .slice (some ⟨g, 0, none⟩) n cap ∧ base ≤ g ∧ g < w.heap.size ∧ n ≤ cap ∧ ∀ i, i < xs.length → w.cell? ⟨g, i, none⟩ = xs[i]? := by
  obtain ⟨h1, h2 | ⟨g, cap, cur, hv, hg, hh, hnc, hcm, hs, ht⟩⟩ := h
  · omega
  · refine ⟨g, cap, hv, hg, (Array.getElem?_eq_some_iff.1 hh).1, hnc, fun i hi => ?_⟩
    rw [cell_of_row w g i cur e (0, 0) hh, ← ht, List.getElem?_take]
    rw [← ht, List.length_take] at hi
    rw [if_pos (by omega)]
    simp
/-- A block of new cells, read cell by cell. -/
theorem block_new (w : World) (xs : List Value) (t : TypeId) : ∀ (j : Nat) u, xs[j]? = some u → (w.alloc (.cells xs.toArray t)).cell? ((⟨w.heap.size, 0, none⟩ : Addr).add j) = some u := by
  intro j u hj
  rw [show (⟨w.heap.size, 0, none⟩ : Addr).add j = ⟨w.heap.size, j, none⟩ by unfold Addr.add; split <;> simp_all]
  refine (World.cell?_alloc_at xs.toArray t _ j ?_).trans ?_ <;> simp_all
/-- The slice v owns just these expressions, in a block from base on. -/
def OX (base : Nat) (v : Value) (l : List TX) (w : World) : Prop := w.ownsRow base 35 8 v l.length (xsC l) ∧ base ≤ w.heap.size
/-- What lay below base lies as it lay, and so do all cells that are no expressions. -/
structure KX (base : Nat) (w w' : World) : Prop where
  below : Below base w w'
  new : ∀ (g : Nat) c t f, w.heap[g]? = some (.cells c t f) → t ≠ 35 → w'.heap[g]? = some (.cells c t f)
theorem KX.refl (base : Nat) (w : World) : KX base w w := ⟨Below.refl _ _, fun _ _ _ _ h _ => h⟩
theorem KX.trans {base : Nat} {u v w : World} (h : KX base u v) (k : KX base v w) : KX base u w := ⟨h.below.trans k.below, fun g c t f hc ht => k.new g c t f (h.new g c t f hc ht) ht⟩
theorem kx_of {base : Nat} {w w' : World} (h : Below w.heap.size w w') (hb : base ≤ w.heap.size) : KX base w w' := ⟨h.mono hb, fun g _ _ _ hc _ => (h.block g (Array.getElem?_eq_some_iff.1 hc).1).trans hc⟩
theorem OX.later {base : Nat} {v : Value} {l : List TX} {w w' : World} (h : OX base v l w) (hb : Below w.heap.size w w') : OX base v l w' := ⟨row_later h.1 hb, Nat.le_trans h.2 hb.size⟩
theorem OX.nil (w : World) (base : Nat) (h : base ≤ w.heap.size) : OX base (.slice none 0 0) [] w := ⟨World.ownsRow_nil _ _ _ _, h⟩
/-- The expressions at the slice. -/
theorem OX.at_ {base : Nat} {v : Value} {l : List TX} {w : World} (h : OX base v l w) : ∃ a cap, v = .slice a l.length cap ∧ l.length ≤ cap ∧ ∀ i, (hi : i < l.length) → ∃ b o, a = some ⟨b, o, none⟩ ∧ X8 w b (o + i * 8) l[i] := by
  rcases Nat.eq_zero_or_pos l.length with h0 | h0
  · rcases h.1.2 with ⟨hv, hn⟩ | ⟨g, cap, cur, hv, -, -, hc, -⟩
    · exact ⟨none, 0, by rw [hv, hn], by omega, fun i hi => by omega⟩
    · exact ⟨_, cap, hv, hc, fun i hi => by omega⟩
  · obtain ⟨g, cap, hv, hb, hg, hc, hcell⟩ := row_cell h.1 h0
    refine ⟨_, cap, hv, hc, fun i hi => ⟨g, 0, rfl, ?_⟩⟩
    have hl := xsC_len l
    have c : ∀ j, j < 8 → w.cell? ⟨g, 0 + i * 8 + j, none⟩ = (l[i].cells)[j]? := fun j hj => by
      rw [hcell _ (by omega), show 0 + i * 8 + j = i * 8 + j by omega, xsC_get l i hi j hj]
    exact ⟨c 0 (by omega), c 1 (by omega), c 2 (by omega), c 3 (by omega), c 4 (by omega), c 5 (by omega), c 6 (by omega), c 7 (by omega)⟩
/-- 'append(v, x)', the block of x being just made. -/
theorem wp_xlit {W : World} {y : TX} {T : TypeId} {ops : Array Oper} {rest : List Oper} {o : Oper} {a : Act} {Q : Exit → Act → World → Prop}
    (hg : o.guard = none) (s x : Operand) (hop : o.op = Op.call { callee := Callee.builtin Builtin.append, args := #[s, x], argTypes := #[29, 29] })
    (base : Nat) (v : Value) (l : List TX) (hb : OX base v l W) (hs : a.eval s = v) (hx : ∃ g c, a.eval x = .slice (some ⟨g, 0, none⟩) 1 c ∧ W.heap.size = g) (hl : l.length + 1 ≤ 3000000)
    (hK : ∀ v' w', OX base v' (l ++ [y]) w' → KX base W w' → wpList Try.prog ops Q rest (a.put o.dst v') w') :
    wpList Try.prog ops Q (o :: rest) a (W.alloc (.cells #[.int .i64 y.k, .int .i64 y.op, .int .i64 y.ln, .int .i64 y.p, .int .i64 y.q, .string y.s, .slice y.aA y.args.length y.aC, .slice y.fA y.funcs.length y.fC] T)) := by
  obtain ⟨i0, hi0, hz0, hz1, hz2⟩ := info_parts axpr_info
  obtain ⟨g, c, hx, rfl⟩ := hx
  have hal : Below W.heap.size W (W.alloc (.cells #[.int .i64 y.k, .int .i64 y.op, .int .i64 y.ln, .int .i64 y.p, .int .i64 y.q, .string y.s, .slice y.aA y.args.length y.aC, .slice y.fA y.funcs.length y.fC] T)) := (Below.refl _ _).alloc (Nat.le_refl _) _
  have hb1 := hb.later hal
  refine wpList_append_own _ hg s x _ hop base 35 i0 _ 8 104 Try.underlying29 hi0 hz0 hz1 hz2 rfl (by omega) v l.length (xsC l) hs hb1.1 ⟨W.heap.size, 0, none⟩ 1 c y.cells hx rfl ?_ (tx_one y) (by unfold maxLen; omega) (by omega) hb1.2 ?_
  · intro j u hj
    exact block_new W y.cells T j u hj
  · intro v' w' ho hgr _
    refine hK v' w' ⟨by rw [List.length_append, xsC_app]; exact (by simpa [xsC] using ho), Nat.le_trans hb1.2 hgr.size⟩ ((kx_of hal hb.2).trans ⟨(Below.refl _ _).grown hgr hb1.2 (fun k hk => (hb1.1.lt k hk).1), ?_⟩)
    intro g c t f hc ht
    refine (hgr.block g (Array.getElem?_eq_some_iff.1 hc).1 ?_).trans hc
    intro hgv
    obtain ⟨-, ⟨h2, -⟩ | ⟨g2, cap, cur, hv, -, hh, -⟩⟩ := hb1.1
    · rw [h2] at hgv; cases hgv
    · rw [hv] at hgv
      have e : g = g2 := by simpa [Value.ownBlock] using hgv
      subst e
      rw [hh] at hc
      cases hc
      exact ht rfl
end Go.Proofs.Ythkpggpnbdedjaa

/- The reference's Each: the row of all expressions, in the order of the text. -/
namespace Go.Proofs.Ythkpggpnbdedjaa
open Go.RowKit Go.Instr
set_option linter.unusedVariables false

/-- What the three functions answer, for parts of a rank less than n. -/
abbrev REx (n : Nat) : Prop := ∀ (l : List TX), (∀ x ∈ l, rkX x < n) → ∀ (base : Nat) (v : Value) (o : List TX) (a : Option Addr) (c : Nat) (w : World) (N : Nat), OX base v o w → XsOk w N a c l → N ≤ base → o.length + (l.flatMap fun x => exP n (.inl x)).length ≤ 2000000 →
  Calls Try.prog 54 #[v, .slice a l.length c] w fun e w' => ∃ v', e = .returned v' ∧ OX base v' (o ++ l.flatMap fun x => exP n (.inl x)) w' ∧ KX base w w'
abbrev RBk (n : Nat) : Prop := ∀ (y : TB), rkB y < n → ∀ (base : Nat) (v : Value) (o : List TX) (w : World) (N : Nat), OX base v o w → InB w N y → N ≤ base → o.length + (exP n (.inr y)).length ≤ 2000000 →
  Calls Try.prog 39 #[v, y.v] w fun e w' => ∃ v', e = .returned v' ∧ OX base v' (o ++ exP n (.inr y)) w' ∧ KX base w w'
abbrev RBs (n : Nat) : Prop := ∀ (l : List TB), (∀ y ∈ l, rkB y < n) → ∀ (base : Nat) (v : Value) (o : List TX) (a : Option Addr) (c : Nat) (w : World) (N : Nat), OX base v o w → BsOk w N a c l → N ≤ base → o.length + (l.flatMap fun y => exP n (.inr y)).length ≤ 2000000 →
  Calls Try.prog 55 #[v, .slice a l.length c] w fun e w' => ∃ v', e = .returned v' ∧ OX base v' (o ++ l.flatMap fun y => exP n (.inr y)) w' ∧ KX base w w'
theorem OX.eq {base : Nat} {v : Value} {l m : List TX} {w : World} (h : OX base v l w) (e : l = m) : OX base v m w := e ▸ h

set_option maxHeartbeats 1600000 in
theorem rex_step (n : Nat) (hX : REx n) (hB : RBk n) : REx (n + 1) := by
  intro l hrk base v o a c w N hO hok hN hlen
  obtain ⟨f, hf⟩ : ∃ f : TX → List TX, (fun x => exP (n + 1) (.inl x)) = f := ⟨_, rfl⟩
  obtain ⟨gA, hgA⟩ : ∃ f : TX → List TX, (fun x => exP n (.inl x)) = f := ⟨_, rfl⟩
  obtain ⟨gF, hgF⟩ : ∃ f : TF → List TX, (fun f => exP n (.inr ⟨f.bA, f.bC, f.body⟩)) = f := ⟨_, rfl⟩
  have HF : Hid (∀ x, f x = x :: (x.args.flatMap gA ++ x.funcs.flatMap gF)) := fun x => by rw [← hf, ← hgA, ← hgF]; exact exP_x n x
  rw [hf] at hlen ⊢
  have HX : Hid (∀ (l : List TX), (∀ x ∈ l, rkX x < n) → ∀ (base : Nat) (v : Value) (o : List TX) (a : Option Addr) (c : Nat) (w : World) (N : Nat), OX base v o w → XsOk w N a c l → N ≤ base → o.length + (l.flatMap gA).length ≤ 2000000 →
      Calls Try.prog 54 #[v, .slice a l.length c] w fun e w' => ∃ v', e = .returned v' ∧ OX base v' (o ++ l.flatMap gA) w' ∧ KX base w w') := by rw [← hgA]; exact hX
  have HB : Hid (∀ (y : TF), rkF y < n → ∀ (base : Nat) (v : Value) (o : List TX) (w : World) (N : Nat), OX base v o w → InF w N y → N ≤ base → o.length + (gF y).length ≤ 2000000 →
      Calls Try.prog 39 #[v, .slice y.bA y.body.length y.bC] w fun e w' => ∃ v', e = .returned v' ∧ OX base v' (o ++ gF y) w' ∧ KX base w w') := by
    rw [← hgF]
    intro y hy base v o w N h1 h2 h3 h4
    exact hB ⟨y.bA, y.bC, y.body⟩ (by rw [rkB_eq]; rw [rkF_eq] at hy; show 1 + rkSs y.body < n; omega) base v o w N h1 ((inB_iff _).2 ⟨⟨h2.ss.1, h2.ss.2.1⟩, h2.ss.2.2⟩) h3 h4
  have HO := Lib.hid hok
  have HR := Lib.hid hrk
  obtain ⟨hn1, hn2, hn3⟩ := hok.1
  have hn : (l.length : Int) ≤ 9223372036854775807 := by omega
  have HL := Lib.hid hlen
  have HO0 := Lib.hid hO
  clear hok hrk hX hB hn3 hlen hO hf hgA hgF
  go_enter Try.func54, Try.ntmps54
  go_wp2_with fail
  go_loopw [0, 5] (fun v' i wr => ∃ k : Nat, k ≤ l.length ∧ i = .int .i64 k ∧ Hid (OX base v' (o ++ (l.take k).flatMap f) wr) ∧ Hid (KX base w wr)) (fun _ i _ => l.length - (intOf i).toNat)
  case atStart => exact ⟨0, Nat.zero_le _, rfl, (show OX _ _ _ _ from HO0.out.eq (by simp)), KX.refl _ _⟩
  case round =>
    obtain ⟨k, hk, rfl, HV, HK⟩ := hrel
    by_cases hlt : k < l.length
    · obtain ⟨b, o1, rfl, hb0, hcw, hin⟩ := HO.out.at_ hlt
      have hb : b < base := by omega
      have hs := flat_succ' (f := f) hlt
      have hle := flat_le (l := l) (f := f) (k + 1)
      have hrx := HR.out _ (List.getElem_mem hlt)
      obtain ⟨x, hx⟩ : ∃ x, l[k] = x := ⟨_, rfl⟩
      rw [hx] at hcw hin hs hrx
      rw [hs, HF.out x, List.length_append, List.length_cons, List.length_append] at hle
      rw [HF.out x] at hs
      rw [rkX_eq] at hrx
      obtain ⟨Pk, hP⟩ : ∃ P, o ++ (l.take k).flatMap f = P := ⟨_, rfl⟩
      have hPl : Pk.length = o.length + ((l.take k).flatMap f).length := by rw [← hP, List.length_append]
      rw [hP] at HV
      obtain ⟨As, hAs⟩ : ∃ A, x.args.flatMap gA = A := ⟨_, rfl⟩
      have hFs : ∀ j, ((x.funcs.take j).flatMap gF).length ≤ (x.funcs.flatMap gF).length := fun j => flat_le j
      have hL : Pk.length + 1 + As.length + (x.funcs.flatMap gF).length ≤ 2000000 := by have := HL.out; rw [hAs] at hle; omega
      have HS : Hid (o ++ (l.take (k + 1)).flatMap f = Pk ++ [x] ++ As ++ x.funcs.flatMap gF) := by show _ = _; rw [hs, ← List.append_assoc, hP, hAs]; simp
      have HA : Hid (∀ v1 W, OX base v1 (Pk ++ [x]) W → KX base w W → Calls Try.prog 54 #[v1, .slice x.aA x.args.length x.aC] W fun e w' => ∃ v', e = .returned v' ∧ OX base v' (Pk ++ [x] ++ As) w' ∧ KX base W w') := fun v1 W h1 h2 => by
        rw [← hAs]
        exact HX.out x.args (fun y hy => by have := rkXs_mem hy; omega) base v1 _ _ _ W N h1 (hin.xs.still (still_of h2.below hN) (Nat.le_refl _)) hN (by rw [hAs]; simp; omega)
      have HIN := Lib.hid hin
      obtain ⟨i1, i2, i3⟩ := hin.fs.1
      have hHL := Lib.hid hL
      have hHF := Lib.hid hFs
      obtain ⟨d0, d1, d2, d3, d4, d5, d6, d7⟩ := x8_still (still_of HK.out.below (Nat.le_refl _)) _ _ _ hb hcw
      have hL1 : Pk.length + 1 ≤ 2000000 := by omega
      clear hs hle hin hx hP hPl hL hFs hAs i3
      go_wp2_with (first | (at_builtin; refine wp_xlit rfl _ _ rfl base _ Pk HV.out rfl ?_ ?_ ?_; (focus exact ⟨_, _, rfl, by first | rfl | simp⟩); (focus omega); intro v1 w1 hO1 hK1; have HO1 := Lib.hid hO1; have HK2 : Hid (KX base w w1) := HK.out.trans hK1; clear hO1 hK1; obtain ⟨d0, d1, d2, d3, d4, d5, d6, d7⟩ := x8_still (still_of (HK2.out.below) (Nat.le_refl _)) _ _ _ hb hcw) | (go_at_call 54; (with_reducible refine (HA.out _ _ HO1.out HK2.out).mono ?_); rintro e w2 ⟨v2, rfl, hO2, hK3⟩; have HO2 := Lib.hid hO2; have HK3 : Hid (KX base w w2) := HK2.out.trans hK3; clear hO2 hK3))
      go_loopw [0, 6] (fun v' i W => ∃ j : Nat, j ≤ x.funcs.length ∧ i = .int .i64 j ∧ Hid (OX base v' (Pk ++ [x] ++ As ++ (x.funcs.take j).flatMap gF) W) ∧ Hid (KX base w W)) (fun _ i _ => x.funcs.length - (intOf i).toNat)
      case atStart => exact ⟨0, Nat.zero_le _, rfl, (show OX _ _ _ _ from HO2.out.eq (by simp)), HK3.out⟩
      case round =>
        obtain ⟨j, hj, rfl, HV2, HK2⟩ := hrel
        clear d0 d1 d2 d3 d4 d5 d6 d7
        obtain ⟨d0, d1, d2, d3, d4, d5, d6, d7⟩ := x8_still (still_of (HK2.out.below) (Nat.le_refl _)) _ _ _ hb hcw
        by_cases hjl : j < x.funcs.length
        · obtain ⟨b2, o2, ha2, hb2, hc2, hin2⟩ := HIN.out.fs.at_ hjl
          rw [ha2] at d7
          have hs := flat_succ' (f := gF) hjl
          have hrf := rkFs_mem (List.getElem_mem hjl)
          obtain ⟨y, hy⟩ : ∃ y, x.funcs[j] = y := ⟨_, rfl⟩
          rw [hy] at hc2 hin2 hs hrf
          obtain ⟨e0, e1, e2, e3, e4⟩ := f5_still (still_of (B := base) HK2.out.below (Nat.le_refl _)) _ _ _ (by omega) hc2
          have hq := hHF.out (j + 1)
          rw [hs, List.length_append] at hq
          obtain ⟨Q, hQ⟩ : ∃ Q, Pk ++ [x] ++ As ++ (x.funcs.take j).flatMap gF = Q := ⟨_, rfl⟩
          have hQl : Q.length + (gF y).length ≤ 2000000 := by rw [← hQ]; have := hHL.out; simp only [List.length_append, List.length_cons, List.length_nil]; omega
          have HS2 : Hid (Pk ++ [x] ++ As ++ (x.funcs.take (j + 1)).flatMap gF = Q ++ gF y) := by show _ = _; rw [hs, ← hQ]; simp only [List.append_assoc]
          rw [hQ] at HV2
          have HC : Hid (∀ v1 W, OX base v1 Q W → KX base w W → Calls Try.prog 39 #[v1, .slice y.bA y.body.length y.bC] W fun e w' => ∃ v', e = .returned v' ∧ OX base v' (Q ++ gF y) w' ∧ KX base W w') := fun v1 W h1 h2 =>
            HB.out y (by omega) base v1 _ W N h1 (hin2.still (still_of h2.below hN) (Nat.le_refl _)) hN hQl
          clear hs hrf hin2 hy hc2 hq hQ hQl ha2
          go_wp2_with (go_at_call 39; (with_reducible refine (HC.out _ _ HV2.out HK2.out).mono ?_); rintro e w3 ⟨v3, rfl, hO3, hK3⟩)
          refine ⟨⟨j + 1, by omega, by go_num, (show OX _ _ _ _ from hO3.eq HS2.out.symm), HK2.out.trans hK3⟩, by simp [intOf]; omega⟩
        · obtain rfl : j = x.funcs.length := by omega
          rw [List.take_length] at HV2
          go_wp2_with fail
          refine ⟨⟨k + 1, by omega, by go_num, (show OX _ _ _ _ from HV2.out.eq HS.out.symm), HK2.out⟩, by simp [intOf]; omega⟩
    · obtain rfl : k = l.length := by omega
      rw [List.take_length] at HV
      go_wp2_with fail
      go_returns
      exact ⟨_, rfl, HV.out, HK.out⟩

set_option maxHeartbeats 1600000 in
theorem rbs_step (n : Nat) (hB : RBk n) : RBs n := by
  intro l hrk base v o a c w N hO hok hN hlen
  obtain ⟨g, hg⟩ : ∃ f : TB → List TX, (fun y => exP n (.inr y)) = f := ⟨_, rfl⟩
  rw [hg] at hlen ⊢
  have HB : Hid (∀ (y : TB), rkB y < n → ∀ (base : Nat) (v : Value) (o : List TX) (w : World) (N : Nat), OX base v o w → InB w N y → N ≤ base → o.length + (g y).length ≤ 2000000 →
      Calls Try.prog 39 #[v, .slice y.a y.l.length y.c] w fun e w' => ∃ v', e = .returned v' ∧ OX base v' (o ++ g y) w' ∧ KX base w w') := by rw [← hg]; exact hB
  have HO := Lib.hid hok
  have HR := Lib.hid hrk
  obtain ⟨hn1, hn2, hn3⟩ := hok.1
  have hn : (l.length : Int) ≤ 9223372036854775807 := by omega
  have HL := Lib.hid hlen
  have HO0 := Lib.hid hO
  clear hok hrk hB hn3 hlen hO hg
  go_enter Try.func55, Try.ntmps55
  go_wp2_with fail
  go_loopw [0, 5] (fun v' i wr => ∃ k : Nat, k ≤ l.length ∧ i = .int .i64 k ∧ Hid (OX base v' (o ++ (l.take k).flatMap g) wr) ∧ Hid (KX base w wr)) (fun _ i _ => l.length - (intOf i).toNat)
  case atStart => exact ⟨0, Nat.zero_le _, rfl, (show OX _ _ _ _ from HO0.out.eq (by simp)), KX.refl _ _⟩
  case round =>
    obtain ⟨k, hk, rfl, HV, HK⟩ := hrel
    by_cases hlt : k < l.length
    · obtain ⟨b, o1, rfl, hb0, hcw, hin⟩ := HO.out.at_ hlt
      have hb : b < base := by omega
      have hs := flat_succ' (f := g) hlt
      have hle := flat_le (l := l) (f := g) (k + 1)
      have hrx := HR.out _ (List.getElem_mem hlt)
      obtain ⟨y, hy⟩ : ∃ x, l[k] = x := ⟨_, rfl⟩
      rw [hy] at hcw hin hs hrx
      rw [hs, List.length_append] at hle
      obtain ⟨Pk, hP⟩ : ∃ P, o ++ (l.take k).flatMap g = P := ⟨_, rfl⟩
      have hPl : Pk.length = o.length + ((l.take k).flatMap g).length := by rw [← hP, List.length_append]
      rw [hP] at HV
      have hL : Pk.length + (g y).length ≤ 2000000 := by have := HL.out; omega
      have HS : Hid (o ++ (l.take (k + 1)).flatMap g = Pk ++ g y) := by show _ = _; rw [hs, ← List.append_assoc, hP]
      have HC : Hid (∀ v1 W, OX base v1 Pk W → KX base w W → Calls Try.prog 39 #[v1, .slice y.a y.l.length y.c] W fun e w' => ∃ v', e = .returned v' ∧ OX base v' (Pk ++ g y) w' ∧ KX base W w') := fun v1 W h1 h2 =>
        HB.out y hrx base v1 _ W N h1 (hin.still (still_of h2.below hN) (Nat.le_refl _)) hN hL
      have d0 : wr.cell? ⟨b, o1 + k, none⟩ = some (.slice y.a y.l.length y.c) := ((still_of HK.out.below (Nat.le_refl _)).cell hb).trans hcw
      clear hs hle hin hy hP hPl hL hcw hrx
      go_wp2_with (go_at_call 39; (with_reducible refine (HC.out _ _ HV.out HK.out).mono ?_); rintro e w3 ⟨v3, rfl, hO3, hK3⟩)
      refine ⟨⟨k + 1, by omega, by go_num, (show OX _ _ _ _ from hO3.eq HS.out.symm), HK.out.trans hK3⟩, by simp [intOf]; omega⟩
    · obtain rfl : k = l.length := by omega
      rw [List.take_length] at HV
      go_wp2_with fail
      go_returns
      exact ⟨_, rfl, HV.out, HK.out⟩

/-- A block of its own that holds a statement. -/
def SBox (W : World) (B : Nat) (s : TS) : Prop := W.heap[B]? = some (.cells #[.int .i64 s.k, .int .i64 s.ln, .slice s.nA s.names.length s.nC, .slice s.lA s.left.length s.lC, .slice s.rA s.right.length s.rC, .slice s.bA s.blocks.length s.bC, .string s.label] 54 (0, 0))
theorem SBox.cells {W : World} {B : Nat} {s : TS} (h : SBox W B s) : S7n B s W := by
  unfold SBox at h
  unfold S7n
  simp [World.cell?, h]
theorem SBox.kx {base : Nat} {W W' : World} {B : Nat} {s : TS} (h : SBox W B s) (k : KX base W W') : SBox W' B s := k.new _ _ _ _ h (by decide)
theorem SBox.new (W : World) (s : TS) : SBox (W.alloc (.cells #[.int .i64 s.k, .int .i64 s.ln, .slice s.nA s.names.length s.nC, .slice s.lA s.left.length s.lC, .slice s.rA s.right.length s.rC, .slice s.bA s.blocks.length s.bC, .string s.label] 54)) W.heap.size s := World.alloc_heap_new W _

set_option maxRecDepth 100000 in
set_option maxHeartbeats 8000000 in
theorem rbk_step (n : Nat) (hX : REx n) (hS : RBs n) (hB : RBk n) : RBk (n + 1) := by
  intro y hrk base v o w N hO hin hN hlen
  obtain ⟨g, hg⟩ : ∃ g : TS → List TX, (fun s => (partsS s).flatMap (exP n)) = g := ⟨_, rfl⟩
  obtain ⟨gA, hgA⟩ : ∃ f : TX → List TX, (fun x => exP n (.inl x)) = f := ⟨_, rfl⟩
  obtain ⟨gB, hgB⟩ : ∃ f : TB → List TX, (fun y => exP n (.inr y)) = f := ⟨_, rfl⟩
  obtain ⟨l, a, c, hyl, hya, hyc⟩ : ∃ l a c, y.l = l ∧ y.a = a ∧ y.c = c := ⟨_, _, _, rfl, rfl, rfl⟩
  have eg : exP (n + 1) (.inr y) = l.flatMap g := by rw [exP_b, hg, hyl]
  rw [eg] at hlen ⊢
  have hmapA : ∀ q : List TX, (q.map Sum.inl).flatMap (exP n) = q.flatMap gA := fun q => by rw [List.flatMap_map, hgA]
  have hmapB : ∀ q : List TB, (q.map Sum.inr).flatMap (exP n) = q.flatMap gB := fun q => by rw [List.flatMap_map, hgB]
  have HX : Hid (∀ (l : List TX), (∀ x ∈ l, rkX x < n) → ∀ (base : Nat) (v : Value) (o : List TX) (a : Option Addr) (c : Nat) (w : World) (N : Nat), OX base v o w → XsOk w N a c l → N ≤ base → o.length + (l.flatMap gA).length ≤ 2000000 →
      Calls Try.prog 54 #[v, .slice a l.length c] w fun e w' => ∃ v', e = .returned v' ∧ OX base v' (o ++ l.flatMap gA) w' ∧ KX base w w') := by rw [← hgA]; exact hX
  have HSs : Hid (∀ (l : List TB), (∀ y ∈ l, rkB y < n) → ∀ (base : Nat) (v : Value) (o : List TX) (a : Option Addr) (c : Nat) (w : World) (N : Nat), OX base v o w → BsOk w N a c l → N ≤ base → o.length + (l.flatMap gB).length ≤ 2000000 →
      Calls Try.prog 55 #[v, .slice a l.length c] w fun e w' => ∃ v', e = .returned v' ∧ OX base v' (o ++ l.flatMap gB) w' ∧ KX base w w') := by rw [← hgB]; exact hS
  have HB : Hid (∀ (y : TB), rkB y < n → ∀ (base : Nat) (v : Value) (o : List TX) (w : World) (N : Nat), OX base v o w → InB w N y → N ≤ base → o.length + (gB y).length ≤ 2000000 →
      Calls Try.prog 39 #[v, .slice y.a y.l.length y.c] w fun e w' => ∃ v', e = .returned v' ∧ OX base v' (o ++ gB y) w' ∧ KX base w w') := by rw [← hgB]; exact hB
  have hp7 : ∀ s : TS, s.k = 7 → g s = s.left.flatMap gA ++ (s.blocks.flatMap gB ++ s.right.flatMap gA) := fun s h => by
    rw [← hg]; show (partsS s).flatMap (exP n) = _; unfold partsS; rw [if_pos h]; simp only [List.flatMap_append, hmapA, hmapB]
  have hp8 : ∀ s : TS, s.k = 8 → g s = s.left.flatMap gA ++ (zipP s.right s.blocks).flatMap (exP n) := fun s h => by
    rw [← hg]; show (partsS s).flatMap (exP n) = _; unfold partsS; rw [if_neg (by omega), if_pos h]; simp only [List.flatMap_append, hmapA]
  have hpo : ∀ s : TS, s.k ≠ 7 → s.k ≠ 8 → g s = s.left.flatMap gA ++ (s.right.flatMap gA ++ s.blocks.flatMap gB) := fun s h h' => by
    rw [← hg]; show (partsS s).flatMap (exP n) = _; unfold partsS; rw [if_neg h, if_neg h']; simp only [List.flatMap_append, hmapA, hmapB]
  obtain ⟨gP, hgP⟩ : ∃ f : TX ⊕ TB → List TX, exP n = f := ⟨_, rfl⟩
  have hPA : ∀ x, gP (.inl x) = gA x := fun x => by rw [← hgP, ← hgA]
  have hPB : ∀ x, gP (.inr x) = gB x := fun x => by rw [← hgP, ← hgB]
  rw [hgP] at hp8
  have H7 := Lib.hid hp7
  have H8 := Lib.hid hp8
  have H9 := Lib.hid hpo
  have HPA := Lib.hid hPA
  have HPB := Lib.hid hPB
  rw [rkB_eq, hyl] at hrk
  have hok : SsOk w N a c l := by rw [← hyl, ← hya, ← hyc]; exact hin.ss
  have HO := Lib.hid hok
  obtain ⟨hn1, hn2, hn3⟩ := hok.1
  have hn : (l.length : Int) ≤ 9223372036854775807 := by omega
  have HL := Lib.hid hlen
  have HO0 := Lib.hid hO
  show Calls Try.prog _ #[_, .slice y.a y.l.length y.c] w _
  rw [hyl, hya, hyc]
  clear hok hX hB hS hn3 hlen hO hg hgA hgB hgP hmapA hmapB hp7 hp8 hpo hPA hPB eg hyl hya hyc hin
  go_enter Try.func39, Try.ntmps39
  go_wp2_with fail
  go_loopw [0, 5] (fun v' i wr => ∃ k : Nat, k ≤ l.length ∧ i = .int .i64 k ∧ Hid (OX base v' (o ++ (l.take k).flatMap g) wr) ∧ Hid (KX base w wr)) (fun _ i _ => l.length - (intOf i).toNat)
  case atStart => exact ⟨0, Nat.zero_le _, rfl, (show OX _ _ _ _ from HO0.out.eq (by simp)), KX.refl _ _⟩
  case round =>
    obtain ⟨k, hk, rfl, HV, HK⟩ := hrel
    by_cases hlt : k < l.length
    · obtain ⟨b, o1, rfl, hb0, hcw, hin⟩ := HO.out.at_ hlt
      have hb : b < base := by omega
      have hs := flat_succ' (f := g) hlt
      have hle := flat_le (l := l) (f := g) (k + 1)
      have hrx := rkSs_mem (List.getElem_mem hlt)
      obtain ⟨s, hsx⟩ : ∃ x, l[k] = x := ⟨_, rfl⟩
      rw [hsx] at hcw hin hs hrx
      rw [hs, List.length_append] at hle
      rw [rkS_eq] at hrx
      obtain ⟨Pk, hP⟩ : ∃ P, o ++ (l.take k).flatMap g = P := ⟨_, rfl⟩
      have hPl : Pk.length = o.length + ((l.take k).flatMap g).length := by rw [← hP, List.length_append]
      rw [hP] at HV
      have hL : Pk.length + (g s).length ≤ 2000000 := by have := HL.out; omega
      have HS : Hid (o ++ (l.take (k + 1)).flatMap g = Pk ++ g s) := by show _ = _; rw [hs, ← List.append_assoc, hP]
      obtain ⟨c0, c1, c2, c3, c4, c5, c6⟩ := s7_still (still_of HK.out.below (Nat.le_refl _)) _ _ _ hb hcw
      have hsz : base ≤ wr.heap.size := HV.out.2
      have HXl : Hid (∀ v1 P1 W, OX base v1 P1 W → KX base w W → P1.length + (s.left.flatMap gA).length ≤ 2000000 → Calls Try.prog 54 #[v1, .slice s.lA s.left.length s.lC] W fun e w' => ∃ v', e = .returned v' ∧ OX base v' (P1 ++ s.left.flatMap gA) w' ∧ KX base W w') := fun v1 P1 W h1 h2 h3 =>
        HX.out s.left (fun y hy => by have := rkXs_mem hy; omega) base v1 _ _ _ W N h1 (hin.lf.still (still_of h2.below hN) (Nat.le_refl _)) hN h3
      have HXr : Hid (∀ v1 P1 W, OX base v1 P1 W → KX base w W → P1.length + (s.right.flatMap gA).length ≤ 2000000 → Calls Try.prog 54 #[v1, .slice s.rA s.right.length s.rC] W fun e w' => ∃ v', e = .returned v' ∧ OX base v' (P1 ++ s.right.flatMap gA) w' ∧ KX base W w') := fun v1 P1 W h1 h2 h3 =>
        HX.out s.right (fun y hy => by have := rkXs_mem hy; omega) base v1 _ _ _ W N h1 (hin.rt.still (still_of h2.below hN) (Nat.le_refl _)) hN h3
      have HXb : Hid (∀ v1 P1 W, OX base v1 P1 W → KX base w W → P1.length + (s.blocks.flatMap gB).length ≤ 2000000 → Calls Try.prog 55 #[v1, .slice s.bA s.blocks.length s.bC] W fun e w' => ∃ v', e = .returned v' ∧ OX base v' (P1 ++ s.blocks.flatMap gB) w' ∧ KX base W w') := fun v1 P1 W h1 h2 h3 =>
        HSs.out s.blocks (fun y hy => by have := rkBs_mem hy; omega) base v1 _ _ _ W N h1 (hin.bs.still (still_of h2.below hN) (Nat.le_refl _)) hN h3
      have HX1 : Hid (∀ j (h : j < s.right.length) v1 P1 W b' o' c', OX base v1 P1 W → KX base w W → s.rA = some ⟨b', o', none⟩ → 1 ≤ c' → c' ≤ 9223372036854775807 → P1.length + (gA s.right[j]).length ≤ 2000000 → Calls Try.prog 54 #[v1, .slice (some ⟨b', o' + j * 8, none⟩) 1 c'] W fun e w' => ∃ v', e = .returned v' ∧ OX base v' (P1 ++ gA s.right[j]) w' ∧ KX base W w') := fun j h v1 P1 W b' o' c' h1 h2 h3 h4 h5 h6 => by
        obtain ⟨b4, o4, ha4, hb4, hc4, hi4⟩ := (hin.rt.still (still_of h2.below hN) (Nat.le_refl _)).at_ h
        rw [h3] at ha4
        injection ha4 with ha4
        injection ha4 with e1 e2
        subst e1 e2
        have := HX.out [s.right[j]] (fun y hy => by obtain rfl := List.mem_singleton.1 hy; have := rkXs_mem (List.getElem_mem h); omega) base v1 P1 (some ⟨b', o' + j * 8, none⟩) c' W N h1 ⟨⟨h4, h5, fun e => by cases e⟩, .inr ⟨b', o' + j * 8, rfl, hb4, fun i hi => by
          obtain rfl : i = 0 := by simp at hi; omega
          rw [Nat.zero_mul, Nat.add_zero]; exact hc4⟩, ⟨hi4, trivial⟩⟩ hN (by simpa using h6)
        rw [show [s.right[j]].flatMap gA = gA s.right[j] by simp] at this
        exact this
      have HB1 : Hid (∀ j (h : j < s.blocks.length) v1 P1 W, OX base v1 P1 W → KX base w W → P1.length + (gB s.blocks[j]).length ≤ 2000000 → Calls Try.prog 39 #[v1, .slice (s.blocks[j]).a (s.blocks[j]).l.length (s.blocks[j]).c] W fun e w' => ∃ v', e = .returned v' ∧ OX base v' (P1 ++ gB s.blocks[j]) w' ∧ KX base W w') := fun j h v1 P1 W h1 h2 h3 =>
        HB.out _ (by have := rkBs_mem (List.getElem_mem h); omega) base v1 _ W N h1 (((inBs_iff _).1 hin.bs.2.2 _ (List.getElem_mem h)).still (still_of h2.below hN) (Nat.le_refl _)) hN h3
      have HIN := Lib.hid hin
      have HLs := Lib.hid hL
      have HBX := SBox.new wr s
      have HKA : Hid (KX base wr (wr.alloc (.cells #[.int .i64 s.k, .int .i64 s.ln, .slice s.nA s.names.length s.nC, .slice s.lA s.left.length s.lC, .slice s.rA s.right.length s.rC, .slice s.bA s.blocks.length s.bC, .string s.label] 54))) := kx_of (by (repeat' (first | (with_reducible exact Below.refl _ _) | (with_reducible assumption) | (with_reducible refine Below.alloc ?_ ?_ _) | (with_reducible refine below_drewN ?_ _) | (with_reducible refine Below.drew ?_) | (with_reducible refine Below.setCell ?_ ?_ _) | (with_reducible refine below_via (by assumption) ?_ ?_) | (with_reducible refine below_via (later_below _) ?_ ?_) | (with_reducible exact Nat.le_refl _) | omega | (simp; omega) | (simp; done)))) hsz
      obtain ⟨r1, r2, r3⟩ := hin.rt.1
      obtain ⟨q1, q2, q3⟩ := hin.bs.1
      clear hs hle hP hPl hL hcw hrx hsx
      obtain ⟨LA, hLA⟩ : ∃ q, s.left.flatMap gA = q := ⟨_, rfl⟩
      rw [hLA] at HXl
      by_cases h7 : s.k = 7
      · have t7 : (s.k == 7) = true := by simpa using h7
        obtain ⟨LB, hLB⟩ : ∃ q, s.blocks.flatMap gB = q := ⟨_, rfl⟩
        obtain ⟨LC, hLC⟩ : ∃ q, s.right.flatMap gA = q := ⟨_, rfl⟩
        rw [hLB] at HXb
        rw [hLC] at HXr
        have hgs := H7.out s h7
        rw [hLA, hLB, hLC] at hgs
        have hll := HLs.out
        rw [hgs, List.length_append, List.length_append] at hll
        have hl1 : Pk.length + LA.length ≤ 2000000 := by omega
        have hl2 : (Pk ++ LA).length + LB.length ≤ 2000000 := by rw [List.length_append]; omega
        have hl3 : (Pk ++ LA ++ LB).length + LC.length ≤ 2000000 := by rw [List.length_append, List.length_append]; omega
        have HGS := Lib.hid hgs
        clear hgs hll hLA hLB hLC h7
        go_wp2_with (first | (go_at_call 54; (with_reducible refine (HXl.out _ Pk _ (HV.out.later (by (repeat' (first | (with_reducible exact Below.refl _ _) | (with_reducible assumption) | (with_reducible refine Below.alloc ?_ ?_ _) | (with_reducible refine below_drewN ?_ _) | (with_reducible refine Below.drew ?_) | (with_reducible refine Below.setCell ?_ ?_ _) | (with_reducible refine below_via (by assumption) ?_ ?_) | (with_reducible refine below_via (later_below _) ?_ ?_) | (with_reducible exact Nat.le_refl _) | omega | (simp; omega) | (simp; done))))) (HK.out.trans HKA.out) hl1).mono ?_); rintro e w2 ⟨v2, rfl, hO2, hK2⟩; have HO2 := Lib.hid hO2; have HB2 := (HBX.kx hK2); have HK2 : Hid (KX base w w2) := (HK.out.trans HKA.out).trans hK2; clear hO2 hK2; obtain ⟨b0, b1, b2, b3, b4, b5, b6⟩ := HB2.cells; have hz2 := cell_lt b0) | (go_at_call 55; (with_reducible refine (HXb.out _ (Pk ++ LA) _ HO2.out HK2.out hl2).mono ?_); rintro e w3 ⟨v3, rfl, hO3, hK3⟩; have HO3 := Lib.hid hO3; have HB3 := (HB2.kx hK3); have HK3 : Hid (KX base w w3) := HK2.out.trans hK3; clear hO3 hK3; obtain ⟨f0, f1, f2, f3, f4, f5, f6⟩ := HB3.cells; have hz3 := cell_lt f0) | (go_at_call 54; (with_reducible refine (HXr.out _ (Pk ++ LA ++ LB) _ HO3.out HK3.out hl3).mono ?_); rintro e w4 ⟨v4, rfl, hO4, hK4⟩; have HO4 := Lib.hid hO4; have HB4 := (HB3.kx hK4); have HK4 : Hid (KX base w w4) := HK3.out.trans hK4; clear hO4 hK4))
        refine ⟨⟨k + 1, by omega, by go_num, (show OX _ _ _ _ from HO4.out.eq (by rw [HS.out, HGS.out]; simp only [List.append_assoc])), HK4.out⟩, by simp [intOf]; omega⟩
      · have t7 : (s.k == 7) = false := by simpa using h7
        by_cases h8 : s.k = 8
        · have t8 : (s.k == 8) = true := by simpa using h8
          have t8' : (s.k != 8) = false := by simp [h8]
          have HZP : Hid (∀ m, ((zipP (s.right.take m) (s.blocks.take m)).flatMap gP).length ≤ ((zipP s.right s.blocks).flatMap gP).length) := fun m => zipP_le gP m s.right s.blocks
          by_cases hrl : s.right.length < s.blocks.length
          · have hgs := H8.out s h8
            rw [hLA] at hgs
            have hll := HLs.out
            rw [hgs, List.length_append] at hll
            have hl1 : Pk.length + LA.length ≤ 2000000 := by omega
            have HLZ : Hid (∀ m, Pk.length + (LA.length + ((zipP (s.right.take m) (s.blocks.take m)).flatMap gP).length) ≤ 2000000) := fun m => by have := HZP.out m; omega
            have HGS := Lib.hid hgs
            clear hgs hll hLA h7 h8
            go_wp2_with ((go_at_call 54; (with_reducible refine (HXl.out _ Pk _ (HV.out.later (by (repeat' (first | (with_reducible exact Below.refl _ _) | (with_reducible assumption) | (with_reducible refine Below.alloc ?_ ?_ _) | (with_reducible refine below_drewN ?_ _) | (with_reducible refine Below.drew ?_) | (with_reducible refine Below.setCell ?_ ?_ _) | (with_reducible refine below_via (by assumption) ?_ ?_) | (with_reducible refine below_via (later_below _) ?_ ?_) | (with_reducible exact Nat.le_refl _) | omega | (simp; omega) | (simp; done))))) (HK.out.trans HKA.out) hl1).mono ?_); rintro e w2 ⟨v2, rfl, hO2, hK2⟩; have HO2 := Lib.hid hO2; have HB2 := (HBX.kx hK2); have HK2 : Hid (KX base w w2) := (HK.out.trans HKA.out).trans hK2; clear hO2 hK2; obtain ⟨b0, b1, b2, b3, b4, b5, b6⟩ := HB2.cells; have hz2 := cell_lt b0))
            go_loopw [0, 7] (fun v' i W => ∃ j : Nat, j ≤ max s.right.length s.blocks.length ∧ i = .int .i64 j ∧ Hid (OX base v' (Pk ++ LA ++ (zipP (s.right.take j) (s.blocks.take j)).flatMap gP) W) ∧ Hid (KX base w W) ∧ SBox W wr.heap.size s) (fun _ i _ => max s.right.length s.blocks.length - (intOf i).toNat)
            case atStart => exact ⟨0, Nat.zero_le _, rfl, (show OX _ _ _ _ from HO2.out.eq (by simp [zipP])), HK2.out, HB2⟩
            case round =>
              obtain ⟨j, hj, rfl, HV2, HK2, HB3⟩ := hrel
              clear b0 b1 b2 b3 b4 b5 b6
              obtain ⟨g0, g1, g2, g3, g4, g5, g6⟩ := HB3.cells
              have hz4 := cell_lt g0
              by_cases hy : j < s.blocks.length
              · by_cases hx : j < s.right.length
                · have hzk := zipP_succ s.right s.blocks j
                  obtain ⟨br, or_, hra, hbr, hcr, -⟩ := HIN.out.rt.at_ hx
                  rw [hra] at g4
                  have HX2 := Lib.hid (HX1.out j hx)
                  rw [List.getElem?_eq_getElem hx, Option.map_some, Option.getD_some] at hzk
                  obtain ⟨x, hxe⟩ : ∃ x, s.right[j] = x := ⟨_, rfl⟩
                  rw [hxe] at HX2 hcr hzk
                  obtain ⟨bb, ob, hba, hbb, hcy, -⟩ := HIN.out.bs.at_ hy
                  rw [hba] at g5
                  have HY2 := Lib.hid (HB1.out j hy)
                  rw [List.getElem?_eq_getElem hy, Option.map_some, Option.getD_some] at hzk
                  obtain ⟨y, hye⟩ : ∃ y, s.blocks[j] = y := ⟨_, rfl⟩
                  rw [hye] at HY2 hcy hzk
                  have hbb2 : bb < base := by omega
                  have y0 : wr.cell? ⟨bb, ob + j, none⟩ = some (.slice y.a y.l.length y.c) := ((still_of HK2.out.below (Nat.le_refl _)).cell hbb2).trans hcy
                  have hz3 : (zipP (s.right.take (j + 1)) (s.blocks.take (j + 1))).flatMap gP = (zipP (s.right.take j) (s.blocks.take j)).flatMap gP ++ (gA x ++ gB y) := by rw [hzk, List.flatMap_append]; simp [HPA.out, HPB.out]
                  have hql := HLZ.out (j + 1)
                  rw [hz3, List.length_append] at hql
                  obtain ⟨Q, hQ⟩ : ∃ Q, Pk ++ LA ++ (zipP (s.right.take j) (s.blocks.take j)).flatMap gP = Q := ⟨_, rfl⟩
                  have hQl : Q.length + (gA x ++ gB y).length ≤ 2000000 := by rw [← hQ]; simp only [List.length_append] at hql ⊢; omega
                  have HZ : Hid (Pk ++ LA ++ (zipP (s.right.take (j + 1)) (s.blocks.take (j + 1))).flatMap gP = Q ++ (gA x ++ gB y)) := by show _ = _; rw [hz3, ← hQ]; simp only [List.append_assoc]
                  rw [hQ] at HV2
                  have hl5 : Q.length + (gA x).length ≤ 2000000 := by simp only [List.length_append] at hQl; omega
                  have hl6 : (Q ++ gA x).length + (gB y).length ≤ 2000000 := by simp only [List.length_append] at hQl ⊢; omega
                  have hra2 := Lib.hid hra
                  have hba2 := Lib.hid hba
                  clear hzk hz3 hql hQ hQl hra hxe hcr hba hye hcy
                  go_wp2_with (first | (go_at_call 54; (with_reducible refine (HX2.out _ Q _ br or_ _ HV2.out HK2.out hra2.out ?_ ?_ hl5).mono ?_); (focus omega); (focus omega); rintro e w5 ⟨v5, rfl, hO5, hK5⟩; have HO5 := Lib.hid hO5; have HB5 := (HB3.kx hK5); have HK5 : Hid (KX base w w5) := HK2.out.trans hK5; have y1 : w5.cell? ⟨bb, ob + j, none⟩ = some (.slice y.a y.l.length y.c) := ((still_of hK5.below (Nat.le_refl _)).cell hbb2).trans y0; clear hO5 hK5; obtain ⟨h0, h1, h2, h3, h4, h5, h6⟩ := HB5.cells; have hz5 := cell_lt h0; rw [hba2.out] at h5) | (go_at_call 39; (with_reducible refine (HY2.out _ (Q ++ gA x) _ HO5.out HK5.out hl6).mono ?_); rintro e w6 ⟨v6, rfl, hO6, hK6⟩))
                  refine ⟨⟨j + 1, by omega, by go_num, (show OX _ _ _ _ from hO6.eq (by rw [HZ.out, List.append_assoc])), HK5.out.trans hK6, HB5.kx hK6⟩, by simp [intOf]; omega⟩
                · have hzk := zipP_succ s.right s.blocks j
                  rw [List.getElem?_eq_none (by omega), Option.map_none, Option.getD_none] at hzk
                  obtain ⟨bb, ob, hba, hbb, hcy, -⟩ := HIN.out.bs.at_ hy
                  rw [hba] at g5
                  have HY2 := Lib.hid (HB1.out j hy)
                  rw [List.getElem?_eq_getElem hy, Option.map_some, Option.getD_some] at hzk
                  obtain ⟨y, hye⟩ : ∃ y, s.blocks[j] = y := ⟨_, rfl⟩
                  rw [hye] at HY2 hcy hzk
                  have hbb2 : bb < base := by omega
                  have y0 : wr.cell? ⟨bb, ob + j, none⟩ = some (.slice y.a y.l.length y.c) := ((still_of HK2.out.below (Nat.le_refl _)).cell hbb2).trans hcy
                  have hz3 : (zipP (s.right.take (j + 1)) (s.blocks.take (j + 1))).flatMap gP = (zipP (s.right.take j) (s.blocks.take j)).flatMap gP ++ (gB y) := by rw [hzk, List.flatMap_append]; simp [HPB.out]
                  have hql := HLZ.out (j + 1)
                  rw [hz3, List.length_append] at hql
                  obtain ⟨Q, hQ⟩ : ∃ Q, Pk ++ LA ++ (zipP (s.right.take j) (s.blocks.take j)).flatMap gP = Q := ⟨_, rfl⟩
                  have hQl : Q.length + (gB y).length ≤ 2000000 := by rw [← hQ]; simp only [List.length_append] at hql ⊢; omega
                  have HZ : Hid (Pk ++ LA ++ (zipP (s.right.take (j + 1)) (s.blocks.take (j + 1))).flatMap gP = Q ++ (gB y)) := by show _ = _; rw [hz3, ← hQ]; simp only [List.append_assoc]
                  rw [hQ] at HV2
                  have hl6 : Q.length + (gB y).length ≤ 2000000 := hQl
                  clear hzk hz3 hql hQ hQl hba hye hcy
                  go_wp2_with ((go_at_call 39; (with_reducible refine (HY2.out _ Q _ HV2.out HK2.out hl6).mono ?_); rintro e w6 ⟨v6, rfl, hO6, hK6⟩))
                  refine ⟨⟨j + 1, by omega, by go_num, (show OX _ _ _ _ from hO6.eq (by rw [HZ.out])), HK2.out.trans hK6, HB3.kx hK6⟩, by simp [intOf]; omega⟩
              · obtain rfl : j = max s.right.length s.blocks.length := by omega
                have hzt := zipP_take s.right s.blocks (max s.right.length s.blocks.length) (by omega) (by omega)
                rw [hzt] at HV2
                clear hzt
                go_wp2_with fail
                refine ⟨⟨k + 1, by omega, by go_num, (show OX _ _ _ _ from HV2.out.eq (by rw [HS.out, HGS.out]; simp only [List.append_assoc])), HK2.out⟩, by simp [intOf]; omega⟩
          · have hgs := H8.out s h8
            rw [hLA] at hgs
            have hll := HLs.out
            rw [hgs, List.length_append] at hll
            have hl1 : Pk.length + LA.length ≤ 2000000 := by omega
            have HLZ : Hid (∀ m, Pk.length + (LA.length + ((zipP (s.right.take m) (s.blocks.take m)).flatMap gP).length) ≤ 2000000) := fun m => by have := HZP.out m; omega
            have HGS := Lib.hid hgs
            clear hgs hll hLA h7 h8
            go_wp2_with ((go_at_call 54; (with_reducible refine (HXl.out _ Pk _ (HV.out.later (by (repeat' (first | (with_reducible exact Below.refl _ _) | (with_reducible assumption) | (with_reducible refine Below.alloc ?_ ?_ _) | (with_reducible refine below_drewN ?_ _) | (with_reducible refine Below.drew ?_) | (with_reducible refine Below.setCell ?_ ?_ _) | (with_reducible refine below_via (by assumption) ?_ ?_) | (with_reducible refine below_via (later_below _) ?_ ?_) | (with_reducible exact Nat.le_refl _) | omega | (simp; omega) | (simp; done))))) (HK.out.trans HKA.out) hl1).mono ?_); rintro e w2 ⟨v2, rfl, hO2, hK2⟩; have HO2 := Lib.hid hO2; have HB2 := (HBX.kx hK2); have HK2 : Hid (KX base w w2) := (HK.out.trans HKA.out).trans hK2; clear hO2 hK2; obtain ⟨b0, b1, b2, b3, b4, b5, b6⟩ := HB2.cells; have hz2 := cell_lt b0))
            go_loopw [0, 7] (fun v' i W => ∃ j : Nat, j ≤ max s.right.length s.blocks.length ∧ i = .int .i64 j ∧ Hid (OX base v' (Pk ++ LA ++ (zipP (s.right.take j) (s.blocks.take j)).flatMap gP) W) ∧ Hid (KX base w W) ∧ SBox W wr.heap.size s) (fun _ i _ => max s.right.length s.blocks.length - (intOf i).toNat)
            case atStart => exact ⟨0, Nat.zero_le _, rfl, (show OX _ _ _ _ from HO2.out.eq (by simp [zipP])), HK2.out, HB2⟩
            case round =>
              obtain ⟨j, hj, rfl, HV2, HK2, HB3⟩ := hrel
              clear b0 b1 b2 b3 b4 b5 b6
              obtain ⟨g0, g1, g2, g3, g4, g5, g6⟩ := HB3.cells
              have hz4 := cell_lt g0
              by_cases hx : j < s.right.length
              · by_cases hy : j < s.blocks.length
                · have hzk := zipP_succ s.right s.blocks j
                  obtain ⟨br, or_, hra, hbr, hcr, -⟩ := HIN.out.rt.at_ hx
                  rw [hra] at g4
                  have HX2 := Lib.hid (HX1.out j hx)
                  rw [List.getElem?_eq_getElem hx, Option.map_some, Option.getD_some] at hzk
                  obtain ⟨x, hxe⟩ : ∃ x, s.right[j] = x := ⟨_, rfl⟩
                  rw [hxe] at HX2 hcr hzk
                  obtain ⟨bb, ob, hba, hbb, hcy, -⟩ := HIN.out.bs.at_ hy
                  rw [hba] at g5
                  have HY2 := Lib.hid (HB1.out j hy)
                  rw [List.getElem?_eq_getElem hy, Option.map_some, Option.getD_some] at hzk
                  obtain ⟨y, hye⟩ : ∃ y, s.blocks[j] = y := ⟨_, rfl⟩
                  rw [hye] at HY2 hcy hzk
                  have hbb2 : bb < base := by omega
                  have y0 : wr.cell? ⟨bb, ob + j, none⟩ = some (.slice y.a y.l.length y.c) := ((still_of HK2.out.below (Nat.le_refl _)).cell hbb2).trans hcy
                  have hz3 : (zipP (s.right.take (j + 1)) (s.blocks.take (j + 1))).flatMap gP = (zipP (s.right.take j) (s.blocks.take j)).flatMap gP ++ (gA x ++ gB y) := by rw [hzk, List.flatMap_append]; simp [HPA.out, HPB.out]
                  have hql := HLZ.out (j + 1)
                  rw [hz3, List.length_append] at hql
                  obtain ⟨Q, hQ⟩ : ∃ Q, Pk ++ LA ++ (zipP (s.right.take j) (s.blocks.take j)).flatMap gP = Q := ⟨_, rfl⟩
                  have hQl : Q.length + (gA x ++ gB y).length ≤ 2000000 := by rw [← hQ]; simp only [List.length_append] at hql ⊢; omega
                  have HZ : Hid (Pk ++ LA ++ (zipP (s.right.take (j + 1)) (s.blocks.take (j + 1))).flatMap gP = Q ++ (gA x ++ gB y)) := by show _ = _; rw [hz3, ← hQ]; simp only [List.append_assoc]
                  rw [hQ] at HV2
                  have hl5 : Q.length + (gA x).length ≤ 2000000 := by simp only [List.length_append] at hQl; omega
                  have hl6 : (Q ++ gA x).length + (gB y).length ≤ 2000000 := by simp only [List.length_append] at hQl ⊢; omega
                  have hra2 := Lib.hid hra
                  have hba2 := Lib.hid hba
                  clear hzk hz3 hql hQ hQl hra hxe hcr hba hye hcy
                  go_wp2_with (first | (go_at_call 54; (with_reducible refine (HX2.out _ Q _ br or_ _ HV2.out HK2.out hra2.out ?_ ?_ hl5).mono ?_); (focus omega); (focus omega); rintro e w5 ⟨v5, rfl, hO5, hK5⟩; have HO5 := Lib.hid hO5; have HB5 := (HB3.kx hK5); have HK5 : Hid (KX base w w5) := HK2.out.trans hK5; have y1 : w5.cell? ⟨bb, ob + j, none⟩ = some (.slice y.a y.l.length y.c) := ((still_of hK5.below (Nat.le_refl _)).cell hbb2).trans y0; clear hO5 hK5; obtain ⟨h0, h1, h2, h3, h4, h5, h6⟩ := HB5.cells; have hz5 := cell_lt h0; rw [hba2.out] at h5) | (go_at_call 39; (with_reducible refine (HY2.out _ (Q ++ gA x) _ HO5.out HK5.out hl6).mono ?_); rintro e w6 ⟨v6, rfl, hO6, hK6⟩))
                  refine ⟨⟨j + 1, by omega, by go_num, (show OX _ _ _ _ from hO6.eq (by rw [HZ.out, List.append_assoc])), HK5.out.trans hK6, HB5.kx hK6⟩, by simp [intOf]; omega⟩
                · have hzk := zipP_succ s.right s.blocks j
                  obtain ⟨br, or_, hra, hbr, hcr, -⟩ := HIN.out.rt.at_ hx
                  rw [hra] at g4
                  have HX2 := Lib.hid (HX1.out j hx)
                  rw [List.getElem?_eq_getElem hx, Option.map_some, Option.getD_some] at hzk
                  obtain ⟨x, hxe⟩ : ∃ x, s.right[j] = x := ⟨_, rfl⟩
                  rw [hxe] at HX2 hcr hzk
                  rw [List.getElem?_eq_none (by omega), Option.map_none, Option.getD_none] at hzk
                  have hz3 : (zipP (s.right.take (j + 1)) (s.blocks.take (j + 1))).flatMap gP = (zipP (s.right.take j) (s.blocks.take j)).flatMap gP ++ (gA x) := by rw [hzk, List.flatMap_append]; simp [HPA.out]
                  have hql := HLZ.out (j + 1)
                  rw [hz3, List.length_append] at hql
                  obtain ⟨Q, hQ⟩ : ∃ Q, Pk ++ LA ++ (zipP (s.right.take j) (s.blocks.take j)).flatMap gP = Q := ⟨_, rfl⟩
                  have hQl : Q.length + (gA x).length ≤ 2000000 := by rw [← hQ]; simp only [List.length_append] at hql ⊢; omega
                  have HZ : Hid (Pk ++ LA ++ (zipP (s.right.take (j + 1)) (s.blocks.take (j + 1))).flatMap gP = Q ++ (gA x)) := by show _ = _; rw [hz3, ← hQ]; simp only [List.append_assoc]
                  rw [hQ] at HV2
                  have hl5 : Q.length + (gA x).length ≤ 2000000 := hQl
                  have hra2 := Lib.hid hra
                  clear hzk hz3 hql hQ hQl hra hxe hcr
                  go_wp2_with ((go_at_call 54; (with_reducible refine (HX2.out _ Q _ br or_ _ HV2.out HK2.out hra2.out ?_ ?_ hl5).mono ?_); (focus omega); (focus omega); rintro e w5 ⟨v5, rfl, hO5, hK5⟩; have HO5 := Lib.hid hO5; have HB5 := (HB3.kx hK5); have HK5 : Hid (KX base w w5) := HK2.out.trans hK5; clear hO5 hK5; obtain ⟨h0, h1, h2, h3, h4, h5, h6⟩ := HB5.cells; have hz5 := cell_lt h0))
                  refine ⟨⟨j + 1, by omega, by go_num, (show OX _ _ _ _ from HO5.out.eq (by rw [HZ.out])), HK5.out, HB5⟩, by simp [intOf]; omega⟩
              · obtain rfl : j = max s.right.length s.blocks.length := by omega
                have hzt := zipP_take s.right s.blocks (max s.right.length s.blocks.length) (by omega) (by omega)
                rw [hzt] at HV2
                clear hzt
                go_wp2_with fail
                refine ⟨⟨k + 1, by omega, by go_num, (show OX _ _ _ _ from HV2.out.eq (by rw [HS.out, HGS.out]; simp only [List.append_assoc])), HK2.out⟩, by simp [intOf]; omega⟩
        · have t8 : (s.k == 8) = false := by simpa using h8
          have t8' : (s.k != 8) = true := by simpa using h8
          obtain ⟨LB, hLB⟩ : ∃ q, s.right.flatMap gA = q := ⟨_, rfl⟩
          obtain ⟨LC, hLC⟩ : ∃ q, s.blocks.flatMap gB = q := ⟨_, rfl⟩
          rw [hLB] at HXr
          rw [hLC] at HXb
          have hgs := H9.out s h7 h8
          rw [hLA, hLB, hLC] at hgs
          have hll := HLs.out
          rw [hgs, List.length_append, List.length_append] at hll
          have hl1 : Pk.length + LA.length ≤ 2000000 := by omega
          have hl2 : (Pk ++ LA).length + LB.length ≤ 2000000 := by rw [List.length_append]; omega
          have hl3 : (Pk ++ LA ++ LB).length + LC.length ≤ 2000000 := by rw [List.length_append, List.length_append]; omega
          have HGS := Lib.hid hgs
          clear hgs hll hLA hLB hLC h7 h8
          go_wp2_with (first | (go_at_call 54; (with_reducible refine (HXl.out _ Pk _ (HV.out.later (by (repeat' (first | (with_reducible exact Below.refl _ _) | (with_reducible assumption) | (with_reducible refine Below.alloc ?_ ?_ _) | (with_reducible refine below_drewN ?_ _) | (with_reducible refine Below.drew ?_) | (with_reducible refine Below.setCell ?_ ?_ _) | (with_reducible refine below_via (by assumption) ?_ ?_) | (with_reducible refine below_via (later_below _) ?_ ?_) | (with_reducible exact Nat.le_refl _) | omega | (simp; omega) | (simp; done))))) (HK.out.trans HKA.out) hl1).mono ?_); rintro e w2 ⟨v2, rfl, hO2, hK2⟩; have HO2 := Lib.hid hO2; have HB2 := (HBX.kx hK2); have HK2 : Hid (KX base w w2) := (HK.out.trans HKA.out).trans hK2; clear hO2 hK2; obtain ⟨b0, b1, b2, b3, b4, b5, b6⟩ := HB2.cells; have hz2 := cell_lt b0) | (go_at_call 54; (with_reducible refine (HXr.out _ (Pk ++ LA) _ HO2.out HK2.out hl2).mono ?_); rintro e w3 ⟨v3, rfl, hO3, hK3⟩; have HO3 := Lib.hid hO3; have HB3 := (HB2.kx hK3); have HK3 : Hid (KX base w w3) := HK2.out.trans hK3; clear hO3 hK3; obtain ⟨f0, f1, f2, f3, f4, f5, f6⟩ := HB3.cells; have hz3 := cell_lt f0) | (go_at_call 55; (with_reducible refine (HXb.out _ (Pk ++ LA ++ LB) _ HO3.out HK3.out hl3).mono ?_); rintro e w4 ⟨v4, rfl, hO4, hK4⟩; have HO4 := Lib.hid hO4; have HB4 := (HB3.kx hK4); have HK4 : Hid (KX base w w4) := HK3.out.trans hK4; clear hO4 hK4))
          refine ⟨⟨k + 1, by omega, by go_num, (show OX _ _ _ _ from HO4.out.eq (by rw [HS.out, HGS.out]; simp only [List.append_assoc])), HK4.out⟩, by simp [intOf]; omega⟩
    · obtain rfl : k = l.length := by omega
      rw [List.take_length] at HV
      go_wp2_with fail
      go_returns
      exact ⟨_, rfl, HV.out, HK.out⟩

set_option maxHeartbeats 1600000 in
theorem rex_nil (base : Nat) (v : Value) (o : List TX) (a : Option Addr) (c : Nat) (w : World) (N : Nat) (hO : OX base v o w) (hok : XsOk w N a c []) :
    Calls Try.prog 54 #[v, .slice a 0 c] w fun e w' => ∃ v', e = .returned v' ∧ OX base v' (o ++ []) w' ∧ KX base w w' := by
  have HO0 := Lib.hid hO
  clear hok hO
  go_enter Try.func54, Try.ntmps54
  go_wp2_with fail
  go_loopw [0, 5] (fun v' i wr => v' = v ∧ i = .int .i64 0 ∧ wr = w) (fun _ _ _ => 0)
  case atStart => exact ⟨rfl, rfl, rfl⟩
  case round =>
    obtain ⟨rfl, rfl, rfl⟩ := hrel
    go_wp2_with fail
    go_returns
    exact ⟨_, rfl, (show OX _ _ _ _ from HO0.out.eq (by simp)), KX.refl _ _⟩
theorem re_all : ∀ n, REx n ∧ RBk n
  | 0 => ⟨fun l hrk base v o a c w N hO hok hN hlen => by
      cases l with
      | nil => exact rex_nil base v o a c w N hO hok
      | cons x l => exact absurd (hrk x List.mem_cons_self) (by omega), fun _ h => by omega⟩
  | n + 1 => have ih := re_all n; ⟨rex_step n ih.1 ih.2, rbk_step n ih.1 (rbs_step n ih.2) ih.2⟩
end Go.Proofs.Ythkpggpnbdedjaa

/- The reference's Each and Multi; how many expressions a tree shows, and that they lie in memory. -/
namespace Go.Proofs.Ythkpggpnbdedjaa
open Go.RowKit Go.Instr
set_option linter.unusedVariables false

theorem flat_len_le {α : Type} (f : α → List TX) (r : α → Nat) : ∀ l : List α, (∀ x ∈ l, (f x).length ≤ r x) → (l.flatMap f).length ≤ (l.map r).sum
  | [], _ => Nat.le_refl _
  | x :: l, h => by
    rw [List.flatMap_cons, List.length_append, List.map_cons, List.sum_cons]
    have h1 := h x List.mem_cons_self
    have h2 := flat_len_le f r l (fun y hy => h y (List.mem_cons_of_mem _ hy))
    omega
def rkPt : TX ⊕ TB → Nat
  | .inl x => rkX x
  | .inr y => rkB y
theorem zipP_rk : ∀ (r : List TX) (b : List TB), ((zipP r b).map rkPt).sum = rkXs r + rkBs b
  | [], b => by
    show ((b.map Sum.inr).map rkPt).sum = 0 + rkBs b
    rw [List.map_map, ← rkBs_sum, Nat.zero_add]
    rfl
  | x :: r, [] => by
    show (((x :: r).map Sum.inl).map rkPt).sum = rkXs (x :: r) + 0
    rw [List.map_map, ← rkXs_sum, Nat.add_zero]
    rfl
  | x :: r, y :: b => by
    show rkX x + (rkB y + ((zipP r b).map rkPt).sum) = (rkX x + rkXs r) + (rkB y + rkBs b)
    rw [zipP_rk r b]
    omega
theorem parts_rk (s : TS) : ((partsS s).map rkPt).sum ≤ rkS s := by
  have hx : ∀ l : List TX, ((l.map (Sum.inl : TX → TX ⊕ TB)).map rkPt).sum = rkXs l := fun l => by rw [List.map_map, ← rkXs_sum]; rfl
  have hb : ∀ l : List TB, ((l.map (Sum.inr : TB → TX ⊕ TB)).map rkPt).sum = rkBs l := fun l => by rw [List.map_map, ← rkBs_sum]; rfl
  rw [rkS_eq]
  unfold partsS
  rw [List.map_append, List.sum_append, hx]
  split
  · rw [List.map_append, List.sum_append, hx, hb]; omega
  · split
    · rw [zipP_rk]; omega
    · rw [List.map_append, List.sum_append, hx, hb]; omega
theorem exP_len : ∀ n p, (exP n p).length ≤ rkPt p
  | 0, _ => Nat.zero_le _
  | n + 1, .inl x => by
    rw [exP_x, List.length_cons, List.length_append]
    have h1 := flat_len_le (fun y => exP n (.inl y)) rkX x.args (fun y _ => exP_len n (.inl y))
    have h2 := flat_len_le (fun f => exP n (.inr ⟨f.bA, f.bC, f.body⟩)) rkF x.funcs (fun f _ => by
      have h := exP_len n (.inr ⟨f.bA, f.bC, f.body⟩)
      rw [rkF_eq]
      have e : rkPt (.inr ⟨f.bA, f.bC, f.body⟩) = 1 + rkSs f.body := rkB_eq _
      omega)
    rw [rkXs_sum] at h1
    rw [rkFs_sum] at h2
    show _ ≤ rkX x
    rw [rkX_eq]
    omega
  | n + 1, .inr y => by
    rw [exP_b]
    have h1 := flat_len_le (fun s => (partsS s).flatMap (exP n)) rkS y.l (fun s _ => Nat.le_trans (flat_len_le (exP n) rkPt (partsS s) (fun p _ => exP_len n p)) (parts_rk s))
    rw [rkSs_sum] at h1
    show _ ≤ rkB y
    rw [rkB_eq]
    omega
theorem exsB_len (y : TB) : (exsB y).length ≤ rkB y := exP_len _ (.inr y)

/-- A part lies in memory. -/
def InPt (w : World) (N : Nat) : TX ⊕ TB → Prop
  | .inl x => InX w N x
  | .inr y => InB w N y
theorem zipP_mem : ∀ (r : List TX) (b : List TB) p, p ∈ zipP r b → (∃ x ∈ r, p = .inl x) ∨ ∃ y ∈ b, p = .inr y
  | [], b, p, h => by obtain ⟨y, hy, rfl⟩ := List.mem_map.1 h; exact .inr ⟨y, hy, rfl⟩
  | x :: r, [], p, h => by obtain ⟨y, hy, rfl⟩ := List.mem_map.1 h; exact .inl ⟨y, hy, rfl⟩
  | x :: r, y :: b, p, h => by
    rcases List.mem_cons.1 h with rfl | h
    · exact .inl ⟨x, List.mem_cons_self, rfl⟩
    · rcases List.mem_cons.1 h with rfl | h
      · exact .inr ⟨y, List.mem_cons_self, rfl⟩
      · rcases zipP_mem r b p h with ⟨z, hz, e⟩ | ⟨z, hz, e⟩
        · exact .inl ⟨z, List.mem_cons_of_mem _ hz, e⟩
        · exact .inr ⟨z, List.mem_cons_of_mem _ hz, e⟩
theorem parts_mem {s : TS} {p : TX ⊕ TB} (h : p ∈ partsS s) : (∃ x, (x ∈ s.left ∨ x ∈ s.right) ∧ p = .inl x) ∨ ∃ y ∈ s.blocks, p = .inr y := by
  unfold partsS at h
  rcases List.mem_append.1 h with h | h
  · obtain ⟨y, hy, rfl⟩ := List.mem_map.1 h; exact .inl ⟨y, .inl hy, rfl⟩
  · split at h
    · rcases List.mem_append.1 h with h | h
      · obtain ⟨y, hy, rfl⟩ := List.mem_map.1 h; exact .inr ⟨y, hy, rfl⟩
      · obtain ⟨y, hy, rfl⟩ := List.mem_map.1 h; exact .inl ⟨y, .inr hy, rfl⟩
    · split at h
      · rcases zipP_mem _ _ _ h with ⟨y, hy, rfl⟩ | ⟨y, hy, rfl⟩
        · exact .inl ⟨y, .inr hy, rfl⟩
        · exact .inr ⟨y, hy, rfl⟩
      · rcases List.mem_append.1 h with h | h
        · obtain ⟨y, hy, rfl⟩ := List.mem_map.1 h; exact .inl ⟨y, .inr hy, rfl⟩
        · obtain ⟨y, hy, rfl⟩ := List.mem_map.1 h; exact .inr ⟨y, hy, rfl⟩
theorem parts_in {w : World} {N : Nat} {s : TS} (hin : InS w N s) : ∀ p ∈ partsS s, InPt w N p := by
  intro p hp
  rcases parts_mem hp with ⟨x, hx, rfl⟩ | ⟨y, hy, rfl⟩
  · rcases hx with hx | hx
    · exact (inXs_iff _).1 hin.lf.2.2 x hx
    · exact (inXs_iff _).1 hin.rt.2.2 x hx
  · exact (inBs_iff _).1 hin.bs.2.2 y hy
theorem ex_in {w : World} {N : Nat} : ∀ n p, InPt w N p → ∀ x ∈ exP n p, InX w N x
  | 0, _, _, x, h => by cases h
  | n + 1, .inl y, hy, x, h => by
    have hy : InX w N y := hy
    rw [exP_x] at h
    rcases List.mem_cons.1 h with rfl | h
    · exact hy
    · rcases List.mem_append.1 h with h | h
      · obtain ⟨z, hz, h⟩ := List.mem_flatMap.1 h
        exact ex_in n (.inl z) ((inXs_iff _).1 hy.xs.2.2 z hz) x h
      · obtain ⟨z, hz, h⟩ := List.mem_flatMap.1 h
        have hf := (inFs_iff _).1 hy.fs.2.2 z hz
        exact ex_in n (.inr ⟨z.bA, z.bC, z.body⟩) ((inB_iff _).2 ⟨⟨hf.ss.1, hf.ss.2.1⟩, hf.ss.2.2⟩) x h
  | n + 1, .inr y, hy, x, h => by
    have hy : InB w N y := hy
    rw [exP_b] at h
    obtain ⟨s, hs, h⟩ := List.mem_flatMap.1 h
    obtain ⟨p, hp, h⟩ := List.mem_flatMap.1 h
    exact ex_in n p (parts_in ((inSs_iff _).1 hy.ss.2.2 s hs) p hp) x h
theorem exsB_in {w : World} {N : Nat} {y : TB} (h : InB w N y) : ∀ x ∈ exsB y, InX w N x := ex_in _ (.inr y) h

/-- The reference's Each. -/
theorem reach_any (y : TB) (w : World) (hin : InB w w.heap.size y) (hrk : rkB y ≤ 2000000) : Calls Try.prog 15 #[y.v] w fun e w' => ∃ v, e = .returned v ∧ OX w.heap.size v (exsB y) w' ∧ Below w.heap.size w w' := by
  have H := Lib.hid ((re_all (rkB y + 1)).2 y (by omega) w.heap.size (.slice none 0 0) [] w w.heap.size (OX.nil w _ (Nat.le_refl _)) hin (Nat.le_refl _) (by have := exP_len (rkB y + 1) (.inr y); show 0 + _ ≤ _; have e : rkPt (.inr y) = rkB y := rfl; omega))
  obtain ⟨l, hl⟩ : ∃ l, exsB y = l := ⟨_, rfl⟩
  rw [← exsB_exP, hl, List.nil_append] at H
  rw [hl]
  clear hin hrk hl
  go_enter Try.func15, Try.ntmps15
  go_wp2_with (go_at_call 39; (with_reducible refine H.out.mono ?_); rintro e w1 ⟨v, rfl, h1, h2⟩)
  go_returns
  exact ⟨_, rfl, h1, h2.below⟩
theorem rmulti_any (x : TX) (w : World) : Calls Try.prog 18 #[x.v] w fun e w' => e = .returned (.bool (multiB x)) ∧ Below w.heap.size w w' := by
  unfold multiB
  cases h1 : (x.k == 9)
  · cases h2 : (x.k == 10)
    · go_enter Try.func18, Try.ntmps18
      go_wp2_with fail
      go_returns
      exact ⟨rfl, by (repeat' (first | (with_reducible exact Below.refl _ _) | (with_reducible assumption) | (with_reducible refine Below.alloc ?_ ?_ _) | (with_reducible refine below_drewN ?_ _) | (with_reducible refine Below.drew ?_) | (with_reducible refine Below.setCell ?_ ?_ _) | (with_reducible refine below_via (by assumption) ?_ ?_) | (with_reducible refine below_via (later_below _) ?_ ?_) | (with_reducible exact Nat.le_refl _) | omega | (simp; omega) | (simp; done)))⟩
    · go_enter Try.func18, Try.ntmps18
      go_wp2_with fail
      go_returns
      exact ⟨rfl, by (repeat' (first | (with_reducible exact Below.refl _ _) | (with_reducible assumption) | (with_reducible refine Below.alloc ?_ ?_ _) | (with_reducible refine below_drewN ?_ _) | (with_reducible refine Below.drew ?_) | (with_reducible refine Below.setCell ?_ ?_ _) | (with_reducible refine below_via (by assumption) ?_ ?_) | (with_reducible refine below_via (later_below _) ?_ ?_) | (with_reducible exact Nat.le_refl _) | omega | (simp; omega) | (simp; done)))⟩
  · go_enter Try.func18, Try.ntmps18
    go_wp2_with fail
    go_returns
    exact ⟨rfl, by (repeat' (first | (with_reducible exact Below.refl _ _) | (with_reducible assumption) | (with_reducible refine Below.alloc ?_ ?_ _) | (with_reducible refine below_drewN ?_ _) | (with_reducible refine Below.drew ?_) | (with_reducible refine Below.setCell ?_ ?_ _) | (with_reducible refine below_via (by assumption) ?_ ?_) | (with_reducible refine below_via (later_below _) ?_ ?_) | (with_reducible exact Nat.le_refl _) | omega | (simp; omega) | (simp; done)))⟩
end Go.Proofs.Ythkpggpnbdedjaa
