/- The program's Funcs: the chunk itself, then the functions of every expression, in the order of the text. -/
import Derived.Test.YthkpggpnbdedjaaMTrFun
import Derived.Test.YthkpggpnbdedjaaMTrRe
import Derived.RangeFuncBox
namespace Go.Proofs.Ythkpggpnbdedjaa
open Go.RowKit Go.Instr Go.Shelf
set_option linter.unusedVariables false
attribute [local go_sem] Oper.semAt_some

/-- 'append(s, nil...)' in a round. -/
theorem wpListIn_append_none {F : Fence} {n : Nat} {P : Program} {w : World} {ops : Array Oper} {rest : List Oper} {o : Oper} {a : Act} {Q : Exit → Act → World → Prop} (hgd : o.guard = none) (s x : Operand) (t : TypeId)
    (ho : o.op = .call { callee := .builtin .append, args := #[s, x], argTypes := #[t, t] })
    (base : Nat) (e : TypeId) (i : TypeInfo) (size : Nat) (ht : P.underlying t = some (.slice e)) (hi : P.info? e = some i)
    (v : Value) (k : Nat) (xs : List Value) (hs : a.eval s = v) (hown : w.ownsRow base e size v k xs) (hx : a.eval x = .slice none 0 0)
    (h : wpListIn F n P ops Q rest (a.put o.dst v) w) : wpListIn F n P ops Q (o :: rest) a w := by
  refine wpListIn_plain hgd fun K hK => ?_
  have hrun := run_append_owned_none (P := P) (w := w) base t o.type e i size ht hi v k xs hown
  unfold Oper.wpIn
  refine ⟨by simp [Oper.about, ho, resolve, Target.leads, Sem.run_pure], ?_⟩
  rw [Oper.semAt_plain F _ _ (by rw [ho]; intro c hc'; cases hc')]
  simp [execOp, ho, resolve, invoke, builtin, hs, hx, hrun, Result.andThen]
  exact hK _ _ h

theorem afun_info : (Try.prog.info? 42).map (fun i => (i.zero, i.size, i.bytes)) = some (some (.agg #[.string ⟨#[]⟩, .slice none 0 0, .bool false, .slice none 0 0, .int .i64 0]), 5, 80) := by kernel_rfl
def fcells (x : TF) : List Value := [.string x.name, .slice x.pA x.params.length x.pC, .bool x.va, .slice x.bA x.body.length x.bC, .int .i64 x.ln]
def fsC (l : List TF) : List Value := l.flatMap fcells
theorem fsC_app (l m : List TF) : fsC (l ++ m) = fsC l ++ fsC m := by unfold fsC; simp
theorem fsC_len : ∀ l : List TF, (fsC l).length = l.length * 5
  | [] => rfl
  | v :: l => by
    show (fcells v ++ fsC l).length = _
    rw [List.length_append, fsC_len l]
    simp [fcells]; omega
theorem fsC_get : ∀ (l : List TF) (i : Nat) (h : i < l.length) (j : Nat), j < 5 → (fsC l)[i * 5 + j]? = (fcells l[i])[j]?
  | [], i, h, _, _ => by cases h
  | x :: l, 0, _, j, hj => by
    show (fcells x ++ fsC l)[0 * 5 + j]? = _
    rw [Nat.zero_mul, Nat.zero_add, List.getElem?_append_left (by simpa [fcells] using hj)]; rfl
  | x :: l, i + 1, h, j, hj => by
    show (fcells x ++ fsC l)[(i + 1) * 5 + j]? = _
    rw [List.getElem?_append_right (by simp [fcells]; omega), show (i + 1) * 5 + j - (fcells x).length = i * 5 + j by simp [fcells]; omega]
    exact fsC_get l i (by simpa using h) j hj
theorem fsC_one (l : List TF) : ∀ u ∈ fsC l, u.oneCell' = true := by
  intro u h
  obtain ⟨x, -, h⟩ := List.mem_flatMap.1 h
  unfold fcells at h
  simp at h
  rcases h with rfl | rfl | rfl | rfl | rfl <;> rfl
theorem f5_at {w : World} {b o : Nat} {x : TF} (h : F5 w b o x) (j : Nat) (hj : j < 5) : w.cell? ⟨b, o + j, none⟩ = (fcells x)[j]? := by
  obtain ⟨h0, h1, h2, h3, h4⟩ := h
  have : j = 0 ∨ j = 1 ∨ j = 2 ∨ j = 3 ∨ j = 4 := by omega
  rcases this with rfl | rfl | rfl | rfl | rfl
  · exact h0
  · exact h1
  · exact h2
  · exact h3
  · exact h4
/-- The functions at a slice's address, cell by cell. -/
theorem fs_news {w : World} {N : Nat} {p : Addr} {l : List TF} (h : FsAt w N (some p) l) : ∀ (j : Nat) u, (fsC l)[j]? = some u → w.cell? (p.add j) = some u := by
  intro j u hj
  have hlt : j < (fsC l).length := (List.getElem?_eq_some_iff.1 hj).1
  rw [fsC_len] at hlt
  rcases h with h | ⟨b, o, h1, h2, h3⟩
  · omega
  · injection h1 with h1
    subst h1
    have hadd : (⟨b, o, none⟩ : Addr).add j = ⟨b, o + j, none⟩ := by unfold Addr.add; split <;> simp_all
    rw [hadd]
    have hi : j / 5 < l.length := by omega
    have := f5_at (h3 (j / 5) hi) (j % 5) (by omega)
    rw [show o + j / 5 * 5 + j % 5 = o + j by omega] at this
    rw [this, ← hj, ← fsC_get l (j / 5) hi (j % 5) (by omega), show j / 5 * 5 + j % 5 = j by omega]
/-- The chunk as a function. -/
abbrev mainF (y : TB) : TF := ⟨⟨#[109, 97, 105, 110]⟩, none, 0, [], true, y.a, y.c, y.l, 0⟩
def fnsB (y : TB) : List TF := mainF y :: (exsB y).flatMap TX.funcs
/-- What stands in the row, some expressions having come. -/
def fnsP {P : TX → Prop} (y : TB) (pre : List {x : TX // P x}) : List TF := mainF y :: (pre.map (fun x => x.1)).flatMap TX.funcs
theorem fnsP_snoc {P : TX → Prop} (y : TB) (pre : List {x : TX // P x}) (x : {x : TX // P x}) : fnsP y (pre ++ [x]) = fnsP y pre ++ x.1.funcs := by unfold fnsP; simp
theorem fnsP_len {P : TX → Prop} (hP : ∀ x, P x → x.funcs.length ≤ 1048576) (y : TB) : ∀ pre : List {x : TX // P x}, (fnsP y pre).length ≤ 1 + pre.length * 1048576 := by
  intro pre
  have h : ((pre.map (fun x => x.1)).flatMap TX.funcs).length ≤ pre.length * 1048576 := by
    induction pre with
    | nil => simp
    | cons a l ih =>
      rw [List.map_cons, List.flatMap_cons, List.length_append, List.length_cons]
      have := hP a.1 a.2
      omega
  show _ + 1 ≤ _
  omega
/-- A row of functions of one's own: what it keeps when it grows. -/
theorem kept_row {a b : Nat} {W w1 : World} {v : Value} {l : List TF} {y : TB} (hrow : W.ownsRow a 42 5 v (mainF y :: l).length (fsC (mainF y :: l))) (hg : W.grownBy w1 v.ownBlock) (ha : a ≤ W.heap.size) : Kept a b W w1 := by
  refine ⟨hg.os, hg.tape, hg.output, hg.size, fun g hga => hg.block g (by omega) (fun e => by have := (hrow.lt g e.symm).1; omega), fun g c t f _ hns hc => ?_⟩
  refine (hg.block g (Array.getElem?_eq_some_iff.1 hc).1 (fun e => ?_)).trans hc
  obtain ⟨-, ⟨h2, -⟩ | ⟨g2, cap, cur, hv, -, hh, hnc, -, hs, ht⟩⟩ := hrow
  · rw [h2] at e; cases e
  · rw [hv] at e
    have e : g = g2 := by simpa [Value.ownBlock] using e
    subst e
    rw [hh] at hc
    simp only [Option.some.injEq, Obj.cells.injEq] at hc
    obtain ⟨rfl, -, -⟩ := hc
    refine hns ⟨#[109, 97, 105, 110]⟩ ?_
    have h0 : (cur.toList.take ((mainF y :: l).length * 5))[0]? = some (.string ⟨#[109, 97, 105, 110]⟩) := by
      rw [ht]; rfl
    rw [List.getElem?_take] at h0
    simpa using h0
theorem ffacts {w0 W : World} {a : Nat} {x : TX} (h : X0 w0 a x) (hB : Below a w0 W) : FsAt W a x.fA x.funcs := h.fAt.still (f5_still (still_of hB (Nat.le_refl _))) (Nat.le_refl _)
set_option maxRecDepth 100000 in
set_option maxHeartbeats 8000000 in
theorem funcs_any (y : TB) (w : World) (hin : InB w w.heap.size y) (hrk : rkB y ≤ 1048576) (hfn : ∀ x ∈ exsB y, x.funcs.length ≤ 1048576) :
    Calls Try.prog 19 #[y.v] w fun e W' => ∃ B cap, e = .returned (.slice (some ⟨B, 0, none⟩) (fnsB y).length cap) ∧ (fnsB y).length ≤ cap ∧ w.heap.size ≤ B ∧ (∀ i, (hi : i < (fnsB y).length) → F5 W' B (i * 5) (fnsB y)[i]) ∧ Below w.heap.size w W' := by
  obtain ⟨i0, hi0, hz0, hz1, hz2⟩ := info_parts afun_info
  obtain ⟨ys, hys⟩ : ∃ ys : List {x : TX // x.funcs.length ≤ 1048576 ∧ X0 w w.heap.size x}, ys.map (fun x => x.1) = exsB y := ⟨(exsB y).attachWith _ (fun x hx => ⟨hfn x hx, ((inX_iff x).1 (exsB_in hin x hx)).1⟩), by simp⟩
  have hyl : ys.length ≤ 1048576 := by
    have h1 : ys.length = (exsB y).length := by rw [← hys, List.length_map]
    have h2 := exsB_len y
    omega
  have hfin : fnsP y ys = fnsB y := by unfold fnsP fnsB; rw [hys]
  have fr0 := fun n i (h : w.heap.size ≤ n) => frozen_out w n i h
  refine (callsIn_wide (n := 6)).1 ?_
  refine callsIn_of_wp_marks Try.func19 rfl trivial ?_ rfl
  simp only [Try.ntmps19, List.size_toArray, List.length_cons, List.length_nil, Nat.reduceAdd, Nat.reduceSub, Array.replicate_succ, Array.replicate_zero, List.push_toArray, List.append_toArray, List.nil_append, List.cons_append]
  gi_wp2_with (first | (refine ⟨trivial, ?_⟩; gi_at_call 14; refine (callsIn_wide.2 (each_any y _)).mono ?_; rintro e w' ⟨rfl, rfl⟩) | (gi_at_call 14; refine (callsIn_wide.2 (each_any y _)).mono ?_; rintro e w' ⟨rfl, rfl⟩))
  obtain ⟨W0, hW0⟩ : ∃ W0, (((w.alloc (.cells #[.string ⟨#[109, 97, 105, 110]⟩, .slice none 0 0, .bool true, y.v, .int .i64 0] 42)).alloc (.cells #[.slice (some ⟨w.heap.size, 0, none⟩) 1 1] 33)).alloc (.cells #[y.v] 22)) = W0 := ⟨_, rfl⟩
  have hs0 : W0.heap.size = w.heap.size + 3 := by rw [← hW0]; simp
  have hB0 : Below w.heap.size w W0 := by rw [← hW0]; (repeat' (first | (with_reducible exact Below.refl _ _) | (with_reducible assumption) | (with_reducible refine Below.alloc ?_ ?_ _) | (with_reducible refine below_drewN ?_ _) | (with_reducible refine Below.drew ?_) | (with_reducible refine Below.setCell ?_ ?_ _) | (with_reducible refine below_via (by assumption) ?_ ?_) | (with_reducible refine below_via (later_below _) ?_ ?_) | (with_reducible exact Nat.le_refl _) | omega | (simp; omega) | (simp; done)))
  have b0 : W0.heap[w.heap.size]? = some (.cells #[.string ⟨#[109, 97, 105, 110]⟩, .slice none 0 0, .bool true, y.v, .int .i64 0] 42 (0, 0)) := by
    have h1 := World.alloc_heap_new w (.cells #[.string ⟨#[109, 97, 105, 110]⟩, .slice none 0 0, .bool true, y.v, .int .i64 0] 42)
    rw [← hW0]
    exact (Below.heap_alloc _ _ _ (by simp; omega)).trans ((Below.heap_alloc _ _ _ (by simp)).trans h1)
  have b1 : Boxed W0 (w.heap.size + 1) 33 (.slice (some ⟨w.heap.size, 0, none⟩) 1 1) := by
    have h := Boxed.new (w.alloc (.cells #[.string ⟨#[109, 97, 105, 110]⟩, .slice none 0 0, .bool true, y.v, .int .i64 0] 42)) 33 (.slice (some ⟨w.heap.size, 0, none⟩) 1 1)
    rw [← hW0]
    rw [show w.heap.size + 1 = (w.alloc (.cells #[.string ⟨#[109, 97, 105, 110]⟩, .slice none 0 0, .bool true, y.v, .int .i64 0] 42)).heap.size by simp]
    exact h.alloc _
  have c2 : W0.cell? ⟨w.heap.size + 2, 0, none⟩ = some y.v := by rw [← hW0]; simp [cell_alloc_if]
  have r0 : W0.ownsRow w.heap.size 42 5 (.slice (some ⟨w.heap.size, 0, none⟩) 1 1) (fnsP y ([] : List {x : TX // x.funcs.length ≤ 1048576 ∧ X0 w w.heap.size x})).length (fsC (fnsP y ([] : List {x : TX // x.funcs.length ≤ 1048576 ∧ X0 w w.heap.size x}))) :=
    ⟨by rfl, .inr ⟨w.heap.size, 1, _, rfl, Nat.le_refl _, b0, Nat.le_refl _, by unfold maxLen; omega, by rfl, by rfl⟩⟩
  rw [hW0]
  refine wpIn_rangeFunc_ownH rfl (by decide) (gf := 37) (lb := #[.pointer (some ⟨w.heap.size + 1 + 1, 0, none⟩)]) rfl trivial (enters_of Try.func37 (by kernel_rfl) rfl)
    (each_stops 5 w.heap.size W0.heap.size (w.heap.size + 1 + 1) y ys hys (by omega) W0 (hin.still (still_of hB0 (Nat.le_refl _)) (Nat.le_refl _)) (Nat.le_refl _) c2) keptK_t (keptK_b (by omega)) (Below.refl _ _) (fun _ => rfl)
    (fun pre W => (∃ v, Boxed W (w.heap.size + 1) 33 v ∧ W.ownsRow w.heap.size 42 5 v (fnsP y pre).length (fsC (fnsP y pre)) ∧ True) ∧ Below w.heap.size w W)
    (fun _ _ _ => False)
    (OwnFrom.and (Own.from (holdsRow_own w.heap.size (w.heap.size + 1) 33 42 5 (fun pre => (fnsP y pre).length) (fun pre => fsC (fnsP y pre)) (fun _ _ => True)) _) (ownFrom_below (Nat.le_refl _) (by omega)))
    (fun _ _ _ _ _ hs _ _ => hs)
    ⟨⟨_, b1, r0, trivial⟩, hB0⟩
    (fun x a' W => ∃ Bx, w.heap.size + 1 < Bx ∧ XBox W Bx x.1 ∧ a' = { tmps := #[y.v, undef, .slice none 0 0, .pointer (some ⟨w.heap.size + 1, 0, none⟩), .pointer (some ⟨Bx, 0, none⟩), y.v, .agg #[.string ⟨#[109, 97, 105, 110]⟩, .slice none 0 0, .bool true, y.v, .int .i64 0], .slice (some ⟨w.heap.size, 0, none⟩) 1 1, y.v, .func (.func 37) #[] #[.pointer (some ⟨w.heap.size + 1 + 1, 0, none⟩)], x.1.v, undef, undef, undef, undef, undef], defers := [] })
    (fun x a' _ A B row hs hg hr => by
      obtain ⟨Bx, h1, h2, h3⟩ := hs
      exact ⟨Bx, h1, h2.kept hg (fun e => by obtain ⟨-, o, ho, hc⟩ := hr Bx e.symm; rw [show A.heap[Bx]? = _ from h2] at ho; cases ho; cases hc), h3⟩) ?assign ?body ?done ?stop
  case assign =>
    rintro l pre x W K ⟨⟨v, hv, hrow, -⟩, hB⟩ hK
    have hz := hB.size
    have hlt1 := hv.lt
    gi_wp2
    exact hK _ _ ((KeepsOthers.alloc _ _).from _) (kept_of ((Below.refl _ W).alloc (Nat.le_refl _) _) hz)
      ⟨⟨v, hv.alloc _, hrow.alloc _, trivial⟩, hB.alloc hz _⟩
      ⟨W.heap.size, hlt1, XBox.new W x.1, rfl⟩
  case body =>
    rintro l pre x a' W hl ⟨r, hr⟩ ⟨⟨v, hv, hrow, -⟩, hB⟩ ⟨Bx, hBx, bX, rfl⟩ hlt
    have hz := hB.size
    have hc1 := hv.cell
    have hf1 := hv.frozen
    obtain ⟨x0, x1, x2, x3, x4, x5, x6, x7⟩ := bX.cells
    have hlen := fnsP_len (fun x h => h.1) y pre
    have hx1 := x.2.1
    have hat := ffacts x.2.2 hB
    obtain ⟨hf2, hf3, hf4⟩ := x.2.2.fi
    have hsn := fnsP_snoc y pre x
    have hbnd : (fnsP y pre).length + x.1.funcs.length ≤ 1099511627777 := by
      have : pre.length + 1 ≤ 1048576 := by omega
      have : pre.length * 1048576 + 1048576 ≤ 1048576 * 1048576 := by omega
      omega
    have fin : ∀ v' w1, w1.ownsRow w.heap.size 42 5 v' (fnsP y (pre ++ [x])).length (fsC (fnsP y (pre ++ [x]))) → W.grownBy w1 v.ownBlock →
        Boxed w1 (w.heap.size + 1) 33 v ∧ (KeepsFrom W0.heap.size W (w1.setCell ⟨w.heap.size + 1, 0, none⟩ v') ∧ Kept w.heap.size W0.heap.size W (w1.setCell ⟨w.heap.size + 1, 0, none⟩ v') ∧
          (∃ v, Boxed (w1.setCell ⟨w.heap.size + 1, 0, none⟩ v') (w.heap.size + 1) 33 v ∧ (w1.setCell ⟨w.heap.size + 1, 0, none⟩ v').ownsRow w.heap.size 42 5 v (fnsP y (pre ++ [x])).length (fsC (fnsP y (pre ++ [x]))) ∧ True) ∧ Below w.heap.size w (w1.setCell ⟨w.heap.size + 1, 0, none⟩ v')) := by
      intro v' w1 hown hg
      have hv1 : Boxed w1 (w.heap.size + 1) 33 v := hv.kept hg (hv.not_row (by decide) hrow)
      refine ⟨hv1, ?_, (kept_row hrow hg hz).trans (kept_set _ _ (by omega) (by omega)), ⟨v', hv1.set v', hown.kept (grownBy_setCell' w1 _ v') (.inr (hv1.not_row (by decide) hown).symm), trivial⟩, (hB.grown hg hz (fun k e => (hrow.lt k e).1)).setCell (p := ⟨w.heap.size + 1, 0, none⟩) (by simp) _⟩
      refine ((KeepsOthers.of_grownBy hg fun j o ej hj => ?_).trans (KeepsOthers.setCell _ _ _)).from _
      rcases hrow.2 with ⟨rfl, _⟩ | ⟨g, cap, cur, rfl, _, hgb, _⟩
      · simp [Value.ownBlock] at ej
      · obtain rfl : g = j := by simpa [Value.ownBlock] using ej
        rw [hgb] at hj; cases hj; rfl
    have FIN := Lib.hid fin
    cases hfa : x.1.fA with
    | none =>
      have hC : x.1.fC = 0 := hf4 hfa
      have hL : x.1.funcs = [] := List.eq_nil_of_length_eq_zero (by omega)
      rw [hfa, hC, hL] at x7
      have hrow1 := hrow
      rw [show fnsP y pre = fnsP y (pre ++ [x]) by rw [hsn, hL, List.append_nil]] at hrow1
      obtain ⟨M, hM⟩ : ∃ M, (fnsP y pre).length = M + 1 := ⟨_, rfl⟩
      have hrow2 := hrow
      rw [hM] at hrow2
      obtain ⟨g, cap, hgv⟩ := ownsRow_succ hrow2
      obtain ⟨hv1, hend⟩ := FIN.out v W hrow1 ⟨rfl, rfl, rfl, Nat.le_refl _, fun _ _ _ => rfl⟩
      have HEND := Lib.hid hend
      clear hend fin FIN hv1 hM hrow2
      subst hgv
      have hXA : x.1.v = .agg #[.int .i64 x.1.k, .int .i64 x.1.op, .int .i64 x.1.ln, .int .i64 x.1.p, .int .i64 x.1.q, .string x.1.s, .slice x.1.aA x.1.args.length x.1.aC, .slice none 0 0] := by show Value.agg _ = _; rw [hfa, hC, hL]; rfl
      gi_wp2_with (gi_at_builtin; refine wpListIn_append_none rfl _ _ _ rfl w.heap.size 42 i0 5 Try.underlying33 hi0 _ _ _ rfl hrow rfl ?_)
      exact HEND.out
    | some p =>
      rw [hfa] at x7 hat
      obtain ⟨M2, hM2⟩ : ∃ M, (fnsP y (pre ++ [x])).length = M + 1 := ⟨_, rfl⟩
      clear fin
      gi_wp2_with (gi_at_builtin; refine wpListIn_append_own _ rfl _ _ _ rfl w.heap.size 42 i0 _ 5 80 Try.underlying33 hi0 hz0 hz1 hz2 rfl (by decide) v _ _ rfl hrow p x.1.funcs.length x.1.fC (fsC x.1.funcs) rfl (fsC_len _) (fs_news hat) (fsC_one _) (by unfold maxLen; omega) (by omega) hz ?_; intro v' w1 hown hgrow _; rw [← List.length_append, ← fsC_app, ← hsn] at hown; obtain ⟨hv1, hend⟩ := FIN.out v' w1 hown hgrow; have HEND := Lib.hid hend; have hc2 := hv1.cell; have hf2 := hv1.frozen; clear hend; have hown2 := hown; rw [hM2] at hown2; obtain ⟨g, cap, rfl⟩ := ownsRow_succ hown2)
      exact HEND.out
  case done =>
    rintro D xs W hD rfl ⟨⟨v, hv, hrow, -⟩, hB⟩ hK
    have hc1 := hv.cell
    rw [hfin] at hrow
    obtain ⟨M, hM⟩ : ∃ M, (fnsB y).length = M + 1 := ⟨_, rfl⟩
    have hrow2 := hrow
    rw [hM] at hrow2
    obtain ⟨g, cap, hgv⟩ := ownsRow_succ hrow2
    have HM := Lib.hid hM
    clear hM hrow2
    subst hgv
    gi_wp2
    refine ⟨by simp, .inl ⟨_, _, rfl, run_takeDeferred hK, ?_⟩⟩
    have hr9 := ownsRow_putObj hrow (.deferred none) hK rfl
    obtain ⟨g2, cap2, hv2, hb2, -, hc2, hcell⟩ := row_cell hr9 (by unfold fnsB; simp)
    have hM := HM.out
    injection hv2 with e1 e2 e3
    injection e1 with e1
    injection e1 with e1 _
    subst e1 e3
    refine ⟨_, results_tmp rfl _ _ _, g, cap, (by rw [hM]; rfl), hc2, hb2, fun i hi => ?_, hB.trans (belowK_b (w := w) (Nat.le_refl _) W D _ _ (by omega) hK rfl rfl)⟩
    have hl := fsC_len (fnsB y)
    have c : ∀ j, j < 5 → (W.putObj D (.deferred none)).cell? ⟨g, i * 5 + j, none⟩ = (fcells (fnsB y)[i])[j]? := fun j hj => by
      rw [hcell _ (by omega), fsC_get (fnsB y) i hi j hj]
    exact ⟨c 0 (by omega), c 1 (by omega), c 2 (by omega), c 3 (by omega), c 4 (by omega)⟩
  case stop =>
    rintro D c pre W hD _ h _
    exact h.elim
end Go.Proofs.Ythkpggpnbdedjaa

/- The number of statements of a block and of the blocks in it; the size by the expressions that are shown and the statements of all functions. -/
namespace Go.Proofs.Ythkpggpnbdedjaa
open Go.RowKit Go.Instr
set_option linter.unusedVariables false

mutual
/-- Statements, without those of functions among expressions. -/
def stS : TS → Nat
  | ⟨_, _, _, _, _, _, _, _, _, _, _, _, _, blocks, _⟩ => 1 + stBs blocks
def stSs : List TS → Nat
  | [] => 0
  | x :: l => stS x + stSs l
def stB : TB → Nat
  | ⟨_, _, l⟩ => stSs l
def stBs : List TB → Nat
  | [] => 0
  | x :: l => stB x + stBs l
end
theorem stS_eq (x : TS) : stS x = 1 + stBs x.blocks := by cases x; simp [stS]
theorem stB_eq (x : TB) : stB x = stSs x.l := by cases x; simp [stB]
theorem stSs_sum : ∀ l : List TS, stSs l = (l.map stS).sum
  | [] => by simp [stSs]
  | x :: l => by rw [stSs, List.map_cons, List.sum_cons, stSs_sum l]
theorem stBs_sum : ∀ l : List TB, stBs l = (l.map stB).sum
  | [] => by simp [stBs]
  | x :: l => by rw [stBs, List.map_cons, List.sum_cons, stBs_sum l]
/-- The statements of the blocks in the first k statements. -/
def inBl (l : List TS) (k : Nat) : Nat := ((l.take k).map fun s => stBs s.blocks).sum
theorem inBl_succ {l : List TS} {k : Nat} (h : k < l.length) : inBl l (k + 1) = inBl l k + stBs l[k].blocks := by
  unfold inBl; rw [List.take_succ_eq_append_getElem h, List.map_append, List.sum_append, List.map_cons, List.map_nil, List.sum_cons, List.sum_nil, Nat.add_zero]
theorem stSs_in : ∀ l : List TS, stSs l = l.length + inBl l l.length
  | [] => by simp [stSs, inBl]
  | x :: l => by
    rw [stSs, stS_eq, stSs_in l, List.length_cons]
    have e : inBl (x :: l) (l.length + 1) = stBs x.blocks + inBl l l.length := by unfold inBl; simp
    rw [e]; omega
theorem stBs_succ {l : List TB} {k : Nat} (h : k < l.length) : stBs (l.take (k + 1)) = stBs (l.take k) + stSs l[k].l := by
  rw [List.take_succ_eq_append_getElem h, stBs_sum, stBs_sum, List.map_append, List.sum_append]; simp [stB_eq]

abbrev Stm (l : List TS) : Prop := ∀ (a : Option Addr) (c : Nat) (w : World) (N : Nat), SsOk w N a c l → Calls Try.prog 20 #[.slice a l.length c] w fun e w' => e = .returned (.int .i64 (wrap64 (stSs l))) ∧ ∃ m, w' = w.drewN m
set_option maxHeartbeats 1600000 in
theorem stm_step (l : List TS) (hS : ∀ l' : List TS, rkSs l' < rkSs l → Stm l') : Stm l := by
  intro a c w N hok
  have HO := Lib.hid hok
  obtain ⟨hn1, hn2, hn3⟩ := hok.1
  have hn : (l.length : Int) ≤ 9223372036854775807 := by omega
  have HS := Lib.hid hS
  have HD := Lib.hid (stSs_in l)
  obtain ⟨D, hD⟩ : ∃ D, wrap64 (stSs l) = D := ⟨_, rfl⟩
  have HDD := Lib.hid hD
  rw [hD]
  clear hok hS hn3 hD
  have hNw : N ≤ N := Nat.le_refl _
  go_enter Try.func20, Try.ntmps20
  go_wp2_with fail
  go_loopw [3, 4] (fun s i wr => ∃ (k : Nat) (P : Int), k ≤ l.length ∧ s = .int .i64 P ∧ i = .int .i64 k ∧ Hid (P = wrap64 (l.length + inBl l k)) ∧ Hid (∃ m, wr = w.drewN m)) (fun _ i _ => l.length - (intOf i).toNat)
  case atStart => exact ⟨0, _, Nat.zero_le _, rfl, rfl, (show (l.length : Int) = wrap64 (l.length + inBl l 0) by unfold inBl wrap64; simp; omega), ⟨0, rfl⟩⟩
  case round =>
    obtain ⟨k, P, hk, rfl, rfl, HP, HW⟩ := hrel
    obtain ⟨m, rfl⟩ := HW.out
    by_cases hlt : k < l.length
    · obtain ⟨b, o, rfl, hb, hc, hin⟩ := HO.out.at_ hlt
      have hsz := inBl_succ hlt
      have hrk := rkSs_mem (List.getElem_mem hlt)
      obtain ⟨x, hx⟩ : ∃ x, l[k] = x := ⟨_, rfl⟩
      rw [hx] at hc hin hsz hrk
      rw [rkS_eq] at hrk
      obtain ⟨c0, c1, c2, c3, c4, c5, c6⟩ := hc
      obtain ⟨f1, f2, f3⟩ := hin.bs.1
      have HIN := Lib.hid hin
      have HSZ := Lib.hid hsz
      have HRK := Lib.hid hrk
      clear hsz hrk hin f3 hx
      go_wp2_with fail
      go_loopw [3, 5] (fun s i wr => ∃ (j : Nat) (Q : Int), j ≤ x.blocks.length ∧ s = .int .i64 Q ∧ i = .int .i64 j ∧ Hid (Q = wrap64 (l.length + inBl l k + stBs (x.blocks.take j))) ∧ Hid (∃ m, wr = w.drewN m)) (fun _ i _ => x.blocks.length - (intOf i).toNat)
      case atStart => exact ⟨0, P, Nat.zero_le _, rfl, rfl, (show P = _ by rw [HP.out]; simp [stBs]), ⟨m, rfl⟩⟩
      case round =>
        obtain ⟨j, Q, hj, rfl, rfl, HQ, HW2⟩ := hrel
        obtain ⟨m2, rfl⟩ := HW2.out
        by_cases hjl : j < x.blocks.length
        · obtain ⟨b', o', ha', hb', hc', hin'⟩ := HIN.out.bs.at_ hjl
          rw [ha'] at c5
          have hsz := stBs_succ hjl
          have hrk := rkBs_mem (List.getElem_mem hjl)
          obtain ⟨y, hy⟩ : ∃ y, x.blocks[j] = y := ⟨_, rfl⟩
          rw [hy] at hc' hin' hsz hrk
          rw [rkB_eq] at hrk
          have d0 : w.cell? ⟨b', o' + j, none⟩ = some (.slice y.a y.l.length y.c) := hc'
          obtain ⟨B, hB⟩ : ∃ B : Int, B = (stSs y.l : Nat) := ⟨_, rfl⟩
          have HB : Hid (∀ m, Calls Try.prog 20 #[.slice y.a y.l.length y.c] (w.drewN m) fun e w' => e = .returned (.int .i64 (wrap64 B)) ∧ ∃ m', w' = (w.drewN m).drewN m') := fun m => hB ▸ HS.out y.l (by have := HRK.out; omega) _ _ _ N (hin'.ss.still (still_drewN N w m) (Nat.le_refl _))
          have HSZ' := Lib.hid hsz
          have HBB := Lib.hid hB
          clear hsz hrk hin' hy hc' hB
          go_wp2_with (first | (go_at_call 20; (with_reducible refine (HB.out _).mono ?_); rintro e w3 ⟨rfl, m3, rfl⟩))
          refine ⟨⟨j + 1, _, by omega, rfl, by go_num, ?_, ?_⟩, by simp [intOf]; omega⟩
          · show wrap64 (Q + wrap64 B) = _
            rw [HQ.out, wrap_add2, HSZ'.out, HBB.out]
            congr 1
            omega
          · exact ⟨m2 + m3, by first | rfl | rw [World.drewN_drewN]⟩
        · obtain rfl : j = x.blocks.length := by omega
          rw [List.take_length] at HQ
          go_wp2_with fail
          refine ⟨⟨k + 1, Q, by omega, rfl, by go_num, ?_, ⟨m2, rfl⟩⟩, by simp [intOf]; omega⟩
          show Q = _
          rw [HSZ.out, HQ.out]
          congr 1
          omega
    · obtain rfl : k = l.length := by omega
      go_wp2_with fail
      go_returns
      refine ⟨?_, m, rfl⟩
      rw [← HDD.out, HD.out, HP.out, Int.natCast_add]
      rfl
theorem stm_any : ∀ (n : Nat) (l : List TS), rkSs l < n → Stm l
  | 0, _, h => by omega
  | n + 1, l, h => stm_step l fun l' h' => stm_any n l' (by omega)

/-- What an expression that is shown counts: itself, and the statements of its functions. -/
def wtX (x : TX) : Nat := 1 + (x.funcs.map fun f => stSs f.body).sum
def wtL (l : List TX) : Nat := (l.map wtX).sum
theorem wtL_app (l r : List TX) : wtL (l ++ r) = wtL l + wtL r := by unfold wtL; rw [List.map_append, List.sum_append]
theorem wtL_flat {α : Type} (f : α → List TX) (g : α → Nat) : ∀ l : List α, (∀ x ∈ l, wtL (f x) = g x) → wtL (l.flatMap f) = (l.map g).sum
  | [], _ => rfl
  | x :: l, h => by
    rw [List.flatMap_cons, wtL_app, List.map_cons, List.sum_cons, h x List.mem_cons_self, wtL_flat f g l (fun y hy => h y (List.mem_cons_of_mem _ hy))]
theorem wtL_eq : ∀ l : List TX, wtL l = l.length + ((l.flatMap TX.funcs).map fun f => stSs f.body).sum
  | [] => rfl
  | x :: l => by
    show wtX x + wtL l = _
    rw [wtL_eq l, List.flatMap_cons, List.map_append, List.sum_append, List.length_cons]
    unfold wtX; omega
theorem sum_parts (g : TX ⊕ TB → Nat) (s : TS) : ((partsS s).map g).sum = (s.left.map fun x => g (.inl x)).sum + (s.right.map fun x => g (.inl x)).sum + (s.blocks.map fun y => g (.inr y)).sum := by
  have hz : ∀ (r : List TX) (b : List TB), ((zipP r b).map g).sum = (r.map fun x => g (.inl x)).sum + (b.map fun y => g (.inr y)).sum := by
    intro r
    induction r with
    | nil =>
      intro b
      have e : zipP [] b = b.map Sum.inr := by cases b <;> rfl
      rw [e, List.map_map]
      simp [Function.comp_def]
    | cons x r ih =>
      intro b
      cases b with
      | nil =>
        show (((x :: r).map Sum.inl).map g).sum = _
        rw [List.map_map]
        simp [Function.comp_def]
      | cons y b =>
        show g (.inl x) + (g (.inr y) + ((zipP r b).map g).sum) = _
        rw [ih b, List.map_cons, List.sum_cons, List.map_cons, List.sum_cons]
        omega
  have hl : ∀ l : List TX, ((l.map (Sum.inl : TX → TX ⊕ TB)).map g).sum = (l.map fun x => g (.inl x)).sum := fun l => by rw [List.map_map]; rfl
  have hb : ∀ l : List TB, ((l.map (Sum.inr : TB → TX ⊕ TB)).map g).sum = (l.map fun y => g (.inr y)).sum := fun l => by rw [List.map_map]; rfl
  unfold partsS
  rw [List.map_append, List.sum_append, hl]
  split
  · rw [List.map_append, List.sum_append, hl, hb]; omega
  · split
    · rw [hz]; omega
    · rw [List.map_append, List.sum_append, hl, hb]; omega
theorem sum_add {α : Type} (f g h : α → Nat) : ∀ l : List α, (∀ x ∈ l, f x + g x = h x) → (l.map f).sum + (l.map g).sum = (l.map h).sum
  | [], _ => rfl
  | x :: l, hh => by
    have h1 := hh x List.mem_cons_self
    have h2 := sum_add f g h l (fun y hy => hh y (List.mem_cons_of_mem _ hy))
    rw [List.map_cons, List.map_cons, List.map_cons, List.sum_cons, List.sum_cons, List.sum_cons]
    omega
/-- The law of sizes. -/
theorem wt_all : ∀ n, (∀ x, rkX x < n → wtL (exP n (.inl x)) = szX x) ∧ ∀ y, rkB y < n → wtL (exP n (.inr y)) + stB y = szB y
  | 0 => ⟨fun _ h => by omega, fun _ h => by omega⟩
  | n + 1 => by
    obtain ⟨ihX, ihB⟩ := wt_all n
    constructor
    · intro x hx
      rw [rkX_eq] at hx
      rw [exP_x]
      show wtX x + wtL _ = _
      rw [wtL_app, szX_eq, ← szXs_sum, ← szFs_sum, wtL_flat _ szX x.args (fun y hy => ihX y (by have := rkXs_mem hy; omega))]
      have hf := sum_add (fun f : TF => stSs f.body) (fun f : TF => wtL (exP n (.inr ⟨f.bA, f.bC, f.body⟩))) szF x.funcs (fun f hf => by
        have h1 := rkFs_mem hf
        rw [rkF_eq] at h1
        have h2 := ihB ⟨f.bA, f.bC, f.body⟩ (by rw [rkB_eq]; show 1 + rkSs f.body < n; omega)
        rw [stB_eq, szB_eq] at h2
        rw [szF_eq]
        show stSs f.body + _ = szSs f.body
        have h3 : wtL (exP n (.inr ⟨f.bA, f.bC, f.body⟩)) + stSs f.body = szSs f.body := h2
        omega)
      rw [wtL_flat _ (fun f : TF => wtL (exP n (.inr ⟨f.bA, f.bC, f.body⟩))) x.funcs (fun f _ => rfl)]
      unfold wtX
      omega
    · intro y hy
      rw [rkB_eq] at hy
      rw [exP_b, szB_eq, stB_eq, ← szSs_sum, stSs_sum]
      rw [wtL_flat _ (fun s => wtL ((partsS s).flatMap (exP n))) y.l (fun s _ => rfl)]
      refine sum_add _ _ _ _ fun s hs => ?_
      have h1 := rkSs_mem hs
      rw [rkS_eq] at h1
      rw [wtL_flat _ (fun p => wtL (exP n p)) (partsS s) (fun p _ => rfl), sum_parts, szS_eq, stS_eq, ← szXs_sum, ← szXs_sum, ← szBs_sum, stBs_sum]
      have hl : (s.left.map fun x => wtL (exP n (.inl x))) = s.left.map szX := List.map_congr_left fun x hx => ihX x (by have := rkXs_mem hx; omega)
      have hr : (s.right.map fun x => wtL (exP n (.inl x))) = s.right.map szX := List.map_congr_left fun x hx => ihX x (by have := rkXs_mem hx; omega)
      have hb := sum_add (fun y => wtL (exP n (.inr y))) stB szB s.blocks (fun y hy => ihB y (by have := rkBs_mem hy; omega))
      rw [hl, hr]
      omega
/-- The size is the number of expressions and of the statements of all functions. -/
theorem counts_law (y : TB) : (exsB y).length + ((fnsB y).map fun f => stSs f.body).sum = szSs y.l := by
  have h := (wt_all (rkB y + 1)).2 y (by omega)
  rw [← exsB_exP, wtL_eq, stB_eq, szB_eq] at h
  unfold fnsB
  rw [List.map_cons, List.sum_cons]
  show _ + (stSs y.l + _) = _
  omega
theorem fns_small (y : TB) : ∀ x ∈ exsB y, x.funcs.length ≤ rkB y := by
  have hf : ∀ l : List TF, l.length ≤ rkFs l := by
    intro l
    induction l with
    | nil => exact Nat.zero_le _
    | cons f l ih =>
      show l.length + 1 ≤ rkF f + rkFs l
      have := rkF_eq f
      omega
  have key : ∀ n p, ∀ x ∈ exP n p, rkX x ≤ rkPt p := by
    intro n
    induction n with
    | zero => intro p x h; cases h
    | succ n ih =>
      intro p x h
      cases p with
      | inl z =>
        show rkX x ≤ rkX z
        rw [exP_x] at h
        rcases List.mem_cons.1 h with rfl | h
        · exact Nat.le_refl _
        · rw [rkX_eq z]
          rcases List.mem_append.1 h with h | h
          · obtain ⟨u, hu, h⟩ := List.mem_flatMap.1 h
            have h1 : rkX x ≤ rkX u := ih _ x h
            have h2 := rkXs_mem hu
            omega
          · obtain ⟨u, hu, h⟩ := List.mem_flatMap.1 h
            have h1 := ih _ x h
            have h2 := rkFs_mem hu
            rw [rkF_eq] at h2
            have e : rkPt (.inr ⟨u.bA, u.bC, u.body⟩) = 1 + rkSs u.body := rkB_eq _
            omega
      | inr z =>
        show rkX x ≤ rkB z
        rw [exP_b] at h
        obtain ⟨s, hs, h⟩ := List.mem_flatMap.1 h
        obtain ⟨p, hp, h⟩ := List.mem_flatMap.1 h
        have h1 := ih p x h
        have h2 := rkSs_mem hs
        have h3 : rkPt p ≤ rkS s := by
          rw [rkS_eq]
          rcases parts_mem hp with ⟨u, hu, rfl⟩ | ⟨u, hu, rfl⟩
          · rcases hu with hu | hu
            · have : rkPt (.inl u) ≤ rkXs s.left := rkXs_mem hu
              omega
            · have : rkPt (.inl u) ≤ rkXs s.right := rkXs_mem hu
              omega
          · have : rkPt (.inr u) ≤ rkBs s.blocks := rkBs_mem hu
            omega
        rw [rkB_eq]
        omega
  intro x hx
  have h1 := key _ _ x hx
  have h2 := hf x.funcs
  rw [rkX_eq] at h1
  show _ ≤ rkPt (.inr y)
  omega
theorem fns_ok {w : World} {N : Nat} {y : TB} (hin : InB w N y) : ∀ f ∈ fnsB y, SsOk w N f.bA f.bC f.body := by
  intro f hf
  rcases List.mem_cons.1 hf with rfl | hf
  · exact hin.ss
  · obtain ⟨x, hx, hf⟩ := List.mem_flatMap.1 hf
    exact ((inFs_iff _).1 (exsB_in hin x hx).fs.2.2 f hf).ss
theorem sum_succ {α : Type} {l : List α} {f : α → Nat} {k : Nat} (h : k < l.length) : ((l.take (k + 1)).map f).sum = ((l.take k).map f).sum + f l[k] := by
  rw [List.take_succ_eq_append_getElem h, List.map_append, List.sum_append, List.map_cons, List.map_nil, List.sum_cons, List.sum_nil, Nat.add_zero]
theorem gb_trans {a b c : World} {r : Option Nat} (h : a.grownBy b r) (k : b.grownBy c r) : a.grownBy c r :=
  ⟨k.os.trans h.os, k.tape.trans h.tape, k.output.trans h.output, Nat.le_trans h.size k.size, fun i hi hne => (k.block i (Nat.lt_of_lt_of_le hi h.size) hne).trans (h.block i hi hne)⟩
theorem gb_below {a b : World} (r : Option Nat) (h : Below a.heap.size a b) : a.grownBy b r := ⟨h.os, h.tape, h.output, h.size, fun i hi _ => h.block i hi⟩
end Go.Proofs.Ythkpggpnbdedjaa
