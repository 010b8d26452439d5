/- The program's visitor: a callback for each statement (where there is one) and each expression, in the order of the text. -/
import Derived.Test.YtplphejillkdeaaGreatDoorMTrS
namespace Go.Proofs.YtplphejillkdeaaGreatDoor
open Go.RowKit Go.Instr
set_option linter.unusedVariables false

/-- What a visitor is shown: a statement by its block and index, an expression with its parent's kind. -/
inductive Ev where
  | st (b : TB) (i : Nat)
  | ex (x : TX) (par : Int)
/-- What is shown of a part (ws: statements too; the number: more than the part's rank). -/
def evN (ws : Bool) : Nat → TX ⊕ TB → Int → List Ev
  | 0, _, _ => []
  | n + 1, .inl x, par => .ex x par :: (x.args.flatMap (fun y => evN ws n (.inl y) x.k) ++ x.funcs.flatMap (fun f => evN ws n (.inr ⟨f.bA, f.bC, f.body⟩) 0))
  | n + 1, .inr b, _ => (List.range b.l.length).flatMap fun i => (if ws then [Ev.st b i] else []) ++ ((b.l[i]?.map partsS).getD []).flatMap (fun p => evN ws n p 0)
/-- The list l stands at place q of all. -/
def Seg (all : List Ev) (q : Nat) (l : List Ev) : Prop := ∀ i, i < l.length → all[q + i]? = l[i]?
theorem seg_cons {all : List Ev} {q : Nat} {e : Ev} {l : List Ev} (h : Seg all q (e :: l)) : all[q]? = some e ∧ Seg all (q + 1) l := by
  refine ⟨by simpa using h 0 (by simp), fun i hi => ?_⟩
  have := h (i + 1) (by simp; omega)
  simpa [Nat.add_assoc, Nat.add_comm 1 i] using this
theorem seg_app {all : List Ev} {q : Nat} {l r : List Ev} (h : Seg all q (l ++ r)) : Seg all q l ∧ Seg all (q + l.length) r := by
  refine ⟨fun i hi => ?_, fun i hi => ?_⟩
  · have := h i (by simp; omega)
    rwa [List.getElem?_append_left hi] at this
  · have := h (l.length + i) (by simp; omega)
    rw [List.getElem?_append_right (by omega), Nat.add_sub_cancel_left] at this
    rwa [Nat.add_assoc]
theorem flat_succ {α : Type} {l : List α} {f : α → List Ev} {k : Nat} (h : k < l.length) : (l.take (k + 1)).flatMap f = (l.take k).flatMap f ++ f l[k] := by
  rw [List.take_succ_eq_append_getElem h, List.flatMap_append]; simp
theorem seg_flat {α : Type} {all : List Ev} {q : Nat} {l : List α} {f : α → List Ev} (h : Seg all q (l.flatMap f)) {k : Nat} (hk : k < l.length) : Seg all (q + ((l.take k).flatMap f).length) (f l[k]) := by
  have e : l = l.take k ++ (l[k] :: l.drop (k + 1)) := by rw [List.getElem_cons_drop, List.take_append_drop]
  have h2 : Seg all q ((l.take k).flatMap f ++ (f l[k] ++ (l.drop (k + 1)).flatMap f)) := by
    have h3 := h
    rw [e, List.flatMap_append, List.flatMap_cons] at h3
    exact h3
  exact (seg_app (seg_app h2).2).1
theorem seg_flat_len {α : Type} {l : List α} {f : α → List Ev} {k : Nat} (h : k < l.length) : ((l.take (k + 1)).flatMap f).length = ((l.take k).flatMap f).length + (f l[k]).length := by
  rw [flat_succ h, List.length_append]

theorem eqIn_fn {P : Program} {t : TypeId} {ps rs : Array TypeId} {vd : Bool} (h : P.underlying t = some (.func ps rs vd)) (d : Nat) (fn : Fn) (fi cp : Array Value) (w : World) : (Op.equalIn (d + 1) t (.func fn fi cp) .nilFunc).run P w = .ok false w := by
  simp [Op.equalIn, run_underlying h]
theorem eqIn_nil {P : Program} {t : TypeId} {ps rs : Array TypeId} {vd : Bool} (h : P.underlying t = some (.func ps rs vd)) (d : Nat) (w : World) : (Op.equalIn (d + 1) t .nilFunc .nilFunc).run P w = .ok true w := by
  simp [Op.equalIn, run_underlying h]
theorem eq_fn {P : Program} {t : TypeId} {ps rs : Array TypeId} {vd : Bool} (h : P.underlying t = some (.func ps rs vd)) (fn : Fn) (fi cp : Array Value) (w : World) : (Op.equal t (.func fn fi cp) .nilFunc).run P w = .ok false w := eqIn_fn h 9999 fn fi cp w
theorem eq_nil {P : Program} {t : TypeId} {ps rs : Array TypeId} {vd : Bool} (h : P.underlying t = some (.func ps rs vd)) (w : World) : (Op.equal t .nilFunc .nilFunc).run P w = .ok true w := eqIn_nil h 9999 w
theorem neq_fn {P : Program} {t : TypeId} {ps rs : Array TypeId} {vd : Bool} (h : P.underlying t = some (.func ps rs vd)) (fn : Fn) (fi cp : Array Value) (w : World) : (binOp .neq t (.func fn fi cp) .nilFunc).run P w = .ok (.bool true) w := by
  simp only [binOp]
  simp [eq_fn h]
theorem neq_nil {P : Program} {t : TypeId} {ps rs : Array TypeId} {vd : Bool} (h : P.underlying t = some (.func ps rs vd)) (w : World) : (binOp .neq t .nilFunc .nilFunc).run P w = .ok (.bool false) w := by
  simp only [binOp]
  simp [eq_nil h]
theorem CB.two {g : Nat} {fi cp : Array Value} {u v : Value} {W : World} {R : Ending → World → Prop} (h : CB (.func (.func g) fi cp) #[u, v] W R) : Calls Tryz.prog g (fi ++ (#[u, v] ++ cp)) W R := by
  have h := h.calls
  rwa [Array.append_assoc] at h
/-- A callback at what is shown. -/
def CBe (fs fe : Value) (e : Ev) (W : World) (R : Ending → World → Prop) : Prop :=
  match e with
  | .st y i => CB fs #[y.v, .int .i64 i] W R
  | .ex x par => CB fe #[x.v, .int .i64 par] W R
/-- The statement's callback: none, or a function. -/
def StF (ws : Bool) (fs : Value) : Prop := if ws then IsFn fs else fs = .nilFunc
theorem stF_ns {ws : Bool} {fs : Value} (h : StF ws fs) : ∀ s, fs ≠ .string s := by
  intro s e
  subst e
  cases ws with
  | false => cases (show Value.string s = .nilFunc from h)
  | true =>
    obtain ⟨_, _, _, h, -⟩ := (show IsFn (.string s) from h)
    cases h

/-- The boxes of visit: the visitor, the expression. -/
def Vb (n : Nat) (fs fe : Value) (x : TX) (W : World) : Prop := W.cell? ⟨n, 0, none⟩ = some fs ∧ W.cell? ⟨n, 1, none⟩ = some fe ∧
  W.cell? ⟨n + 1, 0, none⟩ = some (.int .i64 x.k) ∧ W.cell? ⟨n + 1, 1, none⟩ = some (.int .i64 x.op) ∧ W.cell? ⟨n + 1, 2, none⟩ = some (.int .i64 x.ln) ∧ W.cell? ⟨n + 1, 3, none⟩ = some (.int .i64 x.p) ∧ W.cell? ⟨n + 1, 4, none⟩ = some (.int .i64 x.q) ∧ W.cell? ⟨n + 1, 5, none⟩ = some (.string x.s) ∧ W.cell? ⟨n + 1, 6, none⟩ = some (.slice x.aA x.args.length x.aC) ∧ W.cell? ⟨n + 1, 7, none⟩ = some (.slice x.fA x.funcs.length x.fC)
theorem Vb.kept {a b n : Nat} {x : TX} {fs fe : Value} {W W' : World} (h : Vb n fs fe x W) (k : Kept a b W W') (hb : b ≤ n) (g1 : ∀ s, fs ≠ .string s := by intro s e; cases e) : Vb n fs fe x W' := by
  obtain ⟨h0, h1, h2, h3, h4, h5, h6, h7, h8, h9⟩ := h
  exact ⟨k.cell h0 h0 hb g1, k.cell h0 h1 hb g1, k.cell h2 h2 (by omega), k.cell h2 h3 (by omega), k.cell h2 h4 (by omega), k.cell h2 h5 (by omega), k.cell h2 h6 (by omega), k.cell h2 h7 (by omega), k.cell h2 h8 (by omega), k.cell h2 h9 (by omega)⟩
theorem Vb.new (x : TX) (fs fe : Value) (w : World) (t1 t2 : TypeId) :
    Vb w.heap.size fs fe x ((w.alloc (.cells #[fs, fe] t1)).alloc (.cells #[.int .i64 x.k, .int .i64 x.op, .int .i64 x.ln, .int .i64 x.p, .int .i64 x.q, .string x.s, .slice x.aA x.args.length x.aC, .slice x.fA x.funcs.length x.fC] t2)) := by
  unfold Vb
  simp [cell_alloc_if]

section
variable (a b : Nat) (ws : Bool) (all : List Ev) (J : Nat → World → Prop) (X : Ending → World → Prop) (fs fe : Value)
/-- What visit and block answer. -/
abbrev VisX (n : Nat) : Prop := ∀ (x : TX) (par : Int), rkX x < n → ∀ q, Seg all q (evN ws n (.inl x) par) → ∀ W, InX W a x → b ≤ W.heap.size → J q W → Calls Tryz.prog 51 #[.agg #[fs, fe], x.v, .int .i64 par] W (RJ a b (J (q + (evN ws n (.inl x) par).length)) X W)
abbrev VisB (n : Nat) : Prop := ∀ (y : TB), rkB y < n → ∀ q, Seg all q (evN ws n (.inr y) 0) → ∀ W, InB W a y → b ≤ W.heap.size → J q W → Calls Tryz.prog 29 #[.agg #[fs, fe], y.v] W (RJ a b (J (q + (evN ws n (.inr y) 0).length)) X W)
variable (hab : a ≤ b) (hfe : IsFn fe) (hfs : StF ws fs) (hJ : ∀ j W W', J j W → Below W.heap.size W W' → J j W')
  (H : ∀ q e, all[q]? = some e → ∀ W, b ≤ W.heap.size → J q W → CBe fs fe e W (RJ a b (J (q + 1)) X W))
include hab hfe hfs hJ H

set_option maxHeartbeats 3200000 in
set_option maxRecDepth 100000 in
theorem visit_step (n : Nat) (hX : VisX a b ws all J X fs fe n) (hB : VisB a b ws all J X fs fe n) : VisX a b ws all J X fs fe (n + 1) := by
  intro x par hrk q hseg w hin hbw h0
  have hev : evN ws (n + 1) (.inl x) par = .ex x par :: (x.args.flatMap (fun y => evN ws n (.inl y) x.k) ++ x.funcs.flatMap (fun f => evN ws n (.inr ⟨f.bA, f.bC, f.body⟩) 0)) := rfl
  rw [hev] at hseg ⊢
  obtain ⟨hs0, hs1⟩ := seg_cons hseg
  obtain ⟨hs1, hs2⟩ := seg_app hs1
  rw [rkX_eq] at hrk
  have HC : Hid (∀ W, b ≤ W.heap.size → J q W → CB fe #[x.v, .int .i64 par] W (RJ a b (J (q + 1)) X W)) := fun W h1 h2 => H q _ hs0 W h1 h2
  have HJ := Lib.hid hJ
  have H0 := Lib.hid h0
  have HIN := Lib.hid hin
  obtain ⟨fA, hfA⟩ : ∃ f : TX → List Ev, (fun y => evN ws n (.inl y) x.k) = f := ⟨_, rfl⟩
  obtain ⟨fF, hfF⟩ : ∃ f : TF → List Ev, (fun f => evN ws n (.inr ⟨f.bA, f.bC, f.body⟩) 0) = f := ⟨_, rfl⟩
  obtain ⟨pA, hpA⟩ : ∃ p : Nat → Nat, p = fun k => ((x.args.take k).flatMap fA).length := ⟨_, rfl⟩
  obtain ⟨pF, hpF⟩ : ∃ p : Nat → Nat, p = fun k => ((x.funcs.take k).flatMap fF).length := ⟨_, rfl⟩
  have eA : ∀ k, ((x.args.take k).flatMap fA).length = pA k := fun k => by rw [hpA]
  have eF : ∀ k, ((x.funcs.take k).flatMap fF).length = pF k := fun k => by rw [hpF]
  have eA0 : pA 0 = 0 := by rw [hpA]; rfl
  have eF0 : pF 0 = 0 := by rw [hpF]; rfl
  have eA1 : (x.args.flatMap fA).length = pA x.args.length := by rw [hpA]; simp only [List.take_length]
  have eF1 : (x.funcs.flatMap fF).length = pF x.funcs.length := by rw [hpF]; simp only [List.take_length]
  have HA : Hid (∀ k (h : k < x.args.length) W, Still a w W → b ≤ W.heap.size → J (q + 1 + pA k) W → Calls Tryz.prog 51 #[.agg #[fs, fe], (x.args[k]).v, .int .i64 x.k] W (RJ a b (J (q + 1 + pA (k + 1))) X W)) := by
    intro k h W hst hbW hJW
    have hs := seg_flat hs1 h
    have hc := hX x.args[k] x.k (by have := rkXs_mem (List.getElem_mem h); omega) _ hs W (((inXs_iff _).1 hin.xs.2.2 _ (List.getElem_mem h)).still hst (Nat.le_refl _)) hbW (by rw [hfA, eA]; exact hJW)
    rw [hfA, eA, show (evN ws n (.inl x.args[k]) x.k).length = (fA x.args[k]).length by rw [← hfA], Nat.add_assoc, ← eA k, ← seg_flat_len h, eA] at hc
    exact hc
  have HF : Hid (∀ k (h : k < x.funcs.length) W, Still a w W → b ≤ W.heap.size → J (q + 1 + pA x.args.length + pF k) W → Calls Tryz.prog 29 #[.agg #[fs, fe], .slice (x.funcs[k]).bA (x.funcs[k]).body.length (x.funcs[k]).bC] W (RJ a b (J (q + 1 + pA x.args.length + pF (k + 1))) X W)) := by
    intro k h W hst hbW hJW
    rw [hfA] at hs2
    have hs := seg_flat hs2 h
    have hin' := ((inFs_iff _).1 hin.fs.2.2 _ (List.getElem_mem h)).still hst (Nat.le_refl a)
    have hc := hB ⟨(x.funcs[k]).bA, (x.funcs[k]).bC, (x.funcs[k]).body⟩ (by have := rkFs_mem (List.getElem_mem h); rw [rkF_eq] at this; rw [rkB_eq]; dsimp only; omega) _ hs W ((inB_iff _).2 ⟨⟨hin'.ss.1, hin'.ss.2.1⟩, hin'.ss.2.2⟩) hbW (by rw [hfF, eF, eA1]; exact hJW)
    rw [hfF, eF, eA1, show (evN ws n (.inr ⟨(x.funcs[k]).bA, (x.funcs[k]).bC, (x.funcs[k]).body⟩) 0).length = (fF x.funcs[k]).length by rw [← hfF], Nat.add_assoc, ← eF k, ← seg_flat_len h, eF] at hc
    exact hc
  rw [hfA, hfF]
  have hlen : q + (Ev.ex x par :: (x.args.flatMap fA ++ x.funcs.flatMap fF)).length = q + 1 + pA x.args.length + pF x.funcs.length := by rw [List.length_cons, List.length_append, eA1, eF1]; omega
  rw [hlen]
  obtain ⟨i1, i2, -⟩ := hin.xs.1
  obtain ⟨i3, i4, -⟩ := hin.fs.1
  have hnA : (x.args.length : Int) ≤ 9223372036854775807 := by omega
  have hnF : (x.funcs.length : Int) ≤ 9223372036854775807 := by omega
  clear H hs0 hs1 hs2 hseg hX hB hJ h0 hin hfA hfF hev hlen hrk eA eF eA1 eF1 hpA hpF
  have hne := @neq_fn Tryz.prog 69 _ _ _ Tryz.underlying69
  obtain ⟨uA, huA⟩ : ∃ v, x.aA = v := ⟨_, rfl⟩
  obtain ⟨uF, huF⟩ : ∃ v, x.fA = v := ⟨_, rfl⟩
  obtain ⟨g, fi, cp, rfl, hg⟩ := hfe
  have hfsf : (∃ g2 fi2 cp2, fs = .func (.func g2) fi2 cp2) ∨ fs = .nilFunc := by
    unfold StF at hfs
    cases ws with
    | true => obtain ⟨g2, fi2, cp2, h, -⟩ := hfs; exact .inl ⟨g2, fi2, cp2, h⟩
    | false => exact .inr hfs
  clear hfs
  have HV0 := Lib.hid (Vb.new x fs (.func (.func g) fi cp) w 72 30)
  rcases hfsf with ⟨g2, fi2, cp2, rfl⟩ | rfl
  all_goals
    go_enter Tryz.func51, Tryz.ntmps51
    go_wp2_with fail
    go_at_fn g
    rw [← huA, ← huF]
    with_reducible refine (HC.out _ ?_ (HJ.out q w _ H0.out ?_)).two.mono ?_
    · simp; omega
    · (repeat' (first | (with_reducible exact Below.refl _ _) | (with_reducible assumption) | (with_reducible refine Below.alloc ?_ ?_ _) | (with_reducible refine below_drewN ?_ _) | (with_reducible refine Below.drew ?_) | (with_reducible refine Below.setCell ?_ ?_ _) | (with_reducible refine below_via (by assumption) ?_ ?_) | (with_reducible refine below_via (later_below _) ?_ ?_) | (with_reducible exact Nat.le_refl _) | omega | (simp; omega) | (simp; done)))
    rintro e w1 (⟨rfl, hT1, hk1⟩ | ⟨rfl | ⟨ch, rfl⟩, hX⟩)
    · have hV1 := HV0.out.kept hk1 hbw
      have HV1 := Lib.hid hV1
      have HK1 : Hid (Kept a b w w1) := (kept_of (by (repeat' (first | (with_reducible exact Below.refl _ _) | (with_reducible assumption) | (with_reducible refine Below.alloc ?_ ?_ _) | (with_reducible refine below_drewN ?_ _) | (with_reducible refine Below.drew ?_) | (with_reducible refine Below.setCell ?_ ?_ _) | (with_reducible refine below_via (by assumption) ?_ ?_) | (with_reducible refine below_via (later_below _) ?_ ?_) | (with_reducible exact Nat.le_refl _) | omega | (simp; omega) | (simp; done)))) (by omega)).trans hk1
      have HT1 := Lib.hid hT1
      obtain ⟨v0, v1, e0, e1, e2, e3, e4, e5, e6, e7⟩ := hV1
      have hz1 := cell_lt e7
      clear hk1 hT1
      go_wp2_with fail
      go_loopw [25] (fun i wr => ∃ k : Nat, k ≤ x.args.length ∧ i = .int .i64 k ∧ Hid (J (q + 1 + pA k) wr) ∧ Hid (Kept a b w wr) ∧ Hid (Vb w.heap.size _ (.func (.func g) fi cp) x wr)) (fun i _ => x.args.length - (intOf i).toNat)
      case atStart => exact ⟨0, Nat.zero_le _, rfl, (by have h := HT1.out; rw [eA0]; exact h), HK1.out, HV1.out⟩
      case round =>
        obtain ⟨k, hk, rfl, HK, HE, HV⟩ := hrel
        obtain ⟨v0, v1, e0, e1, e2, e3, e4, e5, e6, e7⟩ := HV.out
        have hzr := cell_lt e7
        by_cases hlt : k < x.args.length
        · obtain ⟨b1, o, haA, hb, hc, -⟩ := (HIN.out.xs.still (HE.out.still (Nat.le_refl _)) (Nat.le_refl _)).at_ hlt
          rw [huA] at haA
          subst haA
          rw [huA] at e6
          obtain ⟨y, hy⟩ : ∃ y, x.args[k] = y := ⟨_, rfl⟩
          have HAk := Lib.hid (fun W => hy ▸ HA.out k hlt W)
          rw [hy] at hc
          obtain ⟨c0, c1, c2, c3, c4, c5, c6, c7⟩ := hc
          have hbl := cell_lt c0
          have HST : Hid (Still a w wr) := HE.out.still (Nat.le_refl _)
          have hsz := HE.out.size
          clear hy
          go_wp2_with (go_at_call 51; (with_reducible refine (HAk.out _ ?_ ?_ (HJ.out _ wr _ HK.out ?_)).mono ?_); (focus (exact HST.out.trans (still_of (B := wr.heap.size) (by (repeat' (first | (with_reducible exact Below.refl _ _) | (with_reducible assumption) | (with_reducible refine Below.alloc ?_ ?_ _) | (with_reducible refine below_drewN ?_ _) | (with_reducible refine Below.drew ?_) | (with_reducible refine Below.setCell ?_ ?_ _) | (with_reducible refine below_via (by assumption) ?_ ?_) | (with_reducible refine below_via (later_below _) ?_ ?_) | (with_reducible exact Nat.le_refl _) | omega | (simp; omega) | (simp; done)))) (by omega)))); (focus (simp; omega)); (focus ((repeat' (first | (with_reducible exact Below.refl _ _) | (with_reducible assumption) | (with_reducible refine Below.alloc ?_ ?_ _) | (with_reducible refine below_drewN ?_ _) | (with_reducible refine Below.drew ?_) | (with_reducible refine Below.setCell ?_ ?_ _) | (with_reducible refine below_via (by assumption) ?_ ?_) | (with_reducible refine below_via (later_below _) ?_ ?_) | (with_reducible exact Nat.le_refl _) | omega | (simp; omega) | (simp; done))))); rintro e w2 (⟨rfl, hT2, hk2⟩ | ⟨rfl | ⟨ch, rfl⟩, hX⟩))
          · have hk3 : Kept a b wr w2 := (kept_of (by (repeat' (first | (with_reducible exact Below.refl _ _) | (with_reducible assumption) | (with_reducible refine Below.alloc ?_ ?_ _) | (with_reducible refine below_drewN ?_ _) | (with_reducible refine Below.drew ?_) | (with_reducible refine Below.setCell ?_ ?_ _) | (with_reducible refine below_via (by assumption) ?_ ?_) | (with_reducible refine below_via (later_below _) ?_ ?_) | (with_reducible exact Nat.le_refl _) | omega | (simp; omega) | (simp; done)))) (by omega)).trans hk2
            exact ⟨⟨k + 1, by omega, by go_num, hT2, HE.out.trans hk3, HV.out.kept hk3 hbw⟩, by simp [intOf]; omega⟩
          · go_returns
            exact .inr ⟨.inl rfl, hX⟩
          · exact ⟨rfl, .inr ⟨.inr ⟨ch, rfl⟩, hX⟩⟩
        · obtain rfl : k = x.args.length := by omega
          go_wp2_with fail
          go_loopw [39] (fun i wr => ∃ k : Nat, k ≤ x.funcs.length ∧ i = .int .i64 k ∧ Hid (J (q + 1 + pA x.args.length + pF k) wr) ∧ Hid (Kept a b w wr) ∧ Hid (Vb w.heap.size _ (.func (.func g) fi cp) x wr)) (fun i _ => x.funcs.length - (intOf i).toNat)
          case atStart => exact ⟨0, Nat.zero_le _, rfl, (by have h := HK.out; rw [eF0]; exact h), HE.out, HV.out⟩
          case round =>
            clear v0 v1 e0 e1 e2 e3 e4 e5 e6 e7 hzr
            obtain ⟨j, hj, rfl, HK, HE, HV⟩ := hrel
            obtain ⟨v0, v1, e0, e1, e2, e3, e4, e5, e6, e7⟩ := HV.out
            have hzr := cell_lt e7
            by_cases hlt : j < x.funcs.length
            · obtain ⟨b1, o, haF, hb, hc, -⟩ := (HIN.out.fs.still (HE.out.still (Nat.le_refl _)) (Nat.le_refl _)).at_ hlt
              rw [huF] at haF
              subst haF
              rw [huF] at e7
              obtain ⟨y, hy⟩ : ∃ y, x.funcs[j] = y := ⟨_, rfl⟩
              have HFk := Lib.hid (fun W => hy ▸ HF.out j hlt W)
              rw [hy] at hc
              obtain ⟨c0, c1, c2, c3, c4⟩ := hc
              have hbl := cell_lt c0
              have HST : Hid (Still a w wr) := HE.out.still (Nat.le_refl _)
              have hsz := HE.out.size
              clear hy
              go_wp2_with (go_at_call 29; (with_reducible refine (HFk.out _ ?_ ?_ (HJ.out _ wr _ HK.out ?_)).mono ?_); (focus (exact HST.out.trans (still_of (B := wr.heap.size) (by (repeat' (first | (with_reducible exact Below.refl _ _) | (with_reducible assumption) | (with_reducible refine Below.alloc ?_ ?_ _) | (with_reducible refine below_drewN ?_ _) | (with_reducible refine Below.drew ?_) | (with_reducible refine Below.setCell ?_ ?_ _) | (with_reducible refine below_via (by assumption) ?_ ?_) | (with_reducible refine below_via (later_below _) ?_ ?_) | (with_reducible exact Nat.le_refl _) | omega | (simp; omega) | (simp; done)))) (by omega)))); (focus (simp; omega)); (focus ((repeat' (first | (with_reducible exact Below.refl _ _) | (with_reducible assumption) | (with_reducible refine Below.alloc ?_ ?_ _) | (with_reducible refine below_drewN ?_ _) | (with_reducible refine Below.drew ?_) | (with_reducible refine Below.setCell ?_ ?_ _) | (with_reducible refine below_via (by assumption) ?_ ?_) | (with_reducible refine below_via (later_below _) ?_ ?_) | (with_reducible exact Nat.le_refl _) | omega | (simp; omega) | (simp; done))))); rintro e w2 (⟨rfl, hT2, hk2⟩ | ⟨rfl | ⟨ch, rfl⟩, hX⟩))
              · have hk3 : Kept a b wr w2 := (kept_of (by (repeat' (first | (with_reducible exact Below.refl _ _) | (with_reducible assumption) | (with_reducible refine Below.alloc ?_ ?_ _) | (with_reducible refine below_drewN ?_ _) | (with_reducible refine Below.drew ?_) | (with_reducible refine Below.setCell ?_ ?_ _) | (with_reducible refine below_via (by assumption) ?_ ?_) | (with_reducible refine below_via (later_below _) ?_ ?_) | (with_reducible exact Nat.le_refl _) | omega | (simp; omega) | (simp; done)))) (by omega)).trans hk2
                exact ⟨⟨j + 1, by omega, by go_num, hT2, HE.out.trans hk3, HV.out.kept hk3 hbw⟩, by simp [intOf]; omega⟩
              · go_returns
                exact .inr ⟨.inl rfl, hX⟩
              · exact ⟨rfl, .inr ⟨.inr ⟨ch, rfl⟩, hX⟩⟩
            · obtain rfl : j = x.funcs.length := by omega
              go_wp2_with fail
              go_returns
              exact .inl ⟨rfl, HK.out, HE.out⟩
    · go_wp2_with fail
      go_returns
      exact .inr ⟨.inl rfl, hX⟩
    · exact ⟨rfl, .inr ⟨.inr ⟨ch, rfl⟩, hX⟩⟩
end
end Go.Proofs.YtplphejillkdeaaGreatDoor
