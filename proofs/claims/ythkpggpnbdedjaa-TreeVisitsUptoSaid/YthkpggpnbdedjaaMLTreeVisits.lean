/- The law TreeVisits holds: for every input whose reading is of at most uptoSmall's bulk. -/
import Derived.Test.YthkpggpnbdedjaaMTrOpen
import Derived.Test.YthkpggpnbdedjaaMTrLv
import Derived.Test.YthkpggpnbdedjaaMTrRe
import Derived.Test.YthkpggpnbdedjaaMTrRnd
import Derived.Test.YthkpggpnbdedjaaMTrSn
import Derived.ProofKit
import Derived.OpenShut
import Derived.Lib.SmallJoins
import Derived.JoinedCond
namespace Go.Proofs.Ythkpggpnbdedjaa.treeVisits
open Go.ChangeShapes Go.WideShapes Go.ChangeAt Go.RowKit Go.Joins Go.Instr Go.Shelf
attribute [local go_sem] Oper.semAt_some
set_option linter.unusedVariables false

theorem own : ownKnob Try.prog.godebug = none := by kernel_rfl
theorem laidOut : laidOutB Try.prog = true := by kernel_rfl

theorem keeps_of {W W' : World} (hb : Below W.heap.size W W') : KeepsOthers W W' := ⟨hb.size, fun k o h _ => (hb.block k (Array.getElem?_eq_some_iff.1 h).1).trans h⟩
set_option maxHeartbeats 8000000 in
set_option maxRecDepth 100000 in
theorem walk (b : TB) (most : Int) (w : World) (ib : InB w w.heap.size b) (hrk : rkB b ≤ 1048576) :
    Calls Try.prog 4 #[b.v, .int .i64 most] w fun e w' => e = .returned (.bool true) ∧ Below w.heap.size w w' := by
  have HL : Hid (∀ W, Below w.heap.size w W → Calls Try.prog 8 #[b.v] W fun e w' => e = .returned (.bool (lgB b)) ∧ Below W.heap.size W w') := fun W hW => large_any b W (ib.still (still_of hW (Nat.le_refl _)) hW.size)
  have HE : Hid (∀ W, Calls Try.prog 14 #[b.v] W fun e w' => e = .returned (.func (.func 37) #[] #[.pointer (some ⟨W.heap.size, 0, none⟩)]) ∧ w' = W.alloc (.cells #[b.v] 22)) := fun W => each_any b W
  have HR : Hid (∀ W, Below w.heap.size w W → Calls Try.prog 15 #[b.v] W fun e w' => ∃ A cap, e = .returned (.slice A (exsB b).length cap) ∧ (exsB b).length ≤ cap ∧ (∀ i, (hi : i < (exsB b).length) → ∃ b1 o, A = some ⟨b1, o, none⟩ ∧ X8 w' b1 (o + i * 8) (exsB b)[i]) ∧ Below W.heap.size W w') := fun W hW => (reach_any b W (ib.still (still_of hW (Nat.le_refl _)) hW.size) (by omega)).mono fun e w' ⟨v, h1, h2, h3⟩ => by
    obtain ⟨A, cap, rfl, h4, h5⟩ := h2.at_
    exact ⟨A, cap, h1, h4, h5, h3⟩
  have fr0 := fun i => frozen_out w (w.heap.size) i (by omega)
  have fr1 := fun i => frozen_out w (w.heap.size + 1) i (by omega)
  have heq := eql_fn Try.underlying27
  obtain ⟨L, hL⟩ : ∃ L, lgB b = L := ⟨_, rfl⟩
  rw [hL] at HL
  clear hL
  refine (callsIn_wide (n := 6)).1 ?_
  refine callsIn_of_wp_marks Try.func4 rfl trivial ?_ rfl
  simp only [Try.ntmps4, List.size_toArray, List.length_cons, List.length_nil, Nat.reduceAdd, Nat.reduceSub, Array.replicate_succ, Array.replicate_zero, List.push_toArray, List.append_toArray, List.nil_append, List.cons_append]
  cases L with
  | true =>
    gi_wp2_with (first | (refine ⟨trivial, ?_⟩; gi_at_call 8; (with_reducible refine (callsIn_wide.2 (HL.out _ ?_)).mono ?_); (focus ((repeat' (first | (with_reducible exact Below.refl _ _) | (with_reducible assumption) | (with_reducible refine Below.alloc ?_ ?_ _) | (with_reducible refine below_drewN ?_ _) | (with_reducible refine Below.drew ?_) | (with_reducible refine Below.setCell ?_ ?_ _) | (with_reducible refine below_via (by assumption) ?_ ?_) | (with_reducible refine below_via (later_below _) ?_ ?_) | (with_reducible exact Nat.le_refl _) | omega | (simp; omega) | (simp; done))))); rintro e w1 ⟨rfl, hb⟩; (refine mem hb ?_; intro N hN hz hc hf; (try simp at hN); subst hN)) | (refine ⟨trivial, ?_⟩; gi_at_call 9; (with_reducible refine (callsIn_wide.2 (awake_any _)).mono ?_); rintro e w1 ⟨rfl, hb⟩; (refine mem hb ?_; intro N hN hz hc hf; (try simp at hN); subst hN)))
    refine ⟨_, (by first | (simp [results, Try.results4, go_sem, *]; done) | (simp [results, Try.results4, go_sem, *]; rfl) | (simp [results, Try.results4, go_sem, ↓IntWalk.iteOmega, *]; try rfl)), rfl, ?_⟩
    (repeat' (first | (with_reducible exact Below.refl _ _) | (with_reducible assumption) | (with_reducible refine Below.alloc ?_ ?_ _) | (with_reducible refine below_drewN ?_ _) | (with_reducible refine Below.drew ?_) | (with_reducible refine Below.setCell ?_ ?_ _) | (with_reducible refine below_via (by assumption) ?_ ?_) | (with_reducible refine below_via (later_below _) ?_ ?_) | (with_reducible exact Nat.le_refl _) | omega | (simp; omega) | (simp; done)))
  | false =>
    gi_wp2_with (first | (refine ⟨trivial, ?_⟩; gi_at_call 8; (with_reducible refine (callsIn_wide.2 (HL.out _ ?_)).mono ?_); (focus ((repeat' (first | (with_reducible exact Below.refl _ _) | (with_reducible assumption) | (with_reducible refine Below.alloc ?_ ?_ _) | (with_reducible refine below_drewN ?_ _) | (with_reducible refine Below.drew ?_) | (with_reducible refine Below.setCell ?_ ?_ _) | (with_reducible refine below_via (by assumption) ?_ ?_) | (with_reducible refine below_via (later_below _) ?_ ?_) | (with_reducible exact Nat.le_refl _) | omega | (simp; omega) | (simp; done))))); rintro e w1 ⟨rfl, hb1⟩; have hz1 : w.heap.size + 1 + 1 ≤ w1.heap.size := by have := hb1.size; simpa using this) | (refine ⟨trivial, ?_⟩; gi_at_call 14; (with_reducible refine (callsIn_wide.2 (HE.out _)).mono ?_); rintro e w2 ⟨rfl, rfl⟩) | (refine ⟨trivial, ?_⟩; gi_at_call 15; (with_reducible refine (callsIn_wide.2 (HR.out _ ?_)).mono ?_); (focus ((repeat' (first | (with_reducible exact Below.refl _ _) | (with_reducible assumption) | (with_reducible refine Below.alloc ?_ ?_ _) | (with_reducible refine below_drewN ?_ _) | (with_reducible refine Below.drew ?_) | (with_reducible refine Below.setCell ?_ ?_ _) | (with_reducible refine below_via (by assumption) ?_ ?_) | (with_reducible refine below_via (later_below _) ?_ ?_) | (with_reducible exact Nat.le_refl _) | omega | (simp; omega) | (simp; done))))); rintro e w3 ⟨A, cap, rfl, hcap, hO, hb3⟩; have HO := Lib.hid hO; clear hO; have hz3 := hb3.size))
    have hB1 : Below w.heap.size w w1 := by (repeat' (first | (with_reducible exact Below.refl _ _) | (with_reducible assumption) | (with_reducible refine Below.alloc ?_ ?_ _) | (with_reducible refine below_drewN ?_ _) | (with_reducible refine Below.drew ?_) | (with_reducible refine Below.setCell ?_ ?_ _) | (with_reducible refine below_via (by assumption) ?_ ?_) | (with_reducible refine below_via (later_below _) ?_ ?_) | (with_reducible exact Nat.le_refl _) | omega | (simp; omega) | (simp; done)))
    have k3 : w1.cell? ⟨w.heap.size, 0, none⟩ = some (.int .i64 most) := (hb1.cell (p := ⟨w.heap.size, 0, none⟩) (by simp; omega)).trans (by simp [cell_alloc_if])
    have k4 : w1.cell? ⟨w.heap.size + 1, 0, none⟩ = some (.bool false) := (hb1.cell (p := ⟨w.heap.size + 1, 0, none⟩) (by simp)).trans (by simp [cell_alloc_if])
    have kf : w1.frozen? ⟨w.heap.size + 1, 0, none⟩ = false := (hb1.frozen (p := ⟨w.heap.size + 1, 0, none⟩) (by simp)).trans (by simp [frozen_alloc, fr1])
    have hw1 : w.heap.size + 2 ≤ w1.heap.size := hz1
    have hw3 : w1.heap.size + 1 ≤ w3.heap.size := by simpa using hz3
    have m3 : w3.cell? ⟨w.heap.size, 0, none⟩ = some (.int .i64 most) := (hb3.cell (p := ⟨w.heap.size, 0, none⟩) (by simp; omega)).trans (by simp [cell_alloc_if, k3]; omega)
    have m4 : w3.cell? ⟨w.heap.size + 1, 0, none⟩ = some (.bool false) := (hb3.cell (p := ⟨w.heap.size + 1, 0, none⟩) (by simp; omega)).trans (by simp [cell_alloc_if, k4]; omega)
    have mf : w3.frozen? ⟨w.heap.size + 1, 0, none⟩ = false := (hb3.frozen (p := ⟨w.heap.size + 1, 0, none⟩) (by simp; omega)).trans (by simp [frozen_alloc, kf])
    have my : w3.cell? ⟨w1.heap.size, 0, none⟩ = some b.v := (hb3.cell (p := ⟨w1.heap.size, 0, none⟩) (by simp)).trans (by simp [cell_alloc_if])
    have hB3 : Below w.heap.size w w3 := hB1.trans ((((Below.refl _ w1).alloc (Nat.le_refl _) _).trans (hb3.mono (by simp))).mono (by omega))
    have ib3 : InB w3 w3.heap.size b := ib.still (still_of hB3 (Nat.le_refl _)) (by omega)
    obtain ⟨W0, hW0⟩ : ∃ W0, ((w3.alloc (.cells #[.slice A (exsB b).length cap] 29)).alloc (.cells #[.int .i64 0] 3)) = W0 := ⟨_, rfl⟩
    rw [hW0]
    obtain ⟨zn, hzn⟩ : ∃ z, w3.heap.size + 1 = z := ⟨_, rfl⟩
    obtain ⟨zw, hzw⟩ : ∃ z, w3.heap.size = z := ⟨_, rfl⟩
    have hs0 : W0.heap.size = zn + 1 := by rw [← hW0, ← hzn]; simp
    have hB30 : Below w3.heap.size w3 W0 := by rw [← hW0]; (repeat' (first | (with_reducible exact Below.refl _ _) | (with_reducible assumption) | (with_reducible refine Below.alloc ?_ ?_ _) | (with_reducible refine below_drewN ?_ _) | (with_reducible refine Below.drew ?_) | (with_reducible refine Below.setCell ?_ ?_ _) | (with_reducible refine below_via (by assumption) ?_ ?_) | (with_reducible refine below_via (later_below _) ?_ ?_) | (with_reducible exact Nat.le_refl _) | omega | (simp; omega) | (simp; done)))
    have n0 : W0.cell? ⟨zn, 0, none⟩ = some (.int .i64 0) := by rw [← hW0, ← hzn]; simp [cell_alloc_if]
    have n1 : W0.frozen? ⟨zn, 0, none⟩ = false := by rw [← hW0, ← hzn]; simp [frozen_alloc, frozen_out]
    have n6 : W0.cell? ⟨zw, 0, none⟩ = some (.slice A (exsB b).length cap) := by rw [← hW0, ← hzw]; simp [cell_alloc_if]
    have n3 : W0.cell? ⟨w.heap.size, 0, none⟩ = some (.int .i64 most) := (hB30.cell (p := ⟨w.heap.size, 0, none⟩) (by show w.heap.size < _; omega)).trans m3
    have n4 : W0.cell? ⟨w.heap.size + 1, 0, none⟩ = some (.bool false) := (hB30.cell (p := ⟨w.heap.size + 1, 0, none⟩) (by show w.heap.size + 1 < _; omega)).trans m4
    have nf : W0.frozen? ⟨w.heap.size + 1, 0, none⟩ = false := (hB30.frozen (p := ⟨w.heap.size + 1, 0, none⟩) (by show w.heap.size + 1 < _; omega)).trans mf
    have ny : W0.cell? ⟨w1.heap.size, 0, none⟩ = some b.v := (hB30.cell (p := ⟨w1.heap.size, 0, none⟩) (by show w1.heap.size < _; omega)).trans my
    have ib0 : InB W0 zn b := ib3.still (still_of hB30 (Nat.le_refl _)) (by omega)
    have HX0 : ∀ i (hi : i < (exsB b).length), ∃ b1 o, A = some ⟨b1, o, none⟩ ∧ b1 < zn ∧ X8 W0 b1 (o + i * 8) (exsB b)[i] := fun i hi => by
      obtain ⟨b1, o, h1, h2⟩ := HO.out i hi
      have hlt := cell_lt h2.1
      exact ⟨b1, o, h1, by omega, x8_still (still_of hB30 (Nat.le_refl _)) _ _ _ hlt h2⟩
    have hB0 : Below w.heap.size w W0 := hB3.trans (hB30.mono (by omega))
    obtain ⟨ys, hys⟩ : ∃ ys : List {x : TX // InX W0 zn x}, ys.map (fun x => x.1) = exsB b := ⟨(exsB b).attachWith _ (exsB_in ib0), by simp⟩
    have hyl : ys.length = (exsB b).length := by rw [← hys, List.length_map]
    have hlen : (exsB b).length ≤ 1048576 := Nat.le_trans (exsB_len b) hrk
    have HXs : Hid (∀ i (hi : i < ys.length), ∃ b1 o, A = some ⟨b1, o, none⟩ ∧ b1 < zn ∧ X8 W0 b1 (o + i * 8) (ys[i]).1) := fun i hi => by
      obtain ⟨b1, o, h1, h2, h3⟩ := HX0 i (by omega)
      refine ⟨b1, o, h1, h2, ?_⟩
      have e : (exsB b)[i]'(by omega) = (ys[i]).1 := by
        have e2 : (exsB b)[i]? = (ys.map (fun x => x.1))[i]? := by rw [hys]
        rw [List.getElem?_eq_getElem (by omega), List.getElem?_map, List.getElem?_eq_getElem hi] at e2
        exact Option.some.inj e2
      rw [← e]
      exact h3
    have EXACT := Lib.hid (each_stops 5 zn W0.heap.size w1.heap.size b ys hys (by omega) W0 ib0 (Nat.le_refl _) ny)
    obtain ⟨zb, hzb⟩ : ∃ z, w1.heap.size = z := ⟨_, rfl⟩
    have hzb2 : zb < zn := by omega
    obtain ⟨nL, hnL⟩ : ∃ n, (exsB b).length = n := ⟨_, rfl⟩
    obtain ⟨z3, hz3'⟩ : ∃ z, w.heap.size = z := ⟨_, rfl⟩
    have hz32 : z3 + 1 < zn := by omega
    have hzw2 : zw + 1 = zn := by omega
    rw [hzb] at EXACT
    rw [hnL] at n6 hcap hlen hyl
    rw [hz3'] at n3 n4 nf
    have hB0' := Lib.hid hB0
    have HIB := Lib.hid ib0
    rw [hzn, hzw, hnL, hzb, hz3']
    clear hW0 hzn hzw hnL hzb ny my mf m4 m3 k3 k4 kf HX0 HO HE HR HL ib ib3 ib0 hB3 hB30 hB1 hb1 hb3 hB0 hw1 hw3 hz1 hz3 fr0 fr1 heq
    refine wpIn_rangeFunc_ownH rfl (by decide) (gf := 37) (lb := #[.pointer (some ⟨zb, 0, none⟩)]) rfl trivial (enters_of Try.func37 (by kernel_rfl) rfl)
      EXACT.out keptK_t (keptK_b (by omega)) (Below.refl _ _) (fun _ => rfl)
      (fun pre W => (W.cell? ⟨zn, 0, none⟩ = some (.int .i64 pre.length) ∧ W.frozen? ⟨zn, 0, none⟩ = false) ∧ Below zn W0 W)
      (fun c pre W => ¬ pre <+: ys ∨ (c = .exit 0 ∧ (pre.length : Int) = most ∧ W.cell? ⟨zn, 0, none⟩ = some (.int .i64 pre.length) ∧ Below zn W0 W))
      (OwnFrom.and (Own.from (fun s A B row hs hg hr => ⟨cell_kept hs.1 hg hr, (frozen_kept hs.1 hg hr).trans hs.2⟩) _) (ownFrom_below (by omega) (by omega)))
      (fun c s X Y row hs hg hr => by
        rcases hs with hs | ⟨h1, h2, h3, h4⟩
        · exact .inl hs
        · exact .inr ⟨h1, h2, cell_kept h3 hg (fun r e => (hr r e).2), ownFrom_below (β := Unit) (B := W0.heap.size) (by omega) (by omega) () X Y row h4 hg hr⟩)
      ⟨⟨n0, n1⟩, Below.refl _ _⟩
      (fun x a' W => ∃ Bx, zn < Bx ∧ XBox W Bx x.1 ∧ a' = { tmps := #[b.v, .int .i64 most, undef, .pointer (some ⟨z3, 0, none⟩), .pointer (some ⟨z3 + 1, 0, none⟩), .func (.func 37) #[] #[.pointer (some ⟨zb, 0, none⟩)], .pointer (some ⟨zw, 0, none⟩), .pointer (some ⟨zn, 0, none⟩), .pointer (some ⟨Bx, 0, none⟩), b.v, .bool false, undef, b.v, .func (.func 37) #[] #[.pointer (some ⟨zb, 0, none⟩)], .func (.func 37) #[] #[.pointer (some ⟨zb, 0, none⟩)], .bool false, b.v, .slice A nL cap, .func (.func 37) #[] #[.pointer (some ⟨zb, 0, none⟩)], x.1.v, undef, undef, undef, undef, undef, undef, undef, undef, undef, undef, undef, undef, undef, undef, undef, undef, undef, undef, undef, undef, undef, undef, undef, undef, undef, undef, undef, undef, undef, undef, undef, undef, undef, undef, undef, undef, undef, undef, undef, undef], defers := [] })
      (fun x a' _ X Y row hs hg hr => by
        obtain ⟨Bx, h1, h2, h3⟩ := hs
        exact ⟨Bx, h1, h2.kept hg (fun e => by obtain ⟨-, o, ho, hc⟩ := hr Bx e.symm; rw [show X.heap[Bx]? = _ from h2] at ho; cases ho; cases hc), h3⟩) ?assign ?body ?done ?stop
    case assign =>
      rintro l pre x W K ⟨⟨hcn, hfn⟩, hB⟩ hK
      have hz := hB.size
      gi_wp2
      have hg : ∀ o, W.grownBy (W.alloc o) none := fun o => World.grownBy_alloc W o none
      exact hK _ _ ((KeepsOthers.alloc _ _).from _) (kept_of ((Below.refl _ W).alloc (Nat.le_refl _) _) (by omega))
        ⟨⟨cell_kept hcn (hg _) (fun r e => by cases e), (frozen_kept hcn (hg _) (fun r e => by cases e)).trans hfn⟩, hB.alloc (by omega) _⟩
        ⟨W.heap.size, by omega, XBox.new W x.1, rfl⟩
    case body =>
      rintro l pre x a' W hl ⟨r, hr⟩ ⟨⟨hcn, hfn⟩, hB⟩ ⟨Bx, hBx, bX, rfl⟩ hlt
      have hz := hB.size
      have hBl := cell_lt bX.cells.1
      obtain ⟨x0, x1, x2, x3, x4, x5, x6, x7⟩ := bX.cells
      have hw6 : W.cell? ⟨zw, 0, none⟩ = some (.slice A nL cap) := (hB.cell (p := ⟨zw, 0, none⟩) (by show zw < zn; omega)).trans n6
      have hw3 : W.cell? ⟨z3, 0, none⟩ = some (.int .i64 most) := (hB.cell (p := ⟨z3, 0, none⟩) (by show z3 < zn; omega)).trans n3
      have hw4 : W.cell? ⟨z3 + 1, 0, none⟩ = some (.bool false) := (hB.cell (p := ⟨z3 + 1, 0, none⟩) (by show z3 + 1 < zn; omega)).trans n4
      have hwf : W.frozen? ⟨z3 + 1, 0, none⟩ = false := (hB.frozen (p := ⟨z3 + 1, 0, none⟩) (by show z3 + 1 < zn; omega)).trans nf
      obtain ⟨b1, o, rfl, hb1, hx8⟩ := HXs.out pre.length hlt
      have hnp : (ys[pre.length]'hlt).1 = x.1 ∨ ¬ (pre ++ [x]) <+: ys := by
        by_cases hp : (pre ++ [x]) <+: ys
        · left
          obtain ⟨t, ht⟩ := hp
          have e : ys[pre.length]? = some x := by rw [← ht]; simp
          rw [List.getElem?_eq_getElem hlt] at e
          rw [Option.some.inj e]
        · exact .inr hp
      have hy2 := (ys[pre.length]'hlt).2
      obtain ⟨y, hy⟩ : ∃ y, (ys[pre.length]'hlt).1 = y := ⟨_, rfl⟩
      rw [hy] at hx8 hnp hy2
      obtain ⟨c0, c1, c2, c3, c4, c5, c6, c7⟩ := x8_still (still_of hB (Nat.le_refl _)) _ _ _ hb1 hx8
      have hxW : InX W W.heap.size x.1 := x.2.still (still_of hB (Nat.le_refl _)) (by omega)
      have hyW : InX W W.heap.size y := hy2.still (still_of hB (Nat.le_refl _)) (by omega)
      have HS : Hid (∀ W', Below W.heap.size W W' → Calls Try.prog 16 #[x.1.v, y.v] W' fun r w' => r = .returned (.bool (seN (rkX x.1 + 1) (.inl (x.1, y)))) ∧ Below W'.heap.size W' w') := fun W' hW => (rsame_p _).1 x.1 y W' (by omega) (hxW.st hW) (hyW.st hW)
      have HM1 : Hid (∀ W', Calls Try.prog 17 #[x.1.v] W' fun e w' => e = .returned (.bool (multiB x.1)) ∧ Below W'.heap.size W' w') := fun W' => multi_any x.1 W'
      have HM2 : Hid (∀ W', Calls Try.prog 18 #[y.v] W' fun e w' => e = .returned (.bool (multiB y)) ∧ Below W'.heap.size W' w') := fun W' => rmulti_any y W'
      obtain ⟨s, hs⟩ : ∃ s, seN (rkX x.1 + 1) (.inl (x.1, y)) = s := ⟨_, rfl⟩
      obtain ⟨m1, hm1⟩ : ∃ s, multiB x.1 = s := ⟨_, rfl⟩
      obtain ⟨m2, hm2⟩ : ∃ s, multiB y = s := ⟨_, rfl⟩
      have hsm : (s = true ∧ m1 = m2) ∨ ¬ (pre ++ [x]) <+: ys := by
        rcases hnp with e | e
        · refine .inl ⟨?_, ?_⟩
          · rw [← hs, ← e, (seN_refl _).1]
          · rw [← hm1, ← hm2, e]
        · exact .inr e
      rw [hs] at HS
      rw [hm1] at HM1
      rw [hm2] at HM2
      have hBW := Lib.hid hB
      have bge : decide (nL ≤ pre.length) = false := by simp; omega
      have hix : pre.length < nL := by omega
      have hpl : (pre.length : Int) < 1048576 := by omega
      have hzlt : zn < W.heap.size := by omega
      have hzb1 : b1 < W.heap.size := by omega
      have hz3l : z3 + 1 < W.heap.size := by omega
      have hzwl : zw < W.heap.size := by omega
      clear hx8 hnp hs hm1 hm2 hy hy2 hxW hyW HXs EXACT hys hB bX hr hzb1
      cases s with
      | false =>
        have hnp : ¬ (pre ++ [x]) <+: ys := by rcases hsm with ⟨h, -⟩ | h; cases h; exact h
        gi_wp2
        (refine wpIn_region_calm (by kernel_rfl) (by kernel_rfl) (by kernel_rfl) ?_; refine calm_mem ?_; intro N hN hne hcu; (try simp at hN); subst hN; (repeat ((refine wpQuiet_step (fun K hK => ?_)); go_simp; (repeat (simp only [↓IntWalk.iteOmega]; go_simp)); (first | (refine hK _ ?_; clear hK K) | (apply Exists.intro; refine ⟨fun _ => ?_, hK _ ?_⟩; (first | (go_at_call 16; refine calm_of (HS.out _ ?_); (repeat' (first | (with_reducible exact Below.refl _ _) | (with_reducible assumption) | (with_reducible refine Below.alloc ?_ ?_ _) | (with_reducible refine below_drewN ?_ _) | (with_reducible refine Below.drew ?_) | (with_reducible refine Below.setCell ?_ ?_ _) | (with_reducible refine below_via (by assumption) ?_ ?_) | (with_reducible refine below_via (later_below _) ?_ ?_) | (with_reducible exact Nat.le_refl _) | omega | (simp; omega) | (simp; done)))) | (go_at_call 17; refine calm_of (HM1.out _)) | (go_at_call 18; refine calm_of (HM2.out _))); clear hK K)))); refine wpQuiet_nil ?_; intro _ hw'; obtain ⟨⟨w1, hb⟩, hw''⟩ := hw'; subst hw''; clear hcu hne; (try dsimp only); (refine mem hb ?_; intro N hN hz hc hf; (try simp at hN); subst hN))
        gi_wp2
        rename_i w9
        exact ⟨((keeps_of hb).trans (KeepsOthers.setCell _ _ _)).from _, .inl hnp⟩
      | true =>
        cases m1 with
        | true =>
          cases m2 with
          | true =>
            by_cases hm : pre.length + 1 = most.toNat ∧ 0 ≤ most
            · have hmo : most = (pre.length : Int) + 1 := by omega
              subst hmo
              gi_wp2
              (refine wpIn_region_calm (by kernel_rfl) (by kernel_rfl) (by kernel_rfl) ?_; refine calm_mem ?_; intro N hN hne hcu; (try simp at hN); subst hN; (repeat ((refine wpQuiet_step (fun K hK => ?_)); go_simp; (repeat (simp only [↓IntWalk.iteOmega]; go_simp)); (first | (refine hK _ ?_; clear hK K) | (apply Exists.intro; refine ⟨fun _ => ?_, hK _ ?_⟩; (first | (go_at_call 16; refine calm_of (HS.out _ ?_); (repeat' (first | (with_reducible exact Below.refl _ _) | (with_reducible assumption) | (with_reducible refine Below.alloc ?_ ?_ _) | (with_reducible refine below_drewN ?_ _) | (with_reducible refine Below.drew ?_) | (with_reducible refine Below.setCell ?_ ?_ _) | (with_reducible refine below_via (by assumption) ?_ ?_) | (with_reducible refine below_via (later_below _) ?_ ?_) | (with_reducible exact Nat.le_refl _) | omega | (simp; omega) | (simp; done)))) | (go_at_call 17; refine calm_of (HM1.out _)) | (go_at_call 18; refine calm_of (HM2.out _))); clear hK K)))); refine wpQuiet_nil ?_; intro _ hw'; obtain ⟨⟨w1, hb⟩, hw''⟩ := hw'; subst hw''; clear hcu hne; (try dsimp only); (refine mem hb ?_; intro N hN hz hc hf; (try simp at hN); subst hN))
              gi_wp2
              rename_i w9
              have g0 : w9.cell? ⟨zn, 0, none⟩ = some (.int .i64 pre.length) := (hb.cell (p := ⟨zn, 0, none⟩) hzlt).trans hcn
              have gf : w9.frozen? ⟨zn, 0, none⟩ = false := (hb.frozen (p := ⟨zn, 0, none⟩) hzlt).trans hfn
              have gB : Below zn W0 w9 := hBW.out.trans (hb.mono (by omega))
              have e1 : (.int .i64 ((pre ++ [x]).length : Int) : Value) = .int .i64 ((pre.length : Int) + 1) := by simp
              exact ⟨((keeps_of hb).trans (KeepsOthers.setCell _ _ _)).from _, .inr ⟨rfl, by simp, e1 ▸ World.cell?_setCell_same _ _ _ g0, gB.setCell (p := ⟨zn, 0, none⟩) (Nat.le_refl _) _⟩⟩
            · have hmo : ¬ (pre.length : Int) + 1 = most := by omega
              have bmo : ((pre.length : Int) + 1 == most) = false := by simpa using hmo
              gi_wp2
              (refine wpIn_region_calm (by kernel_rfl) (by kernel_rfl) (by kernel_rfl) ?_; refine calm_mem ?_; intro N hN hne hcu; (try simp at hN); subst hN; (repeat ((refine wpQuiet_step (fun K hK => ?_)); go_simp; (repeat (simp only [↓IntWalk.iteOmega]; go_simp)); (first | (refine hK _ ?_; clear hK K) | (apply Exists.intro; refine ⟨fun _ => ?_, hK _ ?_⟩; (first | (go_at_call 16; refine calm_of (HS.out _ ?_); (repeat' (first | (with_reducible exact Below.refl _ _) | (with_reducible assumption) | (with_reducible refine Below.alloc ?_ ?_ _) | (with_reducible refine below_drewN ?_ _) | (with_reducible refine Below.drew ?_) | (with_reducible refine Below.setCell ?_ ?_ _) | (with_reducible refine below_via (by assumption) ?_ ?_) | (with_reducible refine below_via (later_below _) ?_ ?_) | (with_reducible exact Nat.le_refl _) | omega | (simp; omega) | (simp; done)))) | (go_at_call 17; refine calm_of (HM1.out _)) | (go_at_call 18; refine calm_of (HM2.out _))); clear hK K)))); refine wpQuiet_nil ?_; intro _ hw'; obtain ⟨⟨w1, hb⟩, hw''⟩ := hw'; subst hw''; clear hcu hne; (try dsimp only); (refine mem hb ?_; intro N hN hz hc hf; (try simp at hN); subst hN))
              gi_wp2
              rename_i w9
              have g0 : w9.cell? ⟨zn, 0, none⟩ = some (.int .i64 pre.length) := (hb.cell (p := ⟨zn, 0, none⟩) hzlt).trans hcn
              have gf : w9.frozen? ⟨zn, 0, none⟩ = false := (hb.frozen (p := ⟨zn, 0, none⟩) hzlt).trans hfn
              have gB : Below zn W0 w9 := hBW.out.trans (hb.mono (by omega))
              have e1 : (.int .i64 ((pre ++ [x]).length : Int) : Value) = .int .i64 ((pre.length : Int) + 1) := by simp
              exact ⟨((keeps_of hb).trans (KeepsOthers.setCell _ _ _)).from _, (kept_of hb (by omega)).trans (kept_set _ _ (Nat.le_refl _) (by omega)), ⟨e1 ▸ World.cell?_setCell_same _ _ _ g0, by rw [World.frozen?_setCell]; exact gf⟩, gB.setCell (p := ⟨zn, 0, none⟩) (Nat.le_refl _) _⟩
          | false =>
            have hnp : ¬ (pre ++ [x]) <+: ys := by rcases hsm with ⟨-, h⟩ | h; cases h; exact h
            gi_wp2
            (refine wpIn_region_calm (by kernel_rfl) (by kernel_rfl) (by kernel_rfl) ?_; refine calm_mem ?_; intro N hN hne hcu; (try simp at hN); subst hN; (repeat ((refine wpQuiet_step (fun K hK => ?_)); go_simp; (repeat (simp only [↓IntWalk.iteOmega]; go_simp)); (first | (refine hK _ ?_; clear hK K) | (apply Exists.intro; refine ⟨fun _ => ?_, hK _ ?_⟩; (first | (go_at_call 16; refine calm_of (HS.out _ ?_); (repeat' (first | (with_reducible exact Below.refl _ _) | (with_reducible assumption) | (with_reducible refine Below.alloc ?_ ?_ _) | (with_reducible refine below_drewN ?_ _) | (with_reducible refine Below.drew ?_) | (with_reducible refine Below.setCell ?_ ?_ _) | (with_reducible refine below_via (by assumption) ?_ ?_) | (with_reducible refine below_via (later_below _) ?_ ?_) | (with_reducible exact Nat.le_refl _) | omega | (simp; omega) | (simp; done)))) | (go_at_call 17; refine calm_of (HM1.out _)) | (go_at_call 18; refine calm_of (HM2.out _))); clear hK K)))); refine wpQuiet_nil ?_; intro _ hw'; obtain ⟨⟨w1, hb⟩, hw''⟩ := hw'; subst hw''; clear hcu hne; (try dsimp only); (refine mem hb ?_; intro N hN hz hc hf; (try simp at hN); subst hN))
            gi_wp2
            rename_i w9
            exact ⟨((keeps_of hb).trans (KeepsOthers.setCell _ _ _)).from _, .inl hnp⟩
        | false =>
          cases m2 with
          | true =>
            have hnp : ¬ (pre ++ [x]) <+: ys := by rcases hsm with ⟨-, h⟩ | h; cases h; exact h
            gi_wp2
            (refine wpIn_region_calm (by kernel_rfl) (by kernel_rfl) (by kernel_rfl) ?_; refine calm_mem ?_; intro N hN hne hcu; (try simp at hN); subst hN; (repeat ((refine wpQuiet_step (fun K hK => ?_)); go_simp; (repeat (simp only [↓IntWalk.iteOmega]; go_simp)); (first | (refine hK _ ?_; clear hK K) | (apply Exists.intro; refine ⟨fun _ => ?_, hK _ ?_⟩; (first | (go_at_call 16; refine calm_of (HS.out _ ?_); (repeat' (first | (with_reducible exact Below.refl _ _) | (with_reducible assumption) | (with_reducible refine Below.alloc ?_ ?_ _) | (with_reducible refine below_drewN ?_ _) | (with_reducible refine Below.drew ?_) | (with_reducible refine Below.setCell ?_ ?_ _) | (with_reducible refine below_via (by assumption) ?_ ?_) | (with_reducible refine below_via (later_below _) ?_ ?_) | (with_reducible exact Nat.le_refl _) | omega | (simp; omega) | (simp; done)))) | (go_at_call 17; refine calm_of (HM1.out _)) | (go_at_call 18; refine calm_of (HM2.out _))); clear hK K)))); refine wpQuiet_nil ?_; intro _ hw'; obtain ⟨⟨w1, hb⟩, hw''⟩ := hw'; subst hw''; clear hcu hne; (try dsimp only); (refine mem hb ?_; intro N hN hz hc hf; (try simp at hN); subst hN))
            gi_wp2
            rename_i w9
            exact ⟨((keeps_of hb).trans (KeepsOthers.setCell _ _ _)).from _, .inl hnp⟩
          | false =>
            by_cases hm : pre.length + 1 = most.toNat ∧ 0 ≤ most
            · have hmo : most = (pre.length : Int) + 1 := by omega
              subst hmo
              gi_wp2
              (refine wpIn_region_calm (by kernel_rfl) (by kernel_rfl) (by kernel_rfl) ?_; refine calm_mem ?_; intro N hN hne hcu; (try simp at hN); subst hN; (repeat ((refine wpQuiet_step (fun K hK => ?_)); go_simp; (repeat (simp only [↓IntWalk.iteOmega]; go_simp)); (first | (refine hK _ ?_; clear hK K) | (apply Exists.intro; refine ⟨fun _ => ?_, hK _ ?_⟩; (first | (go_at_call 16; refine calm_of (HS.out _ ?_); (repeat' (first | (with_reducible exact Below.refl _ _) | (with_reducible assumption) | (with_reducible refine Below.alloc ?_ ?_ _) | (with_reducible refine below_drewN ?_ _) | (with_reducible refine Below.drew ?_) | (with_reducible refine Below.setCell ?_ ?_ _) | (with_reducible refine below_via (by assumption) ?_ ?_) | (with_reducible refine below_via (later_below _) ?_ ?_) | (with_reducible exact Nat.le_refl _) | omega | (simp; omega) | (simp; done)))) | (go_at_call 17; refine calm_of (HM1.out _)) | (go_at_call 18; refine calm_of (HM2.out _))); clear hK K)))); refine wpQuiet_nil ?_; intro _ hw'; obtain ⟨⟨w1, hb⟩, hw''⟩ := hw'; subst hw''; clear hcu hne; (try dsimp only); (refine mem hb ?_; intro N hN hz hc hf; (try simp at hN); subst hN))
              gi_wp2
              rename_i w9
              have g0 : w9.cell? ⟨zn, 0, none⟩ = some (.int .i64 pre.length) := (hb.cell (p := ⟨zn, 0, none⟩) hzlt).trans hcn
              have gf : w9.frozen? ⟨zn, 0, none⟩ = false := (hb.frozen (p := ⟨zn, 0, none⟩) hzlt).trans hfn
              have gB : Below zn W0 w9 := hBW.out.trans (hb.mono (by omega))
              have e1 : (.int .i64 ((pre ++ [x]).length : Int) : Value) = .int .i64 ((pre.length : Int) + 1) := by simp
              exact ⟨((keeps_of hb).trans (KeepsOthers.setCell _ _ _)).from _, .inr ⟨rfl, by simp, e1 ▸ World.cell?_setCell_same _ _ _ g0, gB.setCell (p := ⟨zn, 0, none⟩) (Nat.le_refl _) _⟩⟩
            · have hmo : ¬ (pre.length : Int) + 1 = most := by omega
              have bmo : ((pre.length : Int) + 1 == most) = false := by simpa using hmo
              gi_wp2
              (refine wpIn_region_calm (by kernel_rfl) (by kernel_rfl) (by kernel_rfl) ?_; refine calm_mem ?_; intro N hN hne hcu; (try simp at hN); subst hN; (repeat ((refine wpQuiet_step (fun K hK => ?_)); go_simp; (repeat (simp only [↓IntWalk.iteOmega]; go_simp)); (first | (refine hK _ ?_; clear hK K) | (apply Exists.intro; refine ⟨fun _ => ?_, hK _ ?_⟩; (first | (go_at_call 16; refine calm_of (HS.out _ ?_); (repeat' (first | (with_reducible exact Below.refl _ _) | (with_reducible assumption) | (with_reducible refine Below.alloc ?_ ?_ _) | (with_reducible refine below_drewN ?_ _) | (with_reducible refine Below.drew ?_) | (with_reducible refine Below.setCell ?_ ?_ _) | (with_reducible refine below_via (by assumption) ?_ ?_) | (with_reducible refine below_via (later_below _) ?_ ?_) | (with_reducible exact Nat.le_refl _) | omega | (simp; omega) | (simp; done)))) | (go_at_call 17; refine calm_of (HM1.out _)) | (go_at_call 18; refine calm_of (HM2.out _))); clear hK K)))); refine wpQuiet_nil ?_; intro _ hw'; obtain ⟨⟨w1, hb⟩, hw''⟩ := hw'; subst hw''; clear hcu hne; (try dsimp only); (refine mem hb ?_; intro N hN hz hc hf; (try simp at hN); subst hN))
              gi_wp2
              rename_i w9
              have g0 : w9.cell? ⟨zn, 0, none⟩ = some (.int .i64 pre.length) := (hb.cell (p := ⟨zn, 0, none⟩) hzlt).trans hcn
              have gf : w9.frozen? ⟨zn, 0, none⟩ = false := (hb.frozen (p := ⟨zn, 0, none⟩) hzlt).trans hfn
              have gB : Below zn W0 w9 := hBW.out.trans (hb.mono (by omega))
              have e1 : (.int .i64 ((pre ++ [x]).length : Int) : Value) = .int .i64 ((pre.length : Int) + 1) := by simp
              exact ⟨((keeps_of hb).trans (KeepsOthers.setCell _ _ _)).from _, (kept_of hb (by omega)).trans (kept_set _ _ (Nat.le_refl _) (by omega)), ⟨e1 ▸ World.cell?_setCell_same _ _ _ g0, by rw [World.frozen?_setCell]; exact gf⟩, gB.setCell (p := ⟨zn, 0, none⟩) (Nat.le_refl _) _⟩
    case done =>
      rintro D xs W hD rfl ⟨⟨hcn, hfn⟩, hB⟩ hK
      have hz := hB.size
      rw [hyl] at hcn
      have hw6 : W.cell? ⟨zw, 0, none⟩ = some (.slice A nL cap) := (hB.cell (p := ⟨zw, 0, none⟩) (by show zw < zn; omega)).trans n6
      have hw4 : W.cell? ⟨z3 + 1, 0, none⟩ = some (.bool false) := (hB.cell (p := ⟨z3 + 1, 0, none⟩) (by show z3 + 1 < zn; omega)).trans n4
      have hwf : W.frozen? ⟨z3 + 1, 0, none⟩ = false := (hB.frozen (p := ⟨z3 + 1, 0, none⟩) (by show z3 + 1 < zn; omega)).trans nf
      have hz3l : z3 + 1 < W.heap.size := by omega
      gi_wp2_with (refine ⟨trivial, ?_⟩; gi_at_call 9; (with_reducible refine (callsIn_wide.2 (awake_any _)).mono ?_); rintro e w1 ⟨rfl, hb⟩; (refine mem hb ?_; intro N hN hz hc hf; (try simp at hN); subst hN))
      have hzl := hb.size
      have g4 : w1.cell? ⟨z3 + 1, 0, none⟩ = some (.bool false) := (hb.cell (p := ⟨z3 + 1, 0, none⟩) (by show z3 + 1 < _; omega)).trans hw4
      have hK8 := (hb.block D (Array.getElem?_eq_some_iff.1 hK).1).trans hK
      have hK9 : (w1.setCell ⟨z3 + 1, 0, none⟩ (.bool true)).heap[D]? = some (.deferred (some [])) := (Below.heap_setCell _ _ _ _ (by show D ≠ z3 + 1; omega)).trans hK8
      have h9 : ((w1.setCell ⟨z3 + 1, 0, none⟩ (.bool true)).putObj D (.deferred none)).cell? ⟨z3 + 1, 0, none⟩ = some (.bool true) := cell_kept (World.cell?_setCell_same _ _ _ g4) (grownBy_putObj' _ D (.deferred none)) (fun r e => by cases e; exact ⟨_, hK9, rfl⟩)
      refine ⟨by simp, .inl ⟨_, _, rfl, run_takeDeferred hK9, ?_⟩⟩
      refine ⟨_, (by first | (simp [results, Try.results4, go_sem, *]; done) | (simp [results, Try.results4, go_sem, *]; rfl) | (simp [results, Try.results4, go_sem, ↓IntWalk.iteOmega, *]; try rfl)), rfl, ?_⟩
      refine (((hB0'.out.trans (hB.mono (by omega))).trans (hb.mono (by omega))).setCell (p := ⟨z3 + 1, 0, none⟩) (by show w.heap.size ≤ z3 + 1; omega) (.bool true)).trans ?_
      exact belowK_b (w := w) (Nat.le_refl _) _ D _ _ (by omega) hK9 rfl rfl
    case stop =>
      rintro D c pre W hD hpre hix hK
      rcases hix with h | ⟨rfl, hm, hcn, hB⟩
      · exact absurd hpre h
      · have hz := hB.size
        have hw6 : W.cell? ⟨zw, 0, none⟩ = some (.slice A nL cap) := (hB.cell (p := ⟨zw, 0, none⟩) (by show zw < zn; omega)).trans n6
        have hw3 : W.cell? ⟨z3, 0, none⟩ = some (.int .i64 most) := (hB.cell (p := ⟨z3, 0, none⟩) (by show z3 < zn; omega)).trans n3
        have hw4 : W.cell? ⟨z3 + 1, 0, none⟩ = some (.bool false) := (hB.cell (p := ⟨z3 + 1, 0, none⟩) (by show z3 + 1 < zn; omega)).trans n4
        have hwf : W.frozen? ⟨z3 + 1, 0, none⟩ = false := (hB.frozen (p := ⟨z3 + 1, 0, none⟩) (by show z3 + 1 < zn; omega)).trans nf
        have hz3l : z3 + 1 < W.heap.size := by omega
        rw [← hm] at hw3
        by_cases hq : pre.length = nL
        · subst hq
          gi_wp2_with (refine ⟨trivial, ?_⟩; gi_at_call 9; (with_reducible refine (callsIn_wide.2 (awake_any _)).mono ?_); rintro e w1 ⟨rfl, hb⟩; (refine mem hb ?_; intro N hN hz hc hf; (try simp at hN); subst hN))
          have hzl := hb.size
          have g4 : w1.cell? ⟨z3 + 1, 0, none⟩ = some (.bool false) := (hb.cell (p := ⟨z3 + 1, 0, none⟩) (by show z3 + 1 < _; omega)).trans hw4
          have hK8 := (hb.block D (Array.getElem?_eq_some_iff.1 hK).1).trans hK
          have hK9 : (w1.setCell ⟨z3 + 1, 0, none⟩ (.bool true)).heap[D]? = some (.deferred (some [])) := (Below.heap_setCell _ _ _ _ (by show D ≠ z3 + 1; omega)).trans hK8
          have h9 : ((w1.setCell ⟨z3 + 1, 0, none⟩ (.bool true)).putObj D (.deferred none)).cell? ⟨z3 + 1, 0, none⟩ = some (.bool true) := cell_kept (World.cell?_setCell_same _ _ _ g4) (grownBy_putObj' _ D (.deferred none)) (fun r e => by cases e; exact ⟨_, hK9, rfl⟩)
          refine ⟨by simp, .inl ⟨_, _, rfl, run_takeDeferred hK9, ?_⟩⟩
          refine ⟨_, (by first | (simp [results, Try.results4, go_sem, *]; done) | (simp [results, Try.results4, go_sem, *]; rfl) | (simp [results, Try.results4, go_sem, ↓IntWalk.iteOmega, *]; try rfl)), rfl, ?_⟩
          refine (((hB0'.out.trans (hB.mono (by omega))).trans (hb.mono (by omega))).setCell (p := ⟨z3 + 1, 0, none⟩) (by show w.heap.size ≤ z3 + 1; omega) (.bool true)).trans ?_
          exact belowK_b (w := w) (Nat.le_refl _) _ D _ _ (by omega) hK9 rfl rfl
        · have hbq : (pre.length == nL) = false := by simpa using hq
          gi_wp2_with (refine ⟨trivial, ?_⟩; gi_at_call 9; (with_reducible refine (callsIn_wide.2 (awake_any _)).mono ?_); rintro e w1 ⟨rfl, hb⟩; (refine mem hb ?_; intro N hN hz hc hf; (try simp at hN); subst hN))
          have hzl := hb.size
          have g4 : w1.cell? ⟨z3 + 1, 0, none⟩ = some (.bool false) := (hb.cell (p := ⟨z3 + 1, 0, none⟩) (by show z3 + 1 < _; omega)).trans hw4
          have hK8 := (hb.block D (Array.getElem?_eq_some_iff.1 hK).1).trans hK
          have hK9 : (w1.setCell ⟨z3 + 1, 0, none⟩ (.bool true)).heap[D]? = some (.deferred (some [])) := (Below.heap_setCell _ _ _ _ (by show D ≠ z3 + 1; omega)).trans hK8
          have h9 : ((w1.setCell ⟨z3 + 1, 0, none⟩ (.bool true)).putObj D (.deferred none)).cell? ⟨z3 + 1, 0, none⟩ = some (.bool true) := cell_kept (World.cell?_setCell_same _ _ _ g4) (grownBy_putObj' _ D (.deferred none)) (fun r e => by cases e; exact ⟨_, hK9, rfl⟩)
          refine ⟨by simp, .inl ⟨_, _, rfl, run_takeDeferred hK9, ?_⟩⟩
          refine ⟨_, (by first | (simp [results, Try.results4, go_sem, *]; done) | (simp [results, Try.results4, go_sem, *]; rfl) | (simp [results, Try.results4, go_sem, ↓IntWalk.iteOmega, *]; try rfl)), rfl, ?_⟩
          refine (((hB0'.out.trans (hB.mono (by omega))).trans (hb.mono (by omega))).setCell (p := ⟨z3 + 1, 0, none⟩) (by show w.heap.size ≤ z3 + 1; omega) (.bool true)).trans ?_
          exact belowK_b (w := w) (Nat.le_refl _) _ D _ _ (by omega) hK9 rfl rfl

set_option maxRecDepth 100000 in
theorem contract (H : Type) (enc : TypeId × Value → H) (W : World) (base : Nat) (args : Array Value) (ds gs : List (DataW H)) (before : List MemPlace)
    (hval : ∀ (j : Nat) t v, Try.f4.params[j]? = some t → args[j]? = some v → Value.okWide Try.prog W .any base t v)
    (hW : DataW.Whole enc Try.prog Try.f4.params.toList Rows.treeVisitsSpec.vars false W args.toList ds gs before) (hk : Rows.uptoSmall H (ds ++ gs) = true) :
    Calls Try.prog 4 args W fun e W' => ∃ v, e = .returned v ∧ Rows.treeVisitsSpec.post enc Try.prog Try.f4 false true false false W args v W' := by
  have hW' := hW
  obtain ⟨p, q, hA0, hV, rfl, hfz, hnd⟩ := hW
  have hA : DataW.TrodAll enc Try.prog W 0 (fun _ => true) true Try.f4.params.toList args.toList ds p := hA0
  rw [Try.params4] at hA hval
  obtain ⟨v0, vs0, d0, ds0, p0, q0, hargs, rfl, rfl, h0, r0⟩ := trodAll_cons hA
  obtain ⟨v1, vs1, d1, ds1, p1, q1, rfl, rfl, rfl, h1, r1⟩ := trodAll_cons r0
  obtain ⟨rfl, rfl, rfl⟩ := trodAll_nil r1
  obtain rfl : args = #[v0, v1] := by cases args; simp_all
  obtain ⟨rfl, rfl⟩ := trodVars_none hV
  have k0 := h0
  have lt0 : ∀ x ∈ p0, x.block < W.heap.size := by obtain ⟨m, hm⟩ := k0; exact DataW.trod_lt m _ _ _ hm
  obtain ⟨a0, n0, c0, e0⟩ := okWide_slice Try.underlying22 (hval 0 22 v0 rfl rfl)
  obtain ⟨b, g0, ib, rb⟩ := open_blk h0 (by rw [e0]; rfl)
  subst g0
  obtain ⟨most, rfl, rfl, rfl, wmost⟩ := open_int Try.underlying3 (hval 1 3 v1 rfl rfl) h1
  have hsm := of_decide_eq_true hk
  simp only [List.append_nil, Rows.uptoBulkAll] at hsm
  clear hA0
  refine (walk b most W ib (by omega)).mono fun e W' ⟨he, bel⟩ => ?_
  subst he
  exact ⟨_, rfl, _, _, _, [], _, [], hW', trodAll_mk1 (shut_bool Try.underlying4 _), (trodAll_cons_mk (Below.trod laidOut (by kernel_rfl) (of_decide_eq_true (by kernel_rfl)) k0 bel lt0) (trodAll_cons_mk (shut_int Try.underlying3 wmost) trodAll_mk0)), rfl, bel.frame _, fun h => by cases h⟩

set_option maxRecDepth 100000 in
theorem lifted (os : Os) (started : os.Started) (H : Type) (enc : TypeId × Value → H) (F : Stop.Interp) :
    ReturnsInHanded {} Try.checked os 4 .any ((Rows.OpenSpec.upto Rows.treeVisitsSpec).pre6 enc Try.prog Try.f4 Rows.treeVisitsUptoRow.domain false) (((Rows.OpenSpec.upto Rows.treeVisitsSpec).at F).post enc Try.prog Try.f4 false true false false) := by
  refine returnsInHanded_of_cond (C := Try.checked) (s := Rows.OpenSpec.upto Rows.treeVisitsSpec) (k := Rows.uptoSmall) rfl own started (by kernel_rfl) Try.func4
    (OpenSpec.witness (enc := enc) (C := Try.checked) (s := Rows.OpenSpec.upto Rows.treeVisitsSpec) (k := Rows.uptoSmall) rfl false ⟨#[], #[.slice none 0 0, .int .i64 0], []⟩ 8 (by kernel_rfl) (by kernel_rfl) (by kernel_rfl)
      (x := ([.nil, .lit (.int .i64 0)], [], [])) (by kernel_rfl) rfl (by kernel_rfl)) ?_
  intro W base args ds gs before hval hW _ hk _
  exact contract H enc W base args ds gs before hval hW hk

theorem over : Rows.treeVisitsUptoRow.holds Try.pinned (Rows.OpenSpec.upto Rows.treeVisitsSpec) :=
  OpenClaim.holds_of_cond 4 Try.f4 rfl rfl rfl rfl rfl rfl rfl ⟨rfl, rfl, rfl, rfl, rfl⟩ rfl rfl rfl rfl rfl (by kernel_rfl) Try.func4 (by kernel_rfl)
    (of_decide_eq_true (by kernel_rfl)) (by unfold Func.isWrapper; first | (rw [if_pos (by decide +kernel)]; kernel_rfl) | (rw [if_neg (by decide +kernel)]; exact ⟨rfl, rfl⟩))
    (fun os started H enc _ F => lifted os started H enc F)

/-- The given statement. -/
theorem proved : Rows.TreeVisitsUptoSaid := over
#print axioms proved
end Go.Proofs.Ythkpggpnbdedjaa.treeVisits
