/- The program's Each: an iterator over the expressions of a tree, in the order of the text. -/
import Derived.Test.YtplphejillkdeaaGreatDoorMTrSz2
import Derived.RangeFuncNested
import Derived.RangeFuncBound
import Derived.RangeFuncCalls
import Derived.RangeFuncLeaves
import Derived.Shelf.RegionOpen
import Derived.WalkKit
import Derived.OwnWalkIn
import Derived.TacticsInMore
import Derived.LoopNIn
import Derived.LoopIn
namespace Go.Proofs.YtplphejillkdeaaGreatDoor
open Go.RowKit Go.Instr Go.Shelf
set_option linter.unusedVariables false
attribute [local go_sem] Oper.semAt_some

/-- The expression that is shown. -/
def toX : Ev → TX
  | .ex x _ => x
  | .st _ _ => ⟨0, 0, 0, 0, 0, ⟨#[]⟩, none, 0, [], none, 0, []⟩
/-- The expressions of a block, in the order of the text. -/
def exsB (y : TB) : List TX := (evN false (rkB y + 1) (.inr y) 0).map toX
theorem ev_ex : ∀ n p par, ∀ e ∈ evN false n p par, ∃ x q, e = .ex x q
  | 0, _, _, e, h => by cases h
  | n + 1, .inl x, par, e, h => by
    rcases List.mem_cons.1 h with h | h
    · exact ⟨_, _, h⟩
    · rcases List.mem_append.1 h with h | h
      · obtain ⟨y, -, hy⟩ := List.mem_flatMap.1 h; exact ev_ex n _ _ e hy
      · obtain ⟨y, -, hy⟩ := List.mem_flatMap.1 h; exact ev_ex n _ _ e hy
  | n + 1, .inr b, par, e, h => by
    obtain ⟨i, -, hi⟩ := List.mem_flatMap.1 h
    rw [if_neg (by simp), List.nil_append] at hi
    obtain ⟨p, -, hp⟩ := List.mem_flatMap.1 hi
    exact ev_ex n _ _ e hp
theorem grownBy_of {w w' : World} (h : Below w.heap.size w w') : w.grownBy w' none := ⟨h.os, h.tape, h.output, h.size, fun k hk _ => h.block k hk⟩
theorem room_of_none {F : Fence} (hd : F.depth = none) (k : Nat) : F.room k := fun d h => by rw [hd] at h; cases h
theorem RoundIn.anyDepth {F : Fence} (hd : F.depth = none) {m m' : Nat} {P : Program} {l : Nat} {f : FuncId} {tmps : Array Value} {assign body : Code} {w : World} {R : Ending → World → Prop}
    (h : RoundIn F m P l f tmps assign body w R) : RoundIn F m' P l f tmps assign body w R := ⟨h.1, fun c cs _ => h.2 c cs (room_of_none hd _)⟩
theorem yield_any {F : Fence} (hd : F.depth = none) {m : Nat} (m' : Nat) {P : Program} {l : Nat} {args : Array Value} {W : World} {R : Ending → World → Prop} (h : YieldAt F m P l args W R) : YieldAt F m' P l args W R := by
  obtain ⟨fn, tmps, assign, body, hy, hR⟩ := h
  exact ⟨fn, tmps, assign, body, hy, RoundIn.anyDepth hd hR⟩

set_option maxRecDepth 100000 in
set_option maxHeartbeats 2000000 in
/-- 'return yield(e)'. -/
theorem each11_any (l B : Nat) (x : TX) (par : Int) (R : Ending → World → Prop) (w : World) (hc : w.cell? ⟨B, 0, none⟩ = some (.func (.yield l) #[] #[]))
    (hY : ∀ W, Below w.heap.size w W → YieldAt Fence.wide 2 Tryz.prog l #[x.v] W fun e W' => (∃ b, e = .returned (.bool b)) ∧ R e W') :
    Calls Tryz.prog 28 #[x.v, .int .i64 par, .pointer (some ⟨B, 0, none⟩)] w R := by
  have hB := cell_lt hc
  obtain ⟨fn, tmps, assign, body, hy, hR⟩ := hY (w.alloc (.cells #[.int .i64 x.k, .int .i64 x.op, .int .i64 x.ln, .int .i64 x.p, .int .i64 x.q, .string x.s, .slice x.aA x.args.length x.aC, .slice x.fA x.funcs.length x.fC] 30)) ((Below.refl _ _).alloc (Nat.le_refl _) _)
  refine (callsIn_wide (n := 3)).1 ?_
  refine callsIn_of_wp Tryz.func28 rfl trivial ?_ rfl
  simp only [Tryz.ntmps28, List.size_toArray, List.length_cons, List.length_nil, Nat.reduceAdd, Nat.reduceSub, Array.replicate_succ, Array.replicate_zero, List.push_toArray, List.append_toArray, List.nil_append, List.cons_append]
  gi_wp2
  refine hR.mono ?_
  rintro e W' ⟨⟨b, rfl⟩, hR'⟩
  gi_wp2
  exact hR'

/-- The iterator's closure: every expression is yielded, in order, until a round says 'no more'. -/
theorem each1_any {P : TX → Prop} (a b l Bb : Nat) (y : TB) (ys : List {x : TX // P x}) (hys : ys.map (fun x => x.1) = exsB y) (hab : a ≤ b) (m : Nat) (J Jx : List {x : TX // P x} → World → Prop) (W : World)
    (hJ : AbidesFrom W.heap.size J)
    (hY : ∀ pre x W1, J pre W1 → pre.length < ys.length → YieldAt Fence.wide m Tryz.prog l #[x.1.v] W1 fun e W' => (e = .returned (.bool true) ∧ J (pre ++ [x]) W' ∧ Kept a b W1 W') ∨ (e = .returned (.bool false) ∧ Jx (pre ++ [x]) W'))
    (hin : InB W a y) (hb : b ≤ W.heap.size) (hc : W.cell? ⟨Bb, 0, none⟩ = some y.v) (h0 : J [] W) :
    Calls Tryz.prog 27 #[.func (.yield l) #[] #[], .pointer (some ⟨Bb, 0, none⟩)] W fun e W' => (∃ v, e = .returned v) ∧ ((∃ xs, xs = ys ∧ J xs W') ∨ ∃ pre, pre <+: ys ∧ Jx pre W') := by
  obtain ⟨ev, hev⟩ : ∃ ev, evN false (rkB y + 1) (.inr y) 0 = ev := ⟨_, rfl⟩
  unfold exsB at hys
  rw [hev] at hys
  have hlen : ys.length = ev.length := by have := congrArg List.length hys; simpa using this
  have hBb := cell_lt hc
  have HB : Hid (∀ W1 B, Below W.heap.size W W1 → b ≤ B → W1.cell? ⟨B, 0, none⟩ = some (.func (.yield l) #[] #[]) → Calls Tryz.prog 29 #[.agg #[.nilFunc, .func (.func 28) #[] #[.pointer (some ⟨B, 0, none⟩)]], y.v] W1 fun e W' => (∃ v, e = .returned v) ∧ ((∃ xs, xs = ys ∧ J xs W') ∨ ∃ pre, pre <+: ys ∧ Jx pre W')) := by
    intro W1 B hW1 hB hcB
    have st := (vis_all a b false ev (fun j W' => J (ys.take j) W' ∧ W'.cell? ⟨B, 0, none⟩ = some (.func (.yield l) #[] #[]) ∧ b ≤ W'.heap.size) (fun e W' => e = .returned (.bool false) ∧ ∃ pre, pre <+: ys ∧ Jx pre W') .nilFunc (.func (.func 28) #[] #[.pointer (some ⟨B, 0, none⟩)]) hab
      ⟨_, _, _, rfl, enters_of Tryz.func28 (by kernel_rfl) rfl⟩ rfl (fun j W1 W2 h hb => ⟨hJ _ _ _ none h.1 (grownBy_of hb) (fun r e => by cases e), (hb.cell (p := ⟨B, 0, none⟩) (cell_lt h.2.1)).trans h.2.1, Nat.le_trans h.2.2 hb.size⟩) ?_ (rkB y + 1)).2 y (by omega) 0 (by rw [hev]; intro i hi; rw [Nat.zero_add]) W1 (hin.still (still_of hW1 (Nat.le_trans hab hb)) (Nat.le_refl _)) (Nat.le_trans hb hW1.size) ⟨by rw [List.take_zero]; exact hJ _ _ _ none h0 (grownBy_of hW1) (fun r e => by cases e), hcB, Nat.le_trans hb hW1.size⟩
    · refine st.mono fun e W' h => ?_
      rcases h with ⟨rfl, ⟨hj, -, -⟩, -⟩ | ⟨-, rfl, hx⟩
      · refine ⟨⟨_, rfl⟩, .inl ⟨_, rfl, ?_⟩⟩
        rw [hev, Nat.zero_add, ← hlen, List.take_length] at hj
        exact hj
      · exact ⟨⟨_, rfl⟩, .inr hx⟩
    · intro q e he W2 hb2 ⟨hj, hcB2, hbs⟩
      obtain ⟨hq, he'⟩ := List.getElem?_eq_some_iff.1 he
      obtain ⟨x, par, rfl⟩ := ev_ex (rkB y + 1) (.inr y) 0 e (by rw [hev, ← he']; exact List.getElem_mem hq)
      have hqy : q < ys.length := by omega
      have hxe : (ys[q]'hqy).1 = x := by
        have h1 : (ys.map (fun x => x.1))[q]'(by simpa using hqy) = (ev.map toX)[q]'(by simpa using hq) := by simp only [hys]
        simp only [List.getElem_map] at h1
        rw [h1, he']
        rfl
      have htk : ys.take (q + 1) = ys.take q ++ [ys[q]'hqy] := List.take_succ_eq_append_getElem hqy
      refine ⟨_, _, _, rfl, enters_of Tryz.func28 (by kernel_rfl) rfl, ?_⟩
      refine each11_any l B x par _ W2 hcB2 fun W3 hW3 => ?_
      have hy3 := hY (ys.take q) (ys[q]'hqy) W3 (hJ _ _ _ none hj (grownBy_of hW3) (fun r e => by cases e)) (by rw [List.length_take]; omega)
      rw [hxe] at hy3
      refine YieldAt.mono (yield_any rfl 2 hy3) ?_
      rintro e4 W4 (⟨rfl, hj4, hk4⟩ | ⟨rfl, hx4⟩)
      · refine ⟨⟨_, rfl⟩, .inl ⟨rfl, ⟨?_, hk4.cell ((hW3.cell (p := ⟨B, 0, none⟩) (cell_lt hcB2)).trans hcB2) ((hW3.cell (p := ⟨B, 0, none⟩) (cell_lt hcB2)).trans hcB2) hB, Nat.le_trans hb2 (Nat.le_trans hW3.size hk4.size)⟩, (kept_of hW3 (Nat.le_trans hab hb2)).trans hk4⟩⟩
        rw [htk]
        exact hj4
      · refine ⟨⟨_, rfl⟩, .inr ⟨.inl rfl, rfl, ys.take q ++ [ys[q]'hqy], ?_, hx4⟩⟩
        rw [← htk]
        exact List.take_prefix _ _
  clear hin hys hY hJ h0 hev
  go_enter Tryz.func27, Tryz.ntmps27
  go_wp2_with (go_at_call 29; (with_reducible refine (HB.out _ _ ?_ ?_ ?_).mono ?_); (focus ((repeat' (first | (with_reducible exact Below.refl _ _) | (with_reducible assumption) | (with_reducible refine Below.alloc ?_ ?_ _) | (with_reducible refine below_drewN ?_ _) | (with_reducible refine Below.drew ?_) | (with_reducible refine Below.setCell ?_ ?_ _) | (with_reducible refine below_via (by assumption) ?_ ?_) | (with_reducible refine below_via (later_below _) ?_ ?_) | (with_reducible exact Nat.le_refl _) | omega | (simp; omega) | (simp; done))))); (focus (exact hb)); (focus (simp [cell_alloc_if])); rintro e w1 ⟨⟨v, rfl⟩, hr⟩)
  go_end0
  exact ⟨⟨_, rfl⟩, hr⟩

/-- Each: the block is boxed; the function value captures the box. -/
theorem each_any (y : TB) (w : World) : Calls Tryz.prog 10 #[y.v] w fun e w' => e = .returned (.func (.func 27) #[] #[.pointer (some ⟨w.heap.size, 0, none⟩)]) ∧ w' = w.alloc (.cells #[y.v] 42) := by
  go_enter Tryz.func10, Tryz.ntmps10
  go_wp2_with fail
  go_returns
  exact ⟨rfl, rfl⟩
/-- What Each hands back is an iterator over the block's expressions. -/
theorem each_stops {P : TX → Prop} (n a b Bb : Nat) (y : TB) (ys : List {x : TX // P x}) (hys : ys.map (fun x => x.1) = exsB y) (hab : a ≤ b) (w : World) (hin : InB w a y) (hb : b ≤ w.heap.size) (hc : w.cell? ⟨Bb, 0, none⟩ = some y.v) :
    SeqStopsK Fence.wide n Tryz.prog 27 #[.pointer (some ⟨Bb, 0, none⟩)] (fun x : {x : TX // P x} => #[x.1.v]) (Kept a b) (fun xs => xs = ys) (fun pre => pre <+: ys) ys.length w := fun l J Jx W hW hJ _ hY h0 =>
  callsIn_wide.2 (each1_any a b l Bb y ys hys hab (n - 1) J Jx W hJ hY (hin.still (still_of hW (Nat.le_trans hab hb)) (Nat.le_refl _)) (Nat.le_trans hb hW.size) ((hW.cell (p := ⟨Bb, 0, none⟩) (cell_lt hc)).trans hc) h0)
theorem keptK_t {a b : Nat} {A B C : World} (h : Kept a b A B) (k : Kept a b B C) : Kept a b A C := h.trans k
theorem keptK_b {a b : Nat} {w : World} (ha : a ≤ w.heap.size) (W : World) (l : Nat) (o o' : Obj) (hl : w.heap.size ≤ l) (h : W.heap[l]? = some o) (ho : o.isCells = false) (_ : o.isWalk = false) : Kept a b W (W.putObj l o') :=
  ⟨rfl, rfl, rfl, by simp, fun g hg => World.putObj_heap_other (by omega), fun g c t f _ _ hc => by
    have e : g ≠ l := fun e => by subst e; rw [h] at hc; cases hc; cases ho
    exact (World.putObj_heap_other e).trans hc⟩
end Go.Proofs.YtplphejillkdeaaGreatDoor
