/- The reference's Check: counts, only, object, number, hasColon. -/
import Derived.Test.YthkpggpnbdedjaaGreatMTrRC1
import Derived.Test.YthkpggpnbdedjaaGreatMTrChk6
import Derived.Test.YthkpggpnbdedjaaGreatMRatR1
namespace Go.Proofs.YthkpggpnbdedjaaGreat
open Go.RowKit Go.Instr
set_option linter.unusedVariables false

def rcB (s : TS) (n l r b : Int) : Bool := (s.names.length : Int) == n && ((s.left.length : Int) == l && ((s.right.length : Int) == r && ((s.blocks.length : Int) == b && (s.k == 13 || (s.k == 14 || s.label.toList.isEmpty)))))
set_option maxHeartbeats 3200000 in
set_option maxRecDepth 100000 in
theorem rcounts_any (s : TS) (n l r b : Int) (w : World) : Calls Tryz.prog 70 #[s.v, .int .i64 n, .int .i64 l, .int .i64 r, .int .i64 b] w fun e w' => e = .returned (.bool (rcB s n l r b)) ∧ Below w.heap.size w w' := by
  unfold rcB
  cases k13 : (s.k == 13) with
  | true =>
    cases h4 : ((s.names.length : Int) == n) with
    | false =>
      go_enter Tryz.func70, Tryz.ntmps70
      go_wp2_with fail
      go_returns
      exact ⟨rfl, by (repeat' (first | (with_reducible exact Below.refl _ _) | (with_reducible assumption) | (with_reducible refine Below.alloc ?_ ?_ _) | (with_reducible refine below_drewN ?_ _) | (with_reducible refine Below.drew ?_) | (with_reducible refine Below.setCell ?_ ?_ _) | (with_reducible refine below_via (by assumption) ?_ ?_) | (with_reducible refine below_via (later_below _) ?_ ?_) | (with_reducible exact Nat.le_refl _) | omega | (simp; omega) | (simp; done)))⟩
    | true =>
      cases h3 : ((s.left.length : Int) == l) with
      | false =>
        go_enter Tryz.func70, Tryz.ntmps70
        go_wp2_with fail
        go_returns
        exact ⟨rfl, by (repeat' (first | (with_reducible exact Below.refl _ _) | (with_reducible assumption) | (with_reducible refine Below.alloc ?_ ?_ _) | (with_reducible refine below_drewN ?_ _) | (with_reducible refine Below.drew ?_) | (with_reducible refine Below.setCell ?_ ?_ _) | (with_reducible refine below_via (by assumption) ?_ ?_) | (with_reducible refine below_via (later_below _) ?_ ?_) | (with_reducible exact Nat.le_refl _) | omega | (simp; omega) | (simp; done)))⟩
      | true =>
        cases h2 : ((s.right.length : Int) == r) with
        | false =>
          go_enter Tryz.func70, Tryz.ntmps70
          go_wp2_with fail
          go_returns
          exact ⟨rfl, by (repeat' (first | (with_reducible exact Below.refl _ _) | (with_reducible assumption) | (with_reducible refine Below.alloc ?_ ?_ _) | (with_reducible refine below_drewN ?_ _) | (with_reducible refine Below.drew ?_) | (with_reducible refine Below.setCell ?_ ?_ _) | (with_reducible refine below_via (by assumption) ?_ ?_) | (with_reducible refine below_via (later_below _) ?_ ?_) | (with_reducible exact Nat.le_refl _) | omega | (simp; omega) | (simp; done)))⟩
        | true =>
          cases h1 : ((s.blocks.length : Int) == b) with
          | false =>
            go_enter Tryz.func70, Tryz.ntmps70
            go_wp2_with fail
            go_returns
            exact ⟨rfl, by (repeat' (first | (with_reducible exact Below.refl _ _) | (with_reducible assumption) | (with_reducible refine Below.alloc ?_ ?_ _) | (with_reducible refine below_drewN ?_ _) | (with_reducible refine Below.drew ?_) | (with_reducible refine Below.setCell ?_ ?_ _) | (with_reducible refine below_via (by assumption) ?_ ?_) | (with_reducible refine below_via (later_below _) ?_ ?_) | (with_reducible exact Nat.le_refl _) | omega | (simp; omega) | (simp; done)))⟩
          | true =>
            go_enter Tryz.func70, Tryz.ntmps70
            go_wp2_with fail
            go_returns
            exact ⟨rfl, by (repeat' (first | (with_reducible exact Below.refl _ _) | (with_reducible assumption) | (with_reducible refine Below.alloc ?_ ?_ _) | (with_reducible refine below_drewN ?_ _) | (with_reducible refine Below.drew ?_) | (with_reducible refine Below.setCell ?_ ?_ _) | (with_reducible refine below_via (by assumption) ?_ ?_) | (with_reducible refine below_via (later_below _) ?_ ?_) | (with_reducible exact Nat.le_refl _) | omega | (simp; omega) | (simp; done)))⟩
  | false =>
    cases k14 : (s.k == 14)
    all_goals
      cases h4 : ((s.names.length : Int) == n) with
      | false =>
        go_enter Tryz.func70, Tryz.ntmps70
        go_wp2_with fail
        go_returns
        exact ⟨rfl, by (repeat' (first | (with_reducible exact Below.refl _ _) | (with_reducible assumption) | (with_reducible refine Below.alloc ?_ ?_ _) | (with_reducible refine below_drewN ?_ _) | (with_reducible refine Below.drew ?_) | (with_reducible refine Below.setCell ?_ ?_ _) | (with_reducible refine below_via (by assumption) ?_ ?_) | (with_reducible refine below_via (later_below _) ?_ ?_) | (with_reducible exact Nat.le_refl _) | omega | (simp; omega) | (simp; done)))⟩
      | true =>
        cases h3 : ((s.left.length : Int) == l) with
        | false =>
          go_enter Tryz.func70, Tryz.ntmps70
          go_wp2_with fail
          go_returns
          exact ⟨rfl, by (repeat' (first | (with_reducible exact Below.refl _ _) | (with_reducible assumption) | (with_reducible refine Below.alloc ?_ ?_ _) | (with_reducible refine below_drewN ?_ _) | (with_reducible refine Below.drew ?_) | (with_reducible refine Below.setCell ?_ ?_ _) | (with_reducible refine below_via (by assumption) ?_ ?_) | (with_reducible refine below_via (later_below _) ?_ ?_) | (with_reducible exact Nat.le_refl _) | omega | (simp; omega) | (simp; done)))⟩
        | true =>
          cases h2 : ((s.right.length : Int) == r) with
          | false =>
            go_enter Tryz.func70, Tryz.ntmps70
            go_wp2_with fail
            go_returns
            exact ⟨rfl, by (repeat' (first | (with_reducible exact Below.refl _ _) | (with_reducible assumption) | (with_reducible refine Below.alloc ?_ ?_ _) | (with_reducible refine below_drewN ?_ _) | (with_reducible refine Below.drew ?_) | (with_reducible refine Below.setCell ?_ ?_ _) | (with_reducible refine below_via (by assumption) ?_ ?_) | (with_reducible refine below_via (later_below _) ?_ ?_) | (with_reducible exact Nat.le_refl _) | omega | (simp; omega) | (simp; done)))⟩
          | true =>
            cases h1 : ((s.blocks.length : Int) == b) with
            | false =>
              go_enter Tryz.func70, Tryz.ntmps70
              go_wp2_with fail
              go_returns
              exact ⟨rfl, by (repeat' (first | (with_reducible exact Below.refl _ _) | (with_reducible assumption) | (with_reducible refine Below.alloc ?_ ?_ _) | (with_reducible refine below_drewN ?_ _) | (with_reducible refine Below.drew ?_) | (with_reducible refine Below.setCell ?_ ?_ _) | (with_reducible refine below_via (by assumption) ?_ ?_) | (with_reducible refine below_via (later_below _) ?_ ?_) | (with_reducible exact Nat.le_refl _) | omega | (simp; omega) | (simp; done)))⟩
            | true =>
              go_enter Tryz.func70, Tryz.ntmps70
              go_wp2_with fail
              go_returns
              exact ⟨rfl, by (repeat' (first | (with_reducible exact Below.refl _ _) | (with_reducible assumption) | (with_reducible refine Below.alloc ?_ ?_ _) | (with_reducible refine below_drewN ?_ _) | (with_reducible refine Below.drew ?_) | (with_reducible refine Below.setCell ?_ ?_ _) | (with_reducible refine below_via (by assumption) ?_ ?_) | (with_reducible refine below_via (later_below _) ?_ ?_) | (with_reducible exact Nat.le_refl _) | omega | (simp; omega) | (simp; done)))⟩
def onlyB (x y : TX) : Bool := x.op == y.op && ((x.p == y.p && x.q == y.q) && (x.s.toList == y.s.toList && ((x.funcs.length : Int) == (y.funcs.length : Int) && (x.args.length : Int) == (y.args.length : Int))))
set_option maxHeartbeats 3200000 in
set_option maxRecDepth 100000 in
theorem ronly_any (x y : TX) (w : World) : Calls Tryz.prog 98 #[x.v, y.v] w fun e w' => e = .returned (.bool (onlyB x y)) ∧ Below w.heap.size w w' := by
  unfold onlyB
  cases h5 : (x.op == y.op) with
  | false =>
    go_enter Tryz.func98, Tryz.ntmps98
    go_wp2_with fail
    go_returns
    exact ⟨rfl, by (repeat' (first | (with_reducible exact Below.refl _ _) | (with_reducible assumption) | (with_reducible refine Below.alloc ?_ ?_ _) | (with_reducible refine below_drewN ?_ _) | (with_reducible refine Below.drew ?_) | (with_reducible refine Below.setCell ?_ ?_ _) | (with_reducible refine below_via (by assumption) ?_ ?_) | (with_reducible refine below_via (later_below _) ?_ ?_) | (with_reducible exact Nat.le_refl _) | omega | (simp; omega) | (simp; done)))⟩
  | true =>
    cases h4 : (x.p == y.p) with
    | false =>
      go_enter Tryz.func98, Tryz.ntmps98
      go_wp2_with fail
      go_returns
      exact ⟨rfl, by (repeat' (first | (with_reducible exact Below.refl _ _) | (with_reducible assumption) | (with_reducible refine Below.alloc ?_ ?_ _) | (with_reducible refine below_drewN ?_ _) | (with_reducible refine Below.drew ?_) | (with_reducible refine Below.setCell ?_ ?_ _) | (with_reducible refine below_via (by assumption) ?_ ?_) | (with_reducible refine below_via (later_below _) ?_ ?_) | (with_reducible exact Nat.le_refl _) | omega | (simp; omega) | (simp; done)))⟩
    | true =>
      cases h3 : (x.q == y.q) with
      | false =>
        go_enter Tryz.func98, Tryz.ntmps98
        go_wp2_with fail
        go_returns
        exact ⟨rfl, by (repeat' (first | (with_reducible exact Below.refl _ _) | (with_reducible assumption) | (with_reducible refine Below.alloc ?_ ?_ _) | (with_reducible refine below_drewN ?_ _) | (with_reducible refine Below.drew ?_) | (with_reducible refine Below.setCell ?_ ?_ _) | (with_reducible refine below_via (by assumption) ?_ ?_) | (with_reducible refine below_via (later_below _) ?_ ?_) | (with_reducible exact Nat.le_refl _) | omega | (simp; omega) | (simp; done)))⟩
      | true =>
        cases h2 : (x.s.toList == y.s.toList) with
        | false =>
          go_enter Tryz.func98, Tryz.ntmps98
          go_wp2_with fail
          go_returns
          exact ⟨rfl, by (repeat' (first | (with_reducible exact Below.refl _ _) | (with_reducible assumption) | (with_reducible refine Below.alloc ?_ ?_ _) | (with_reducible refine below_drewN ?_ _) | (with_reducible refine Below.drew ?_) | (with_reducible refine Below.setCell ?_ ?_ _) | (with_reducible refine below_via (by assumption) ?_ ?_) | (with_reducible refine below_via (later_below _) ?_ ?_) | (with_reducible exact Nat.le_refl _) | omega | (simp; omega) | (simp; done)))⟩
        | true =>
          cases h1 : ((x.funcs.length : Int) == (y.funcs.length : Int)) with
          | false =>
            go_enter Tryz.func98, Tryz.ntmps98
            go_wp2_with fail
            go_returns
            exact ⟨rfl, by (repeat' (first | (with_reducible exact Below.refl _ _) | (with_reducible assumption) | (with_reducible refine Below.alloc ?_ ?_ _) | (with_reducible refine below_drewN ?_ _) | (with_reducible refine Below.drew ?_) | (with_reducible refine Below.setCell ?_ ?_ _) | (with_reducible refine below_via (by assumption) ?_ ?_) | (with_reducible refine below_via (later_below _) ?_ ?_) | (with_reducible exact Nat.le_refl _) | omega | (simp; omega) | (simp; done)))⟩
          | true =>
            go_enter Tryz.func98, Tryz.ntmps98
            go_wp2_with fail
            go_returns
            exact ⟨rfl, by (repeat' (first | (with_reducible exact Below.refl _ _) | (with_reducible assumption) | (with_reducible refine Below.alloc ?_ ?_ _) | (with_reducible refine below_drewN ?_ _) | (with_reducible refine Below.drew ?_) | (with_reducible refine Below.setCell ?_ ?_ _) | (with_reducible refine below_via (by assumption) ?_ ?_) | (with_reducible refine below_via (later_below _) ?_ ?_) | (with_reducible exact Nat.le_refl _) | omega | (simp; omega) | (simp; done)))⟩

set_option maxHeartbeats 1600000 in
theorem robject_any (x : TX) (w : World) (hin : InX w w.heap.size x) : Calls Tryz.prog 100 #[x.v] w fun e w' => e = .returned (.bool (subjB x)) ∧ Below w.heap.size w w' := by
  unfold subjB
  by_cases h : 0 < x.args.length
  · rw [decide_eq_true h, Bool.true_and]
    obtain ⟨br, or_, hra, hbr, hcx, -⟩ := hin.xs.at_ (k := 0) h
    obtain ⟨y, hy⟩ : ∃ y, x.args[0] = y := ⟨_, rfl⟩
    have hf : firstK x.args = y.k := by rw [← hy]; exact firstK_at _ _
    rw [hf]
    rw [hy, Nat.zero_mul, Nat.add_zero] at hcx
    obtain ⟨c0, -⟩ := hcx
    have g1 := hin.xs.1.1
    have g2 := hin.xs.1.2.1
    have g5 : (x.args.length : Int) ≤ 9223372036854775807 := by omega
    clear hin hy hf
    go_enter Tryz.func100, Tryz.ntmps100
    go_wp2_with fail
    go_returns
    exact ⟨rfl, by (repeat' (first | (with_reducible exact Below.refl _ _) | (with_reducible assumption) | (with_reducible refine Below.alloc ?_ ?_ _) | (with_reducible refine below_drewN ?_ _) | (with_reducible refine Below.drew ?_) | (with_reducible refine Below.setCell ?_ ?_ _) | (with_reducible refine below_via (by assumption) ?_ ?_) | (with_reducible refine below_via (later_below _) ?_ ?_) | (with_reducible exact Nat.le_refl _) | omega | (simp; omega) | (simp; done)))⟩
  · rw [decide_eq_false h, Bool.false_and]
    have h0 : x.args.length = 0 := by omega
    clear hin h
    go_enter Tryz.func100, Tryz.ntmps100
    go_wp2_with fail
    go_returns
    exact ⟨rfl, by (repeat' (first | (with_reducible exact Below.refl _ _) | (with_reducible assumption) | (with_reducible refine Below.alloc ?_ ?_ _) | (with_reducible refine below_drewN ?_ _) | (with_reducible refine Below.drew ?_) | (with_reducible refine Below.setCell ?_ ?_ _) | (with_reducible refine below_via (by assumption) ?_ ?_) | (with_reducible refine below_via (later_below _) ?_ ?_) | (with_reducible exact Nat.le_refl _) | omega | (simp; omega) | (simp; done)))⟩

set_option maxHeartbeats 400000 in
theorem rvalid_any (p q : Int) (w : World) (hp : -9223372036854775808 ≤ p) (hp' : p ≤ 9223372036854775807) :
    Calls Tryz.prog 115 #[.agg #[.int .i64 p, .int .i64 q]] w fun e w' => e = .returned (.bool (vldB p q)) ∧ Below w.heap.size w w' := by
  cases g1 : decide (1 ≤ q)
  all_goals cases g2 : decide (q ≤ 2147483647)
  all_goals cases g3 : decide (p ≤ 2147483647)
  all_goals cases g4 : decide (-2147483647 ≤ p)
  all_goals
    go_enter Tryz.func115, Tryz.ntmps115
    go_wp2
    go_quiet ((first | (go_at_call 120; exact Calls.quiet_of_same ((rabs_any _ _ (by simp at g4; omega) (by simp at g3; omega)).mono (fun _ _ h => ⟨h.1, h.2.symm⟩))) | (go_at_call 119; exact Calls.quiet_of (rgcd_any _ _ _ (by omega) (by simp at g1; omega) (by simp at g4 g3; omega) (by simp at g2; omega)))))
    go_wp2
    go_returns
    refine ⟨ret_bool ?_, ?_⟩
    · unfold vldB; simp only [g1, g2, g3, g4]; simp [Int.gcd]
    · (repeat' (first | (with_reducible exact Below.refl _ _) | (with_reducible assumption) | (with_reducible refine Below.alloc ?_ ?_ _) | (with_reducible refine below_drewN ?_ _) | (with_reducible refine Below.drew ?_) | (with_reducible refine Below.setCell ?_ ?_ _) | (with_reducible refine below_via (by assumption) ?_ ?_) | (with_reducible refine below_via (later_below _) ?_ ?_) | (with_reducible exact Nat.le_refl _) | omega | (simp; omega) | (simp; done)))
def numbB (p q : Int) : Bool := vldB p q && (decide (0 ≤ p) && (1000000000 : Int) % q == 0)
theorem vld_pos {p q : Int} (h : vldB p q = true) : 0 < q := by
  unfold vldB at h
  simp only [Bool.and_eq_true, decide_eq_true_eq] at h
  omega
set_option maxHeartbeats 1600000 in
theorem rnumber_any (p q : Int) (w : World) (hp : I64 p) (hq : I64 q) : Calls Tryz.prog 99 #[.agg #[.int .i64 p, .int .i64 q]] w fun e w' => e = .returned (.bool (numbB p q)) ∧ Below w.heap.size w w' := by
  have HV : Hid (∀ W, Calls Tryz.prog 115 #[.agg #[.int .i64 p, .int .i64 q]] W fun e W' => e = .returned (.bool (vldB p q)) ∧ Below W.heap.size W W') := fun W => rvalid_any p q W hp.1 hp.2
  unfold numbB
  cases hv : vldB p q with
  | false =>
    rw [hv] at HV
    go_enter Tryz.func99, Tryz.ntmps99
    go_wp2_with (first | (go_at_call 115; (with_reducible refine (HV.out _).mono ?_); rintro e w1 ⟨rfl, hb⟩; (refine mem hb ?_; intro N hN hz hc hf; (try simp at hN); subst hN)))
    go_returns
    exact ⟨rfl, by (repeat' (first | (with_reducible exact Below.refl _ _) | (with_reducible assumption) | (with_reducible refine Below.alloc ?_ ?_ _) | (with_reducible refine below_drewN ?_ _) | (with_reducible refine Below.drew ?_) | (with_reducible refine Below.setCell ?_ ?_ _) | (with_reducible refine below_via (by assumption) ?_ ?_) | (with_reducible refine below_via (later_below _) ?_ ?_) | (with_reducible exact Nat.le_refl _) | omega | (simp; omega) | (simp; done)))⟩
  | true =>
    rw [hv] at HV
    have hq0 := vld_pos hv
    obtain ⟨q1, q2⟩ := hq
    have hq2 : (q == 0) = false := by simp; omega
    have hq3 : q ≠ 0 := by omega
    by_cases h0 : 0 ≤ p
    · have h1 : decide (0 ≤ p) = true := decide_eq_true h0
      rw [h1]
      have HM : Hid (Int.tmod 1000000000 q = (1000000000 : Int) % q) := by show _ = _; exact Int.tmod_eq_emod_of_nonneg (by omega)
      go_enter Tryz.func99, Tryz.ntmps99
      go_wp2_with (first | (go_at_call 115; (with_reducible refine (HV.out _).mono ?_); rintro e w1 ⟨rfl, hb⟩; (refine mem hb ?_; intro N hN hz hc hf; (try simp at hN); subst hN)))
      go_returns
      exact ⟨rfl, by (repeat' (first | (with_reducible exact Below.refl _ _) | (with_reducible assumption) | (with_reducible refine Below.alloc ?_ ?_ _) | (with_reducible refine below_drewN ?_ _) | (with_reducible refine Below.drew ?_) | (with_reducible refine Below.setCell ?_ ?_ _) | (with_reducible refine below_via (by assumption) ?_ ?_) | (with_reducible refine below_via (later_below _) ?_ ?_) | (with_reducible exact Nat.le_refl _) | omega | (simp; omega) | (simp; done)))⟩
    · have h1 : decide (0 ≤ p) = false := decide_eq_false h0
      rw [h1]
      go_enter Tryz.func99, Tryz.ntmps99
      go_wp2_with (first | (go_at_call 115; (with_reducible refine (HV.out _).mono ?_); rintro e w1 ⟨rfl, hb⟩; (refine mem hb ?_; intro N hN hz hc hf; (try simp at hN); subst hN)))
      go_returns
      exact ⟨rfl, by (repeat' (first | (with_reducible exact Below.refl _ _) | (with_reducible assumption) | (with_reducible refine Below.alloc ?_ ?_ _) | (with_reducible refine below_drewN ?_ _) | (with_reducible refine Below.drew ?_) | (with_reducible refine Below.setCell ?_ ?_ _) | (with_reducible refine below_via (by assumption) ?_ ?_) | (with_reducible refine below_via (later_below _) ?_ ?_) | (with_reducible exact Nat.le_refl _) | omega | (simp; omega) | (simp; done)))⟩
end Go.Proofs.YthkpggpnbdedjaaGreat

/- The reference's statForm. -/
namespace Go.Proofs.YthkpggpnbdedjaaGreat
open Go.RowKit Go.Instr
set_option linter.unusedVariables false

theorem wr1 (b r : Int) (hb : 0 ≤ b) (hb2 : b ≤ 9223372036854775807) (hr : 0 ≤ r) (hr2 : r ≤ 9223372036854775807) : (b == wrap64 (r + 1)) = (b == r + 1) := by
  unfold wrap64
  rw [Bool.eq_iff_iff, beq_iff_eq, beq_iff_eq]
  omega
theorem all_attr (l : List (ByteArray × Int)) : l.all (fun y => decide (0 ≤ y.2) && decide (y.2 ≤ 2)) = !(l.any attrB) := by
  rw [Bool.eq_iff_iff]
  simp only [List.all_eq_true, Bool.not_eq_true', List.any_eq_false, attrB]
  refine forall_congr' fun x => forall_congr' fun _ => ?_
  simp
theorem all_plain (s : TS) : s.names.all (fun y => y.2 == 0) = plainB s := by
  unfold plainB
  rw [Bool.eq_iff_iff]
  simp
theorem all_sides (l : List TX) : l.all (fun y => y.k == 7 || y.k == 8) = !(l.any fun x => x.k != 7 && x.k != 8) := by
  rw [Bool.eq_iff_iff]
  simp only [List.all_eq_true, Bool.not_eq_true', List.any_eq_false]
  refine forall_congr' fun x => forall_congr' fun _ => ?_
  simp; omega
theorem rc_right {s : TS} {n l b : Int} (h : rcB s n l 1 b = true) : s.right.length = 1 := by
  unfold rcB at h
  simp only [Bool.and_eq_true, beq_iff_eq] at h
  omega
section
variable (s : TS) (last : Bool) (w : World) (hin : InS w w.heap.size s)
include hin

set_option maxHeartbeats 3200000 in
set_option maxRecDepth 100000 in
theorem rsf1 (hk : s.k = 1) (hl : 0 ≤ s.ln) : Calls Tryz.prog 49 #[s.v, .bool last] w fun e w' => e = .returned (.bool (rcB s (s.names.length) (0) (s.right.length) (0) && (s.names.all (fun y => decide (0 ≤ y.2) && decide (y.2 ≤ 2)) && decide (0 < s.names.length)))) ∧ Below w.heap.size w w' := by
  have dl : decide (s.ln < 0) = false := decide_eq_false (by omega)
  have d1 : (s.k == 1) = true := by simpa using hk
  have g1 := hin.rt.1.1
  have g2 := hin.rt.1.2.1
  have g3 := hin.bs.1.1
  have g4 := hin.bs.1.2.1
  have g7 := ((inS_iff s).1 hin).1.ni.1
  have g8 := ((inS_iff s).1 hin).1.ni.2.1
  have g9 := ((inS_iff s).1 hin).1.li.1
  have g10 := ((inS_iff s).1 hin).1.li.2.1
  have g5 : (s.right.length : Int) ≤ 9223372036854775807 := by omega
  have g6 : (s.blocks.length : Int) ≤ 9223372036854775807 := by omega
  have g11 : (s.names.length : Int) ≤ 9223372036854775807 := by omega
  have g12 : (s.left.length : Int) ≤ 9223372036854775807 := by omega
  clear g1 g2 g3 g4 g7 g8 g9 g10
  obtain ⟨C, hC⟩ : ∃ c, rcB s (s.names.length) (0) (s.right.length) (0) = c := ⟨_, rfl⟩
  have HC : Hid (∀ W, Calls Tryz.prog 70 #[s.v, .int .i64 (s.names.length), .int .i64 (0), .int .i64 (s.right.length), .int .i64 (0)] W fun e W' => e = .returned (.bool C) ∧ Below W.heap.size W W') := fun W => hC ▸ rcounts_any s (s.names.length) (0) (s.right.length) (0) W
  rw [hC]
  obtain ⟨Q, hQ⟩ : ∃ q, (s.names.all (fun y => decide (0 ≤ y.2) && decide (y.2 ≤ 2)) && decide (0 < s.names.length)) = q := ⟨_, rfl⟩
  have HP : Hid (∀ W, Below w.heap.size w W → Calls Tryz.prog 71 #[.slice s.nA s.names.length s.nC] W fun e W' => e = .returned (.bool Q) ∧ ∃ m, W' = W.drewN m) := fun W hW => by rw [← hQ]; exact rattr_any s.names s.nA s.nC W.heap.size W ((inS_iff s).1 hin).1.ni (((inS_iff s).1 hin).1.nAt.still (l2_still (still_of hW (Nat.le_refl _))) hW.size)
  rw [hQ]
  clear hC hQ hin hk hl
  cases C with
  | false =>
    go_enter Tryz.func49, Tryz.ntmps49
    go_wp2_with fail
    go_quiet (fail)
    go_wp2_with (first | (go_at_call 70; (with_reducible refine (HC.out _).mono ?_); rintro e w1 ⟨rfl, hb⟩; (refine mem hb ?_; intro N hN hz hc hf; (try simp at hN); subst hN)))
    go_returns
    refine ⟨rfl, ?_⟩
    (repeat' (first | (with_reducible exact Below.refl _ _) | (with_reducible assumption) | (with_reducible refine Below.alloc ?_ ?_ _) | (with_reducible refine below_drewN ?_ _) | (with_reducible refine Below.drew ?_) | (with_reducible refine Below.setCell ?_ ?_ _) | (with_reducible refine below_via (by assumption) ?_ ?_) | (with_reducible refine below_via (later_below _) ?_ ?_) | (with_reducible exact Nat.le_refl _) | omega | (simp; omega) | (simp; done)))
  | true =>
    go_enter Tryz.func49, Tryz.ntmps49
    go_wp2_with fail
    go_quiet (fail)
    go_wp2_with (first | (go_at_call 70; (with_reducible refine (HC.out _).mono ?_); rintro e w1 ⟨rfl, hb⟩; (refine mem hb ?_; intro N hN hz hc hf; (try simp at hN); subst hN)) | (go_at_call 71; (with_reducible refine (HP.out _ ?_).mono ?_); (focus ((repeat' (first | (with_reducible exact Below.refl _ _) | (with_reducible assumption) | (with_reducible refine Below.alloc ?_ ?_ _) | (with_reducible refine below_drewN ?_ _) | (with_reducible refine Below.drew ?_) | (with_reducible refine Below.setCell ?_ ?_ _) | (with_reducible refine below_via (by assumption) ?_ ?_) | (with_reducible refine below_via (later_below _) ?_ ?_) | (with_reducible exact Nat.le_refl _) | omega | (simp; omega) | (simp; done))))); rintro e w3 ⟨rfl, m3, rfl⟩; (refine mem hb ?_; intro N hN hz hc hf; (try simp at hN); subst hN)))
    go_returns
    refine ⟨rfl, ?_⟩
    (repeat' (first | (with_reducible exact Below.refl _ _) | (with_reducible assumption) | (with_reducible refine Below.alloc ?_ ?_ _) | (with_reducible refine below_drewN ?_ _) | (with_reducible refine Below.drew ?_) | (with_reducible refine Below.setCell ?_ ?_ _) | (with_reducible refine below_via (by assumption) ?_ ?_) | (with_reducible refine below_via (later_below _) ?_ ?_) | (with_reducible exact Nat.le_refl _) | omega | (simp; omega) | (simp; done)))

set_option maxHeartbeats 3200000 in
set_option maxRecDepth 100000 in
theorem rsf2 (hk : s.k = 2) (hl : 0 ≤ s.ln) : Calls Tryz.prog 49 #[s.v, .bool last] w fun e w' => e = .returned (.bool (rcB s (1) (0) (1) (0) && (s.names.all (fun y => y.2 == 0) && firstK s.right == 11))) ∧ Below w.heap.size w w' := by
  have dl : decide (s.ln < 0) = false := decide_eq_false (by omega)
  have d1 : (s.k == 1) = false := by simp; omega
  have d2 : (s.k == 2) = true := by simpa using hk
  have g1 := hin.rt.1.1
  have g2 := hin.rt.1.2.1
  have g3 := hin.bs.1.1
  have g4 := hin.bs.1.2.1
  have g7 := ((inS_iff s).1 hin).1.ni.1
  have g8 := ((inS_iff s).1 hin).1.ni.2.1
  have g9 := ((inS_iff s).1 hin).1.li.1
  have g10 := ((inS_iff s).1 hin).1.li.2.1
  have g5 : (s.right.length : Int) ≤ 9223372036854775807 := by omega
  have g6 : (s.blocks.length : Int) ≤ 9223372036854775807 := by omega
  have g11 : (s.names.length : Int) ≤ 9223372036854775807 := by omega
  have g12 : (s.left.length : Int) ≤ 9223372036854775807 := by omega
  clear g1 g2 g3 g4 g7 g8 g9 g10
  obtain ⟨C, hC⟩ : ∃ c, rcB s (1) (0) (1) (0) = c := ⟨_, rfl⟩
  have HC : Hid (∀ W, Calls Tryz.prog 70 #[s.v, .int .i64 (1), .int .i64 (0), .int .i64 (1), .int .i64 (0)] W fun e W' => e = .returned (.bool C) ∧ Below W.heap.size W W') := fun W => hC ▸ rcounts_any s (1) (0) (1) (0) W
  rw [hC]
  obtain ⟨Q, hQ⟩ : ∃ q, (s.names.all (fun y => y.2 == 0)) = q := ⟨_, rfl⟩
  have HP : Hid (∀ W, Below w.heap.size w W → Calls Tryz.prog 72 #[.slice s.nA s.names.length s.nC] W fun e W' => e = .returned (.bool Q) ∧ ∃ m, W' = W.drewN m) := fun W hW => by rw [← hQ]; exact rplain_any s.names s.nA s.nC W.heap.size W ((inS_iff s).1 hin).1.ni (((inS_iff s).1 hin).1.nAt.still (l2_still (still_of hW (Nat.le_refl _))) hW.size)
  rw [hQ]
  cases C with
  | false =>
    clear hC hin hk hQ hl
    go_enter Tryz.func49, Tryz.ntmps49
    go_wp2_with fail
    go_quiet (fail)
    go_wp2_with (first | (go_at_call 70; (with_reducible refine (HC.out _).mono ?_); rintro e w1 ⟨rfl, hb⟩; (refine mem hb ?_; intro N hN hz hc hf; (try simp at hN); subst hN)))
    go_returns
    refine ⟨rfl, ?_⟩
    (repeat' (first | (with_reducible exact Below.refl _ _) | (with_reducible assumption) | (with_reducible refine Below.alloc ?_ ?_ _) | (with_reducible refine below_drewN ?_ _) | (with_reducible refine Below.drew ?_) | (with_reducible refine Below.setCell ?_ ?_ _) | (with_reducible refine below_via (by assumption) ?_ ?_) | (with_reducible refine below_via (later_below _) ?_ ?_) | (with_reducible exact Nat.le_refl _) | omega | (simp; omega) | (simp; done)))
  | true =>
    have hr1 := rc_right hC
    obtain ⟨br, or_, hra, hbr, hcx, -⟩ := hin.rt.at_ (k := 0) (by omega)
    obtain ⟨x, hx⟩ : ∃ x, s.right[0] = x := ⟨_, rfl⟩
    have hf : firstK s.right = x.k := by rw [← hx]; exact firstK_at _ _
    rw [hf]
    rw [hx, Nat.zero_mul, Nat.add_zero] at hcx
    obtain ⟨c0, -⟩ := hcx
    simp only [TS.v, hra, hr1] at HC
    clear hC hin hk hx hf hQ hl
    cases Q with
    | false =>
      go_enter Tryz.func49, Tryz.ntmps49
      go_wp2_with fail
      go_quiet (fail)
      go_wp2_with (first | (go_at_call 70; (with_reducible refine (HC.out _).mono ?_); rintro e w1 ⟨rfl, hb⟩; (refine mem hb ?_; intro N hN hz hc hf; (try simp at hN); subst hN)) | (go_at_call 72; (with_reducible refine (HP.out _ ?_).mono ?_); (focus ((repeat' (first | (with_reducible exact Below.refl _ _) | (with_reducible assumption) | (with_reducible refine Below.alloc ?_ ?_ _) | (with_reducible refine below_drewN ?_ _) | (with_reducible refine Below.drew ?_) | (with_reducible refine Below.setCell ?_ ?_ _) | (with_reducible refine below_via (by assumption) ?_ ?_) | (with_reducible refine below_via (later_below _) ?_ ?_) | (with_reducible exact Nat.le_refl _) | omega | (simp; omega) | (simp; done))))); rintro e w3 ⟨rfl, m3, rfl⟩; (refine mem hb ?_; intro N hN hz hc hf; (try simp at hN); subst hN)))
      go_returns
      refine ⟨rfl, ?_⟩
      (repeat' (first | (with_reducible exact Below.refl _ _) | (with_reducible assumption) | (with_reducible refine Below.alloc ?_ ?_ _) | (with_reducible refine below_drewN ?_ _) | (with_reducible refine Below.drew ?_) | (with_reducible refine Below.setCell ?_ ?_ _) | (with_reducible refine below_via (by assumption) ?_ ?_) | (with_reducible refine below_via (later_below _) ?_ ?_) | (with_reducible exact Nat.le_refl _) | omega | (simp; omega) | (simp; done)))
    | true =>
      go_enter Tryz.func49, Tryz.ntmps49
      go_wp2_with fail
      go_quiet (fail)
      go_wp2_with (first | (go_at_call 70; (with_reducible refine (HC.out _).mono ?_); rintro e w1 ⟨rfl, hb⟩; (refine mem hb ?_; intro N hN hz hc hf; (try simp at hN); subst hN)) | (go_at_call 72; (with_reducible refine (HP.out _ ?_).mono ?_); (focus ((repeat' (first | (with_reducible exact Below.refl _ _) | (with_reducible assumption) | (with_reducible refine Below.alloc ?_ ?_ _) | (with_reducible refine below_drewN ?_ _) | (with_reducible refine Below.drew ?_) | (with_reducible refine Below.setCell ?_ ?_ _) | (with_reducible refine below_via (by assumption) ?_ ?_) | (with_reducible refine below_via (later_below _) ?_ ?_) | (with_reducible exact Nat.le_refl _) | omega | (simp; omega) | (simp; done))))); rintro e w3 ⟨rfl, m3, rfl⟩; (refine mem hb ?_; intro N hN hz hc hf; (try simp at hN); subst hN)))
      go_returns
      refine ⟨rfl, ?_⟩
      (repeat' (first | (with_reducible exact Below.refl _ _) | (with_reducible assumption) | (with_reducible refine Below.alloc ?_ ?_ _) | (with_reducible refine below_drewN ?_ _) | (with_reducible refine Below.drew ?_) | (with_reducible refine Below.setCell ?_ ?_ _) | (with_reducible refine below_via (by assumption) ?_ ?_) | (with_reducible refine below_via (later_below _) ?_ ?_) | (with_reducible exact Nat.le_refl _) | omega | (simp; omega) | (simp; done)))

set_option maxHeartbeats 3200000 in
set_option maxRecDepth 100000 in
theorem rsf3 (hk : s.k = 3) (hl : 0 ≤ s.ln) : Calls Tryz.prog 49 #[s.v, .bool last] w fun e w' => e = .returned (.bool (rcB s (0) (s.left.length) (s.right.length) (0) && ((s.left.all (fun y => y.k == 7 || y.k == 8) && decide (0 < s.left.length)) && decide (0 < s.right.length)))) ∧ Below w.heap.size w w' := by
  have dl : decide (s.ln < 0) = false := decide_eq_false (by omega)
  have d1 : (s.k == 1) = false := by simp; omega
  have d2 : (s.k == 2) = false := by simp; omega
  have d3 : (s.k == 3) = true := by simpa using hk
  have g1 := hin.rt.1.1
  have g2 := hin.rt.1.2.1
  have g3 := hin.bs.1.1
  have g4 := hin.bs.1.2.1
  have g7 := ((inS_iff s).1 hin).1.ni.1
  have g8 := ((inS_iff s).1 hin).1.ni.2.1
  have g9 := ((inS_iff s).1 hin).1.li.1
  have g10 := ((inS_iff s).1 hin).1.li.2.1
  have g5 : (s.right.length : Int) ≤ 9223372036854775807 := by omega
  have g6 : (s.blocks.length : Int) ≤ 9223372036854775807 := by omega
  have g11 : (s.names.length : Int) ≤ 9223372036854775807 := by omega
  have g12 : (s.left.length : Int) ≤ 9223372036854775807 := by omega
  clear g1 g2 g3 g4 g7 g8 g9 g10
  obtain ⟨C, hC⟩ : ∃ c, rcB s (0) (s.left.length) (s.right.length) (0) = c := ⟨_, rfl⟩
  have HC : Hid (∀ W, Calls Tryz.prog 70 #[s.v, .int .i64 (0), .int .i64 (s.left.length), .int .i64 (s.right.length), .int .i64 (0)] W fun e W' => e = .returned (.bool C) ∧ Below W.heap.size W W') := fun W => hC ▸ rcounts_any s (0) (s.left.length) (s.right.length) (0) W
  rw [hC]
  obtain ⟨Q, hQ⟩ : ∃ q, (s.left.all (fun y => y.k == 7 || y.k == 8) && decide (0 < s.left.length)) = q := ⟨_, rfl⟩
  have HP : Hid (∀ W, Below w.heap.size w W → Calls Tryz.prog 73 #[.slice s.lA s.left.length s.lC] W fun e W' => e = .returned (.bool Q) ∧ ∃ m, W' = W.drewN m) := fun W hW => by rw [← hQ]; exact rsides_any s.left s.lA s.lC W.heap.size W ((inS_iff s).1 hin).1.li (((inS_iff s).1 hin).1.lAt.still (x8_still (still_of hW (Nat.le_refl _))) hW.size)
  rw [hQ]
  clear hC hQ hin hk hl
  cases C with
  | false =>
    go_enter Tryz.func49, Tryz.ntmps49
    go_wp2_with fail
    go_quiet (fail)
    go_wp2_with (first | (go_at_call 70; (with_reducible refine (HC.out _).mono ?_); rintro e w1 ⟨rfl, hb⟩; (refine mem hb ?_; intro N hN hz hc hf; (try simp at hN); subst hN)))
    go_returns
    refine ⟨rfl, ?_⟩
    (repeat' (first | (with_reducible exact Below.refl _ _) | (with_reducible assumption) | (with_reducible refine Below.alloc ?_ ?_ _) | (with_reducible refine below_drewN ?_ _) | (with_reducible refine Below.drew ?_) | (with_reducible refine Below.setCell ?_ ?_ _) | (with_reducible refine below_via (by assumption) ?_ ?_) | (with_reducible refine below_via (later_below _) ?_ ?_) | (with_reducible exact Nat.le_refl _) | omega | (simp; omega) | (simp; done)))
  | true =>
    cases Q with
    | false =>
      go_enter Tryz.func49, Tryz.ntmps49
      go_wp2_with fail
      go_quiet (fail)
      go_wp2_with (first | (go_at_call 70; (with_reducible refine (HC.out _).mono ?_); rintro e w1 ⟨rfl, hb⟩; (refine mem hb ?_; intro N hN hz hc hf; (try simp at hN); subst hN)) | (go_at_call 73; (with_reducible refine (HP.out _ ?_).mono ?_); (focus ((repeat' (first | (with_reducible exact Below.refl _ _) | (with_reducible assumption) | (with_reducible refine Below.alloc ?_ ?_ _) | (with_reducible refine below_drewN ?_ _) | (with_reducible refine Below.drew ?_) | (with_reducible refine Below.setCell ?_ ?_ _) | (with_reducible refine below_via (by assumption) ?_ ?_) | (with_reducible refine below_via (later_below _) ?_ ?_) | (with_reducible exact Nat.le_refl _) | omega | (simp; omega) | (simp; done))))); rintro e w3 ⟨rfl, m3, rfl⟩; (refine mem hb ?_; intro N hN hz hc hf; (try simp at hN); subst hN)))
      go_returns
      refine ⟨rfl, ?_⟩
      (repeat' (first | (with_reducible exact Below.refl _ _) | (with_reducible assumption) | (with_reducible refine Below.alloc ?_ ?_ _) | (with_reducible refine below_drewN ?_ _) | (with_reducible refine Below.drew ?_) | (with_reducible refine Below.setCell ?_ ?_ _) | (with_reducible refine below_via (by assumption) ?_ ?_) | (with_reducible refine below_via (later_below _) ?_ ?_) | (with_reducible exact Nat.le_refl _) | omega | (simp; omega) | (simp; done)))
    | true =>
      have hg : decide (0 < s.right.length) = decide (0 < (s.right.length : Int)) := by simp
      rw [hg]
      go_enter Tryz.func49, Tryz.ntmps49
      go_wp2_with fail
      go_quiet (fail)
      go_wp2_with (first | (go_at_call 70; (with_reducible refine (HC.out _).mono ?_); rintro e w1 ⟨rfl, hb⟩; (refine mem hb ?_; intro N hN hz hc hf; (try simp at hN); subst hN)) | (go_at_call 73; (with_reducible refine (HP.out _ ?_).mono ?_); (focus ((repeat' (first | (with_reducible exact Below.refl _ _) | (with_reducible assumption) | (with_reducible refine Below.alloc ?_ ?_ _) | (with_reducible refine below_drewN ?_ _) | (with_reducible refine Below.drew ?_) | (with_reducible refine Below.setCell ?_ ?_ _) | (with_reducible refine below_via (by assumption) ?_ ?_) | (with_reducible refine below_via (later_below _) ?_ ?_) | (with_reducible exact Nat.le_refl _) | omega | (simp; omega) | (simp; done))))); rintro e w3 ⟨rfl, m3, rfl⟩; (refine mem hb ?_; intro N hN hz hc hf; (try simp at hN); subst hN)))
      go_returns
      refine ⟨rfl, ?_⟩
      (repeat' (first | (with_reducible exact Below.refl _ _) | (with_reducible assumption) | (with_reducible refine Below.alloc ?_ ?_ _) | (with_reducible refine below_drewN ?_ _) | (with_reducible refine Below.drew ?_) | (with_reducible refine Below.setCell ?_ ?_ _) | (with_reducible refine below_via (by assumption) ?_ ?_) | (with_reducible refine below_via (later_below _) ?_ ?_) | (with_reducible exact Nat.le_refl _) | omega | (simp; omega) | (simp; done)))

set_option maxHeartbeats 3200000 in
set_option maxRecDepth 100000 in
theorem rsf4 (hk : s.k = 4) (hl : 0 ≤ s.ln) : Calls Tryz.prog 49 #[s.v, .bool last] w fun e w' => e = .returned (.bool (rcB s (0) (0) (1) (0) && (firstK s.right == 9 || firstK s.right == 10))) ∧ Below w.heap.size w w' := by
  have dl : decide (s.ln < 0) = false := decide_eq_false (by omega)
  have d1 : (s.k == 1) = false := by simp; omega
  have d2 : (s.k == 2) = false := by simp; omega
  have d3 : (s.k == 3) = false := by simp; omega
  have d4 : (s.k == 4) = true := by simpa using hk
  have g1 := hin.rt.1.1
  have g2 := hin.rt.1.2.1
  have g3 := hin.bs.1.1
  have g4 := hin.bs.1.2.1
  have g7 := ((inS_iff s).1 hin).1.ni.1
  have g8 := ((inS_iff s).1 hin).1.ni.2.1
  have g9 := ((inS_iff s).1 hin).1.li.1
  have g10 := ((inS_iff s).1 hin).1.li.2.1
  have g5 : (s.right.length : Int) ≤ 9223372036854775807 := by omega
  have g6 : (s.blocks.length : Int) ≤ 9223372036854775807 := by omega
  have g11 : (s.names.length : Int) ≤ 9223372036854775807 := by omega
  have g12 : (s.left.length : Int) ≤ 9223372036854775807 := by omega
  clear g1 g2 g3 g4 g7 g8 g9 g10
  obtain ⟨C, hC⟩ : ∃ c, rcB s (0) (0) (1) (0) = c := ⟨_, rfl⟩
  have HC : Hid (∀ W, Calls Tryz.prog 70 #[s.v, .int .i64 (0), .int .i64 (0), .int .i64 (1), .int .i64 (0)] W fun e W' => e = .returned (.bool C) ∧ Below W.heap.size W W') := fun W => hC ▸ rcounts_any s (0) (0) (1) (0) W
  rw [hC]
  cases C with
  | false =>
    clear hC hin hk hl
    go_enter Tryz.func49, Tryz.ntmps49
    go_wp2_with fail
    go_quiet (fail)
    go_wp2_with (first | (go_at_call 70; (with_reducible refine (HC.out _).mono ?_); rintro e w1 ⟨rfl, hb⟩; (refine mem hb ?_; intro N hN hz hc hf; (try simp at hN); subst hN)))
    go_returns
    refine ⟨rfl, ?_⟩
    (repeat' (first | (with_reducible exact Below.refl _ _) | (with_reducible assumption) | (with_reducible refine Below.alloc ?_ ?_ _) | (with_reducible refine below_drewN ?_ _) | (with_reducible refine Below.drew ?_) | (with_reducible refine Below.setCell ?_ ?_ _) | (with_reducible refine below_via (by assumption) ?_ ?_) | (with_reducible refine below_via (later_below _) ?_ ?_) | (with_reducible exact Nat.le_refl _) | omega | (simp; omega) | (simp; done)))
  | true =>
    have hr1 := rc_right hC
    obtain ⟨br, or_, hra, hbr, hcx, -⟩ := hin.rt.at_ (k := 0) (by omega)
    obtain ⟨x, hx⟩ : ∃ x, s.right[0] = x := ⟨_, rfl⟩
    have hf : firstK s.right = x.k := by rw [← hx]; exact firstK_at _ _
    rw [hf]
    rw [hx, Nat.zero_mul, Nat.add_zero] at hcx
    obtain ⟨c0, -⟩ := hcx
    simp only [TS.v, hra, hr1] at HC
    clear hC hin hk hx hf hl
    cases hE : (x.k == 9) with
    | false =>
      go_enter Tryz.func49, Tryz.ntmps49
      go_wp2_with fail
      go_quiet (fail)
      go_wp2_with (first | (go_at_call 70; (with_reducible refine (HC.out _).mono ?_); rintro e w1 ⟨rfl, hb⟩; (refine mem hb ?_; intro N hN hz hc hf; (try simp at hN); subst hN)))
      go_returns
      refine ⟨rfl, ?_⟩
      (repeat' (first | (with_reducible exact Below.refl _ _) | (with_reducible assumption) | (with_reducible refine Below.alloc ?_ ?_ _) | (with_reducible refine below_drewN ?_ _) | (with_reducible refine Below.drew ?_) | (with_reducible refine Below.setCell ?_ ?_ _) | (with_reducible refine below_via (by assumption) ?_ ?_) | (with_reducible refine below_via (later_below _) ?_ ?_) | (with_reducible exact Nat.le_refl _) | omega | (simp; omega) | (simp; done)))
    | true =>
      go_enter Tryz.func49, Tryz.ntmps49
      go_wp2_with fail
      go_quiet (fail)
      go_wp2_with (first | (go_at_call 70; (with_reducible refine (HC.out _).mono ?_); rintro e w1 ⟨rfl, hb⟩; (refine mem hb ?_; intro N hN hz hc hf; (try simp at hN); subst hN)))
      go_returns
      refine ⟨rfl, ?_⟩
      (repeat' (first | (with_reducible exact Below.refl _ _) | (with_reducible assumption) | (with_reducible refine Below.alloc ?_ ?_ _) | (with_reducible refine below_drewN ?_ _) | (with_reducible refine Below.drew ?_) | (with_reducible refine Below.setCell ?_ ?_ _) | (with_reducible refine below_via (by assumption) ?_ ?_) | (with_reducible refine below_via (later_below _) ?_ ?_) | (with_reducible exact Nat.le_refl _) | omega | (simp; omega) | (simp; done)))

set_option maxHeartbeats 3200000 in
set_option maxRecDepth 100000 in
theorem rsf5 (hk : s.k = 5) (hl : 0 ≤ s.ln) : Calls Tryz.prog 49 #[s.v, .bool last] w fun e w' => e = .returned (.bool (rcB s (0) (0) (0) (1))) ∧ Below w.heap.size w w' := by
  have dl : decide (s.ln < 0) = false := decide_eq_false (by omega)
  have d1 : (s.k == 1) = false := by simp; omega
  have d2 : (s.k == 2) = false := by simp; omega
  have d3 : (s.k == 3) = false := by simp; omega
  have d4 : (s.k == 4) = false := by simp; omega
  have d5 : (s.k == 5) = true := by simpa using hk
  have g1 := hin.rt.1.1
  have g2 := hin.rt.1.2.1
  have g3 := hin.bs.1.1
  have g4 := hin.bs.1.2.1
  have g7 := ((inS_iff s).1 hin).1.ni.1
  have g8 := ((inS_iff s).1 hin).1.ni.2.1
  have g9 := ((inS_iff s).1 hin).1.li.1
  have g10 := ((inS_iff s).1 hin).1.li.2.1
  have g5 : (s.right.length : Int) ≤ 9223372036854775807 := by omega
  have g6 : (s.blocks.length : Int) ≤ 9223372036854775807 := by omega
  have g11 : (s.names.length : Int) ≤ 9223372036854775807 := by omega
  have g12 : (s.left.length : Int) ≤ 9223372036854775807 := by omega
  clear g1 g2 g3 g4 g7 g8 g9 g10
  obtain ⟨C, hC⟩ : ∃ c, rcB s (0) (0) (0) (1) = c := ⟨_, rfl⟩
  have HC : Hid (∀ W, Calls Tryz.prog 70 #[s.v, .int .i64 (0), .int .i64 (0), .int .i64 (0), .int .i64 (1)] W fun e W' => e = .returned (.bool C) ∧ Below W.heap.size W W') := fun W => hC ▸ rcounts_any s (0) (0) (0) (1) W
  rw [hC]
  clear hC hin hk hl
  cases C with
  | false =>
    go_enter Tryz.func49, Tryz.ntmps49
    go_wp2_with fail
    go_quiet (fail)
    go_wp2_with (first | (go_at_call 70; (with_reducible refine (HC.out _).mono ?_); rintro e w1 ⟨rfl, hb⟩; (refine mem hb ?_; intro N hN hz hc hf; (try simp at hN); subst hN)))
    go_returns
    refine ⟨rfl, ?_⟩
    (repeat' (first | (with_reducible exact Below.refl _ _) | (with_reducible assumption) | (with_reducible refine Below.alloc ?_ ?_ _) | (with_reducible refine below_drewN ?_ _) | (with_reducible refine Below.drew ?_) | (with_reducible refine Below.setCell ?_ ?_ _) | (with_reducible refine below_via (by assumption) ?_ ?_) | (with_reducible refine below_via (later_below _) ?_ ?_) | (with_reducible exact Nat.le_refl _) | omega | (simp; omega) | (simp; done)))
  | true =>
    go_enter Tryz.func49, Tryz.ntmps49
    go_wp2_with fail
    go_quiet (fail)
    go_wp2_with (first | (go_at_call 70; (with_reducible refine (HC.out _).mono ?_); rintro e w1 ⟨rfl, hb⟩; (refine mem hb ?_; intro N hN hz hc hf; (try simp at hN); subst hN)))
    go_returns
    refine ⟨rfl, ?_⟩
    (repeat' (first | (with_reducible exact Below.refl _ _) | (with_reducible assumption) | (with_reducible refine Below.alloc ?_ ?_ _) | (with_reducible refine below_drewN ?_ _) | (with_reducible refine Below.drew ?_) | (with_reducible refine Below.setCell ?_ ?_ _) | (with_reducible refine below_via (by assumption) ?_ ?_) | (with_reducible refine below_via (later_below _) ?_ ?_) | (with_reducible exact Nat.le_refl _) | omega | (simp; omega) | (simp; done)))

set_option maxHeartbeats 3200000 in
set_option maxRecDepth 100000 in
theorem rsf6 (hk : s.k = 6) (hl : 0 ≤ s.ln) : Calls Tryz.prog 49 #[s.v, .bool last] w fun e w' => e = .returned (.bool (rcB s (0) (0) (1) (1))) ∧ Below w.heap.size w w' := by
  have dl : decide (s.ln < 0) = false := decide_eq_false (by omega)
  have d1 : (s.k == 1) = false := by simp; omega
  have d2 : (s.k == 2) = false := by simp; omega
  have d3 : (s.k == 3) = false := by simp; omega
  have d4 : (s.k == 4) = false := by simp; omega
  have d5 : (s.k == 5) = false := by simp; omega
  have d6 : (s.k == 6) = true := by simpa using hk
  have g1 := hin.rt.1.1
  have g2 := hin.rt.1.2.1
  have g3 := hin.bs.1.1
  have g4 := hin.bs.1.2.1
  have g7 := ((inS_iff s).1 hin).1.ni.1
  have g8 := ((inS_iff s).1 hin).1.ni.2.1
  have g9 := ((inS_iff s).1 hin).1.li.1
  have g10 := ((inS_iff s).1 hin).1.li.2.1
  have g5 : (s.right.length : Int) ≤ 9223372036854775807 := by omega
  have g6 : (s.blocks.length : Int) ≤ 9223372036854775807 := by omega
  have g11 : (s.names.length : Int) ≤ 9223372036854775807 := by omega
  have g12 : (s.left.length : Int) ≤ 9223372036854775807 := by omega
  clear g1 g2 g3 g4 g7 g8 g9 g10
  obtain ⟨C, hC⟩ : ∃ c, rcB s (0) (0) (1) (1) = c := ⟨_, rfl⟩
  have HC : Hid (∀ W, Calls Tryz.prog 70 #[s.v, .int .i64 (0), .int .i64 (0), .int .i64 (1), .int .i64 (1)] W fun e W' => e = .returned (.bool C) ∧ Below W.heap.size W W') := fun W => hC ▸ rcounts_any s (0) (0) (1) (1) W
  rw [hC]
  clear hC hin hk hl
  cases C with
  | false =>
    go_enter Tryz.func49, Tryz.ntmps49
    go_wp2_with fail
    go_quiet (fail)
    go_wp2_with (first | (go_at_call 70; (with_reducible refine (HC.out _).mono ?_); rintro e w1 ⟨rfl, hb⟩; (refine mem hb ?_; intro N hN hz hc hf; (try simp at hN); subst hN)))
    go_returns
    refine ⟨rfl, ?_⟩
    (repeat' (first | (with_reducible exact Below.refl _ _) | (with_reducible assumption) | (with_reducible refine Below.alloc ?_ ?_ _) | (with_reducible refine below_drewN ?_ _) | (with_reducible refine Below.drew ?_) | (with_reducible refine Below.setCell ?_ ?_ _) | (with_reducible refine below_via (by assumption) ?_ ?_) | (with_reducible refine below_via (later_below _) ?_ ?_) | (with_reducible exact Nat.le_refl _) | omega | (simp; omega) | (simp; done)))
  | true =>
    go_enter Tryz.func49, Tryz.ntmps49
    go_wp2_with fail
    go_quiet (fail)
    go_wp2_with (first | (go_at_call 70; (with_reducible refine (HC.out _).mono ?_); rintro e w1 ⟨rfl, hb⟩; (refine mem hb ?_; intro N hN hz hc hf; (try simp at hN); subst hN)))
    go_returns
    refine ⟨rfl, ?_⟩
    (repeat' (first | (with_reducible exact Below.refl _ _) | (with_reducible assumption) | (with_reducible refine Below.alloc ?_ ?_ _) | (with_reducible refine below_drewN ?_ _) | (with_reducible refine Below.drew ?_) | (with_reducible refine Below.setCell ?_ ?_ _) | (with_reducible refine below_via (by assumption) ?_ ?_) | (with_reducible refine below_via (later_below _) ?_ ?_) | (with_reducible exact Nat.le_refl _) | omega | (simp; omega) | (simp; done)))

set_option maxHeartbeats 3200000 in
set_option maxRecDepth 100000 in
theorem rsf7 (hk : s.k = 7) (hl : 0 ≤ s.ln) : Calls Tryz.prog 49 #[s.v, .bool last] w fun e w' => e = .returned (.bool (rcB s (0) (0) (1) (1))) ∧ Below w.heap.size w w' := by
  have dl : decide (s.ln < 0) = false := decide_eq_false (by omega)
  have d1 : (s.k == 1) = false := by simp; omega
  have d2 : (s.k == 2) = false := by simp; omega
  have d3 : (s.k == 3) = false := by simp; omega
  have d4 : (s.k == 4) = false := by simp; omega
  have d5 : (s.k == 5) = false := by simp; omega
  have d6 : (s.k == 6) = false := by simp; omega
  have d7 : (s.k == 7) = true := by simpa using hk
  have g1 := hin.rt.1.1
  have g2 := hin.rt.1.2.1
  have g3 := hin.bs.1.1
  have g4 := hin.bs.1.2.1
  have g7 := ((inS_iff s).1 hin).1.ni.1
  have g8 := ((inS_iff s).1 hin).1.ni.2.1
  have g9 := ((inS_iff s).1 hin).1.li.1
  have g10 := ((inS_iff s).1 hin).1.li.2.1
  have g5 : (s.right.length : Int) ≤ 9223372036854775807 := by omega
  have g6 : (s.blocks.length : Int) ≤ 9223372036854775807 := by omega
  have g11 : (s.names.length : Int) ≤ 9223372036854775807 := by omega
  have g12 : (s.left.length : Int) ≤ 9223372036854775807 := by omega
  clear g1 g2 g3 g4 g7 g8 g9 g10
  obtain ⟨C, hC⟩ : ∃ c, rcB s (0) (0) (1) (1) = c := ⟨_, rfl⟩
  have HC : Hid (∀ W, Calls Tryz.prog 70 #[s.v, .int .i64 (0), .int .i64 (0), .int .i64 (1), .int .i64 (1)] W fun e W' => e = .returned (.bool C) ∧ Below W.heap.size W W') := fun W => hC ▸ rcounts_any s (0) (0) (1) (1) W
  rw [hC]
  clear hC hin hk hl
  cases C with
  | false =>
    go_enter Tryz.func49, Tryz.ntmps49
    go_wp2_with fail
    go_quiet (fail)
    go_wp2_with (first | (go_at_call 70; (with_reducible refine (HC.out _).mono ?_); rintro e w1 ⟨rfl, hb⟩; (refine mem hb ?_; intro N hN hz hc hf; (try simp at hN); subst hN)))
    go_returns
    refine ⟨rfl, ?_⟩
    (repeat' (first | (with_reducible exact Below.refl _ _) | (with_reducible assumption) | (with_reducible refine Below.alloc ?_ ?_ _) | (with_reducible refine below_drewN ?_ _) | (with_reducible refine Below.drew ?_) | (with_reducible refine Below.setCell ?_ ?_ _) | (with_reducible refine below_via (by assumption) ?_ ?_) | (with_reducible refine below_via (later_below _) ?_ ?_) | (with_reducible exact Nat.le_refl _) | omega | (simp; omega) | (simp; done)))
  | true =>
    go_enter Tryz.func49, Tryz.ntmps49
    go_wp2_with fail
    go_quiet (fail)
    go_wp2_with (first | (go_at_call 70; (with_reducible refine (HC.out _).mono ?_); rintro e w1 ⟨rfl, hb⟩; (refine mem hb ?_; intro N hN hz hc hf; (try simp at hN); subst hN)))
    go_returns
    refine ⟨rfl, ?_⟩
    (repeat' (first | (with_reducible exact Below.refl _ _) | (with_reducible assumption) | (with_reducible refine Below.alloc ?_ ?_ _) | (with_reducible refine below_drewN ?_ _) | (with_reducible refine Below.drew ?_) | (with_reducible refine Below.setCell ?_ ?_ _) | (with_reducible refine below_via (by assumption) ?_ ?_) | (with_reducible refine below_via (later_below _) ?_ ?_) | (with_reducible exact Nat.le_refl _) | omega | (simp; omega) | (simp; done)))

set_option maxHeartbeats 3200000 in
set_option maxRecDepth 100000 in
theorem rsf8 (hk : s.k = 8) (hl : 0 ≤ s.ln) : Calls Tryz.prog 49 #[s.v, .bool last] w fun e w' => e = .returned (.bool (rcB s (0) (0) (s.right.length) (s.blocks.length) && (decide (0 < s.right.length) && ((s.blocks.length : Int) == s.right.length || (s.blocks.length : Int) == s.right.length + 1)))) ∧ Below w.heap.size w w' := by
  have dl : decide (s.ln < 0) = false := decide_eq_false (by omega)
  have d1 : (s.k == 1) = false := by simp; omega
  have d2 : (s.k == 2) = false := by simp; omega
  have d3 : (s.k == 3) = false := by simp; omega
  have d4 : (s.k == 4) = false := by simp; omega
  have d5 : (s.k == 5) = false := by simp; omega
  have d6 : (s.k == 6) = false := by simp; omega
  have d7 : (s.k == 7) = false := by simp; omega
  have d8 : (s.k == 8) = true := by simpa using hk
  have g1 := hin.rt.1.1
  have g2 := hin.rt.1.2.1
  have g3 := hin.bs.1.1
  have g4 := hin.bs.1.2.1
  have g7 := ((inS_iff s).1 hin).1.ni.1
  have g8 := ((inS_iff s).1 hin).1.ni.2.1
  have g9 := ((inS_iff s).1 hin).1.li.1
  have g10 := ((inS_iff s).1 hin).1.li.2.1
  have g5 : (s.right.length : Int) ≤ 9223372036854775807 := by omega
  have g6 : (s.blocks.length : Int) ≤ 9223372036854775807 := by omega
  have g11 : (s.names.length : Int) ≤ 9223372036854775807 := by omega
  have g12 : (s.left.length : Int) ≤ 9223372036854775807 := by omega
  clear g1 g2 g3 g4 g7 g8 g9 g10
  obtain ⟨C, hC⟩ : ∃ c, rcB s (0) (0) (s.right.length) (s.blocks.length) = c := ⟨_, rfl⟩
  have HC : Hid (∀ W, Calls Tryz.prog 70 #[s.v, .int .i64 (0), .int .i64 (0), .int .i64 (s.right.length), .int .i64 (s.blocks.length)] W fun e W' => e = .returned (.bool C) ∧ Below W.heap.size W W') := fun W => hC ▸ rcounts_any s (0) (0) (s.right.length) (s.blocks.length) W
  rw [hC]
  clear hC hin hk hl
  cases C with
  | false =>
    go_enter Tryz.func49, Tryz.ntmps49
    go_wp2_with fail
    go_quiet (fail)
    go_wp2_with (first | (go_at_call 70; (with_reducible refine (HC.out _).mono ?_); rintro e w1 ⟨rfl, hb⟩; (refine mem hb ?_; intro N hN hz hc hf; (try simp at hN); subst hN)))
    go_returns
    refine ⟨rfl, ?_⟩
    (repeat' (first | (with_reducible exact Below.refl _ _) | (with_reducible assumption) | (with_reducible refine Below.alloc ?_ ?_ _) | (with_reducible refine below_drewN ?_ _) | (with_reducible refine Below.drew ?_) | (with_reducible refine Below.setCell ?_ ?_ _) | (with_reducible refine below_via (by assumption) ?_ ?_) | (with_reducible refine below_via (later_below _) ?_ ?_) | (with_reducible exact Nat.le_refl _) | omega | (simp; omega) | (simp; done)))
  | true =>
    by_cases h0 : 0 < s.right.length
    · rw [decide_eq_true h0]
      have h00 : decide (0 < (s.right.length : Int)) = true := decide_eq_true (by omega)
      have HW : Hid (((s.blocks.length : Int) == wrap64 ((s.right.length : Int) + 1)) = ((s.blocks.length : Int) == (s.right.length : Int) + 1)) := wr1 _ _ (by omega) g6 (by omega) g5
      cases hE : ((s.blocks.length : Int) == s.right.length) with
      | false =>
        go_enter Tryz.func49, Tryz.ntmps49
        go_wp2_with fail
        go_quiet (fail)
        go_wp2_with (first | (go_at_call 70; (with_reducible refine (HC.out _).mono ?_); rintro e w1 ⟨rfl, hb⟩; (refine mem hb ?_; intro N hN hz hc hf; (try simp at hN); subst hN)))
        go_returns
        refine ⟨?_, ?_⟩
        · rw [← HW.out, Bool.true_and, Bool.true_and, Bool.false_or]; rfl
        · (repeat' (first | (with_reducible exact Below.refl _ _) | (with_reducible assumption) | (with_reducible refine Below.alloc ?_ ?_ _) | (with_reducible refine below_drewN ?_ _) | (with_reducible refine Below.drew ?_) | (with_reducible refine Below.setCell ?_ ?_ _) | (with_reducible refine below_via (by assumption) ?_ ?_) | (with_reducible refine below_via (later_below _) ?_ ?_) | (with_reducible exact Nat.le_refl _) | omega | (simp; omega) | (simp; done)))
      | true =>
        go_enter Tryz.func49, Tryz.ntmps49
        go_wp2_with fail
        go_quiet (fail)
        go_wp2_with (first | (go_at_call 70; (with_reducible refine (HC.out _).mono ?_); rintro e w1 ⟨rfl, hb⟩; (refine mem hb ?_; intro N hN hz hc hf; (try simp at hN); subst hN)))
        go_returns
        refine ⟨rfl, ?_⟩
        (repeat' (first | (with_reducible exact Below.refl _ _) | (with_reducible assumption) | (with_reducible refine Below.alloc ?_ ?_ _) | (with_reducible refine below_drewN ?_ _) | (with_reducible refine Below.drew ?_) | (with_reducible refine Below.setCell ?_ ?_ _) | (with_reducible refine below_via (by assumption) ?_ ?_) | (with_reducible refine below_via (later_below _) ?_ ?_) | (with_reducible exact Nat.le_refl _) | omega | (simp; omega) | (simp; done)))
    · rw [decide_eq_false h0]
      have h00 : decide (0 < (s.right.length : Int)) = false := decide_eq_false (by omega)
      go_enter Tryz.func49, Tryz.ntmps49
      go_wp2_with fail
      go_quiet (fail)
      go_wp2_with (first | (go_at_call 70; (with_reducible refine (HC.out _).mono ?_); rintro e w1 ⟨rfl, hb⟩; (refine mem hb ?_; intro N hN hz hc hf; (try simp at hN); subst hN)))
      go_returns
      refine ⟨rfl, ?_⟩
      (repeat' (first | (with_reducible exact Below.refl _ _) | (with_reducible assumption) | (with_reducible refine Below.alloc ?_ ?_ _) | (with_reducible refine below_drewN ?_ _) | (with_reducible refine Below.drew ?_) | (with_reducible refine Below.setCell ?_ ?_ _) | (with_reducible refine below_via (by assumption) ?_ ?_) | (with_reducible refine below_via (later_below _) ?_ ?_) | (with_reducible exact Nat.le_refl _) | omega | (simp; omega) | (simp; done)))

set_option maxHeartbeats 3200000 in
set_option maxRecDepth 100000 in
theorem rsf9 (hk : s.k = 9) (hl : 0 ≤ s.ln) : Calls Tryz.prog 49 #[s.v, .bool last] w fun e w' => e = .returned (.bool (rcB s (1) (0) (s.right.length) (1) && (s.names.all (fun y => y.2 == 0) && ((s.right.length : Int) == 2 || (s.right.length : Int) == 3)))) ∧ Below w.heap.size w w' := by
  have dl : decide (s.ln < 0) = false := decide_eq_false (by omega)
  have d1 : (s.k == 1) = false := by simp; omega
  have d2 : (s.k == 2) = false := by simp; omega
  have d3 : (s.k == 3) = false := by simp; omega
  have d4 : (s.k == 4) = false := by simp; omega
  have d5 : (s.k == 5) = false := by simp; omega
  have d6 : (s.k == 6) = false := by simp; omega
  have d7 : (s.k == 7) = false := by simp; omega
  have d8 : (s.k == 8) = false := by simp; omega
  have d9 : (s.k == 9) = true := by simpa using hk
  have g1 := hin.rt.1.1
  have g2 := hin.rt.1.2.1
  have g3 := hin.bs.1.1
  have g4 := hin.bs.1.2.1
  have g7 := ((inS_iff s).1 hin).1.ni.1
  have g8 := ((inS_iff s).1 hin).1.ni.2.1
  have g9 := ((inS_iff s).1 hin).1.li.1
  have g10 := ((inS_iff s).1 hin).1.li.2.1
  have g5 : (s.right.length : Int) ≤ 9223372036854775807 := by omega
  have g6 : (s.blocks.length : Int) ≤ 9223372036854775807 := by omega
  have g11 : (s.names.length : Int) ≤ 9223372036854775807 := by omega
  have g12 : (s.left.length : Int) ≤ 9223372036854775807 := by omega
  clear g1 g2 g3 g4 g7 g8 g9 g10
  obtain ⟨C, hC⟩ : ∃ c, rcB s (1) (0) (s.right.length) (1) = c := ⟨_, rfl⟩
  have HC : Hid (∀ W, Calls Tryz.prog 70 #[s.v, .int .i64 (1), .int .i64 (0), .int .i64 (s.right.length), .int .i64 (1)] W fun e W' => e = .returned (.bool C) ∧ Below W.heap.size W W') := fun W => hC ▸ rcounts_any s (1) (0) (s.right.length) (1) W
  rw [hC]
  obtain ⟨Q, hQ⟩ : ∃ q, (s.names.all (fun y => y.2 == 0)) = q := ⟨_, rfl⟩
  have HP : Hid (∀ W, Below w.heap.size w W → Calls Tryz.prog 72 #[.slice s.nA s.names.length s.nC] W fun e W' => e = .returned (.bool Q) ∧ ∃ m, W' = W.drewN m) := fun W hW => by rw [← hQ]; exact rplain_any s.names s.nA s.nC W.heap.size W ((inS_iff s).1 hin).1.ni (((inS_iff s).1 hin).1.nAt.still (l2_still (still_of hW (Nat.le_refl _))) hW.size)
  rw [hQ]
  clear hC hQ hin hk hl
  cases C with
  | false =>
    go_enter Tryz.func49, Tryz.ntmps49
    go_wp2_with fail
    go_quiet (fail)
    go_wp2_with (first | (go_at_call 70; (with_reducible refine (HC.out _).mono ?_); rintro e w1 ⟨rfl, hb⟩; (refine mem hb ?_; intro N hN hz hc hf; (try simp at hN); subst hN)))
    go_returns
    refine ⟨rfl, ?_⟩
    (repeat' (first | (with_reducible exact Below.refl _ _) | (with_reducible assumption) | (with_reducible refine Below.alloc ?_ ?_ _) | (with_reducible refine below_drewN ?_ _) | (with_reducible refine Below.drew ?_) | (with_reducible refine Below.setCell ?_ ?_ _) | (with_reducible refine below_via (by assumption) ?_ ?_) | (with_reducible refine below_via (later_below _) ?_ ?_) | (with_reducible exact Nat.le_refl _) | omega | (simp; omega) | (simp; done)))
  | true =>
    cases Q with
    | false =>
      go_enter Tryz.func49, Tryz.ntmps49
      go_wp2_with fail
      go_quiet (fail)
      go_wp2_with (first | (go_at_call 70; (with_reducible refine (HC.out _).mono ?_); rintro e w1 ⟨rfl, hb⟩; (refine mem hb ?_; intro N hN hz hc hf; (try simp at hN); subst hN)) | (go_at_call 72; (with_reducible refine (HP.out _ ?_).mono ?_); (focus ((repeat' (first | (with_reducible exact Below.refl _ _) | (with_reducible assumption) | (with_reducible refine Below.alloc ?_ ?_ _) | (with_reducible refine below_drewN ?_ _) | (with_reducible refine Below.drew ?_) | (with_reducible refine Below.setCell ?_ ?_ _) | (with_reducible refine below_via (by assumption) ?_ ?_) | (with_reducible refine below_via (later_below _) ?_ ?_) | (with_reducible exact Nat.le_refl _) | omega | (simp; omega) | (simp; done))))); rintro e w3 ⟨rfl, m3, rfl⟩; (refine mem hb ?_; intro N hN hz hc hf; (try simp at hN); subst hN)))
      go_returns
      refine ⟨rfl, ?_⟩
      (repeat' (first | (with_reducible exact Below.refl _ _) | (with_reducible assumption) | (with_reducible refine Below.alloc ?_ ?_ _) | (with_reducible refine below_drewN ?_ _) | (with_reducible refine Below.drew ?_) | (with_reducible refine Below.setCell ?_ ?_ _) | (with_reducible refine below_via (by assumption) ?_ ?_) | (with_reducible refine below_via (later_below _) ?_ ?_) | (with_reducible exact Nat.le_refl _) | omega | (simp; omega) | (simp; done)))
    | true =>
      cases hE : ((s.right.length : Int) == 2) with
      | false =>
        go_enter Tryz.func49, Tryz.ntmps49
        go_wp2_with fail
        go_quiet (fail)
        go_wp2_with (first | (go_at_call 70; (with_reducible refine (HC.out _).mono ?_); rintro e w1 ⟨rfl, hb⟩; (refine mem hb ?_; intro N hN hz hc hf; (try simp at hN); subst hN)) | (go_at_call 72; (with_reducible refine (HP.out _ ?_).mono ?_); (focus ((repeat' (first | (with_reducible exact Below.refl _ _) | (with_reducible assumption) | (with_reducible refine Below.alloc ?_ ?_ _) | (with_reducible refine below_drewN ?_ _) | (with_reducible refine Below.drew ?_) | (with_reducible refine Below.setCell ?_ ?_ _) | (with_reducible refine below_via (by assumption) ?_ ?_) | (with_reducible refine below_via (later_below _) ?_ ?_) | (with_reducible exact Nat.le_refl _) | omega | (simp; omega) | (simp; done))))); rintro e w3 ⟨rfl, m3, rfl⟩; (refine mem hb ?_; intro N hN hz hc hf; (try simp at hN); subst hN)))
        go_returns
        refine ⟨rfl, ?_⟩
        (repeat' (first | (with_reducible exact Below.refl _ _) | (with_reducible assumption) | (with_reducible refine Below.alloc ?_ ?_ _) | (with_reducible refine below_drewN ?_ _) | (with_reducible refine Below.drew ?_) | (with_reducible refine Below.setCell ?_ ?_ _) | (with_reducible refine below_via (by assumption) ?_ ?_) | (with_reducible refine below_via (later_below _) ?_ ?_) | (with_reducible exact Nat.le_refl _) | omega | (simp; omega) | (simp; done)))
      | true =>
        go_enter Tryz.func49, Tryz.ntmps49
        go_wp2_with fail
        go_quiet (fail)
        go_wp2_with (first | (go_at_call 70; (with_reducible refine (HC.out _).mono ?_); rintro e w1 ⟨rfl, hb⟩; (refine mem hb ?_; intro N hN hz hc hf; (try simp at hN); subst hN)) | (go_at_call 72; (with_reducible refine (HP.out _ ?_).mono ?_); (focus ((repeat' (first | (with_reducible exact Below.refl _ _) | (with_reducible assumption) | (with_reducible refine Below.alloc ?_ ?_ _) | (with_reducible refine below_drewN ?_ _) | (with_reducible refine Below.drew ?_) | (with_reducible refine Below.setCell ?_ ?_ _) | (with_reducible refine below_via (by assumption) ?_ ?_) | (with_reducible refine below_via (later_below _) ?_ ?_) | (with_reducible exact Nat.le_refl _) | omega | (simp; omega) | (simp; done))))); rintro e w3 ⟨rfl, m3, rfl⟩; (refine mem hb ?_; intro N hN hz hc hf; (try simp at hN); subst hN)))
        go_returns
        refine ⟨rfl, ?_⟩
        (repeat' (first | (with_reducible exact Below.refl _ _) | (with_reducible assumption) | (with_reducible refine Below.alloc ?_ ?_ _) | (with_reducible refine below_drewN ?_ _) | (with_reducible refine Below.drew ?_) | (with_reducible refine Below.setCell ?_ ?_ _) | (with_reducible refine below_via (by assumption) ?_ ?_) | (with_reducible refine below_via (later_below _) ?_ ?_) | (with_reducible exact Nat.le_refl _) | omega | (simp; omega) | (simp; done)))

set_option maxHeartbeats 3200000 in
set_option maxRecDepth 100000 in
theorem rsf10 (hk : s.k = 10) (hl : 0 ≤ s.ln) : Calls Tryz.prog 49 #[s.v, .bool last] w fun e w' => e = .returned (.bool (rcB s (s.names.length) (0) (s.right.length) (1) && (s.names.all (fun y => y.2 == 0) && (decide (0 < s.names.length) && decide (0 < s.right.length))))) ∧ Below w.heap.size w w' := by
  have dl : decide (s.ln < 0) = false := decide_eq_false (by omega)
  have d1 : (s.k == 1) = false := by simp; omega
  have d2 : (s.k == 2) = false := by simp; omega
  have d3 : (s.k == 3) = false := by simp; omega
  have d4 : (s.k == 4) = false := by simp; omega
  have d5 : (s.k == 5) = false := by simp; omega
  have d6 : (s.k == 6) = false := by simp; omega
  have d7 : (s.k == 7) = false := by simp; omega
  have d8 : (s.k == 8) = false := by simp; omega
  have d9 : (s.k == 9) = false := by simp; omega
  have d10 : (s.k == 10) = true := by simpa using hk
  have g1 := hin.rt.1.1
  have g2 := hin.rt.1.2.1
  have g3 := hin.bs.1.1
  have g4 := hin.bs.1.2.1
  have g7 := ((inS_iff s).1 hin).1.ni.1
  have g8 := ((inS_iff s).1 hin).1.ni.2.1
  have g9 := ((inS_iff s).1 hin).1.li.1
  have g10 := ((inS_iff s).1 hin).1.li.2.1
  have g5 : (s.right.length : Int) ≤ 9223372036854775807 := by omega
  have g6 : (s.blocks.length : Int) ≤ 9223372036854775807 := by omega
  have g11 : (s.names.length : Int) ≤ 9223372036854775807 := by omega
  have g12 : (s.left.length : Int) ≤ 9223372036854775807 := by omega
  clear g1 g2 g3 g4 g7 g8 g9 g10
  obtain ⟨C, hC⟩ : ∃ c, rcB s (s.names.length) (0) (s.right.length) (1) = c := ⟨_, rfl⟩
  have HC : Hid (∀ W, Calls Tryz.prog 70 #[s.v, .int .i64 (s.names.length), .int .i64 (0), .int .i64 (s.right.length), .int .i64 (1)] W fun e W' => e = .returned (.bool C) ∧ Below W.heap.size W W') := fun W => hC ▸ rcounts_any s (s.names.length) (0) (s.right.length) (1) W
  rw [hC]
  obtain ⟨Q, hQ⟩ : ∃ q, (s.names.all (fun y => y.2 == 0)) = q := ⟨_, rfl⟩
  have HP : Hid (∀ W, Below w.heap.size w W → Calls Tryz.prog 72 #[.slice s.nA s.names.length s.nC] W fun e W' => e = .returned (.bool Q) ∧ ∃ m, W' = W.drewN m) := fun W hW => by rw [← hQ]; exact rplain_any s.names s.nA s.nC W.heap.size W ((inS_iff s).1 hin).1.ni (((inS_iff s).1 hin).1.nAt.still (l2_still (still_of hW (Nat.le_refl _))) hW.size)
  rw [hQ]
  clear hC hQ hin hk hl
  cases C with
  | false =>
    go_enter Tryz.func49, Tryz.ntmps49
    go_wp2_with fail
    go_quiet (fail)
    go_wp2_with (first | (go_at_call 70; (with_reducible refine (HC.out _).mono ?_); rintro e w1 ⟨rfl, hb⟩; (refine mem hb ?_; intro N hN hz hc hf; (try simp at hN); subst hN)))
    go_returns
    refine ⟨rfl, ?_⟩
    (repeat' (first | (with_reducible exact Below.refl _ _) | (with_reducible assumption) | (with_reducible refine Below.alloc ?_ ?_ _) | (with_reducible refine below_drewN ?_ _) | (with_reducible refine Below.drew ?_) | (with_reducible refine Below.setCell ?_ ?_ _) | (with_reducible refine below_via (by assumption) ?_ ?_) | (with_reducible refine below_via (later_below _) ?_ ?_) | (with_reducible exact Nat.le_refl _) | omega | (simp; omega) | (simp; done)))
  | true =>
    cases Q with
    | false =>
      go_enter Tryz.func49, Tryz.ntmps49
      go_wp2_with fail
      go_quiet (fail)
      go_wp2_with (first | (go_at_call 70; (with_reducible refine (HC.out _).mono ?_); rintro e w1 ⟨rfl, hb⟩; (refine mem hb ?_; intro N hN hz hc hf; (try simp at hN); subst hN)) | (go_at_call 72; (with_reducible refine (HP.out _ ?_).mono ?_); (focus ((repeat' (first | (with_reducible exact Below.refl _ _) | (with_reducible assumption) | (with_reducible refine Below.alloc ?_ ?_ _) | (with_reducible refine below_drewN ?_ _) | (with_reducible refine Below.drew ?_) | (with_reducible refine Below.setCell ?_ ?_ _) | (with_reducible refine below_via (by assumption) ?_ ?_) | (with_reducible refine below_via (later_below _) ?_ ?_) | (with_reducible exact Nat.le_refl _) | omega | (simp; omega) | (simp; done))))); rintro e w3 ⟨rfl, m3, rfl⟩; (refine mem hb ?_; intro N hN hz hc hf; (try simp at hN); subst hN)))
      go_returns
      refine ⟨rfl, ?_⟩
      (repeat' (first | (with_reducible exact Below.refl _ _) | (with_reducible assumption) | (with_reducible refine Below.alloc ?_ ?_ _) | (with_reducible refine below_drewN ?_ _) | (with_reducible refine Below.drew ?_) | (with_reducible refine Below.setCell ?_ ?_ _) | (with_reducible refine below_via (by assumption) ?_ ?_) | (with_reducible refine below_via (later_below _) ?_ ?_) | (with_reducible exact Nat.le_refl _) | omega | (simp; omega) | (simp; done)))
    | true =>
      have hg : decide (0 < s.right.length) = decide (0 < (s.right.length : Int)) := by simp
      rw [hg]
      by_cases h0 : 0 < s.names.length
      · rw [decide_eq_true h0]
        have h00 : decide (0 < (s.names.length : Int)) = true := decide_eq_true (by omega)
        go_enter Tryz.func49, Tryz.ntmps49
        go_wp2_with fail
        go_quiet (fail)
        go_wp2_with (first | (go_at_call 70; (with_reducible refine (HC.out _).mono ?_); rintro e w1 ⟨rfl, hb⟩; (refine mem hb ?_; intro N hN hz hc hf; (try simp at hN); subst hN)) | (go_at_call 72; (with_reducible refine (HP.out _ ?_).mono ?_); (focus ((repeat' (first | (with_reducible exact Below.refl _ _) | (with_reducible assumption) | (with_reducible refine Below.alloc ?_ ?_ _) | (with_reducible refine below_drewN ?_ _) | (with_reducible refine Below.drew ?_) | (with_reducible refine Below.setCell ?_ ?_ _) | (with_reducible refine below_via (by assumption) ?_ ?_) | (with_reducible refine below_via (later_below _) ?_ ?_) | (with_reducible exact Nat.le_refl _) | omega | (simp; omega) | (simp; done))))); rintro e w3 ⟨rfl, m3, rfl⟩; (refine mem hb ?_; intro N hN hz hc hf; (try simp at hN); subst hN)))
        go_returns
        refine ⟨rfl, ?_⟩
        (repeat' (first | (with_reducible exact Below.refl _ _) | (with_reducible assumption) | (with_reducible refine Below.alloc ?_ ?_ _) | (with_reducible refine below_drewN ?_ _) | (with_reducible refine Below.drew ?_) | (with_reducible refine Below.setCell ?_ ?_ _) | (with_reducible refine below_via (by assumption) ?_ ?_) | (with_reducible refine below_via (later_below _) ?_ ?_) | (with_reducible exact Nat.le_refl _) | omega | (simp; omega) | (simp; done)))
      · rw [decide_eq_false h0]
        have h00 : decide (0 < (s.names.length : Int)) = false := decide_eq_false (by omega)
        go_enter Tryz.func49, Tryz.ntmps49
        go_wp2_with fail
        go_quiet (fail)
        go_wp2_with (first | (go_at_call 70; (with_reducible refine (HC.out _).mono ?_); rintro e w1 ⟨rfl, hb⟩; (refine mem hb ?_; intro N hN hz hc hf; (try simp at hN); subst hN)) | (go_at_call 72; (with_reducible refine (HP.out _ ?_).mono ?_); (focus ((repeat' (first | (with_reducible exact Below.refl _ _) | (with_reducible assumption) | (with_reducible refine Below.alloc ?_ ?_ _) | (with_reducible refine below_drewN ?_ _) | (with_reducible refine Below.drew ?_) | (with_reducible refine Below.setCell ?_ ?_ _) | (with_reducible refine below_via (by assumption) ?_ ?_) | (with_reducible refine below_via (later_below _) ?_ ?_) | (with_reducible exact Nat.le_refl _) | omega | (simp; omega) | (simp; done))))); rintro e w3 ⟨rfl, m3, rfl⟩; (refine mem hb ?_; intro N hN hz hc hf; (try simp at hN); subst hN)))
        go_returns
        refine ⟨rfl, ?_⟩
        (repeat' (first | (with_reducible exact Below.refl _ _) | (with_reducible assumption) | (with_reducible refine Below.alloc ?_ ?_ _) | (with_reducible refine below_drewN ?_ _) | (with_reducible refine Below.drew ?_) | (with_reducible refine Below.setCell ?_ ?_ _) | (with_reducible refine below_via (by assumption) ?_ ?_) | (with_reducible refine below_via (later_below _) ?_ ?_) | (with_reducible exact Nat.le_refl _) | omega | (simp; omega) | (simp; done)))

set_option maxHeartbeats 3200000 in
set_option maxRecDepth 100000 in
theorem rsf11 (hk : s.k = 11) (hl : 0 ≤ s.ln) : Calls Tryz.prog 49 #[s.v, .bool last] w fun e w' => e = .returned (.bool (rcB s (0) (0) (s.right.length) (0) && last)) ∧ Below w.heap.size w w' := by
  have dl : decide (s.ln < 0) = false := decide_eq_false (by omega)
  have d1 : (s.k == 1) = false := by simp; omega
  have d2 : (s.k == 2) = false := by simp; omega
  have d3 : (s.k == 3) = false := by simp; omega
  have d4 : (s.k == 4) = false := by simp; omega
  have d5 : (s.k == 5) = false := by simp; omega
  have d6 : (s.k == 6) = false := by simp; omega
  have d7 : (s.k == 7) = false := by simp; omega
  have d8 : (s.k == 8) = false := by simp; omega
  have d9 : (s.k == 9) = false := by simp; omega
  have d10 : (s.k == 10) = false := by simp; omega
  have d11 : (s.k == 11) = true := by simpa using hk
  have g1 := hin.rt.1.1
  have g2 := hin.rt.1.2.1
  have g3 := hin.bs.1.1
  have g4 := hin.bs.1.2.1
  have g7 := ((inS_iff s).1 hin).1.ni.1
  have g8 := ((inS_iff s).1 hin).1.ni.2.1
  have g9 := ((inS_iff s).1 hin).1.li.1
  have g10 := ((inS_iff s).1 hin).1.li.2.1
  have g5 : (s.right.length : Int) ≤ 9223372036854775807 := by omega
  have g6 : (s.blocks.length : Int) ≤ 9223372036854775807 := by omega
  have g11 : (s.names.length : Int) ≤ 9223372036854775807 := by omega
  have g12 : (s.left.length : Int) ≤ 9223372036854775807 := by omega
  clear g1 g2 g3 g4 g7 g8 g9 g10
  obtain ⟨C, hC⟩ : ∃ c, rcB s (0) (0) (s.right.length) (0) = c := ⟨_, rfl⟩
  have HC : Hid (∀ W, Calls Tryz.prog 70 #[s.v, .int .i64 (0), .int .i64 (0), .int .i64 (s.right.length), .int .i64 (0)] W fun e W' => e = .returned (.bool C) ∧ Below W.heap.size W W') := fun W => hC ▸ rcounts_any s (0) (0) (s.right.length) (0) W
  rw [hC]
  clear hC hin hk hl
  cases C with
  | false =>
    go_enter Tryz.func49, Tryz.ntmps49
    go_wp2_with fail
    go_quiet (fail)
    go_wp2_with (first | (go_at_call 70; (with_reducible refine (HC.out _).mono ?_); rintro e w1 ⟨rfl, hb⟩; (refine mem hb ?_; intro N hN hz hc hf; (try simp at hN); subst hN)))
    go_returns
    refine ⟨rfl, ?_⟩
    (repeat' (first | (with_reducible exact Below.refl _ _) | (with_reducible assumption) | (with_reducible refine Below.alloc ?_ ?_ _) | (with_reducible refine below_drewN ?_ _) | (with_reducible refine Below.drew ?_) | (with_reducible refine Below.setCell ?_ ?_ _) | (with_reducible refine below_via (by assumption) ?_ ?_) | (with_reducible refine below_via (later_below _) ?_ ?_) | (with_reducible exact Nat.le_refl _) | omega | (simp; omega) | (simp; done)))
  | true =>
    go_enter Tryz.func49, Tryz.ntmps49
    go_wp2_with fail
    go_quiet (fail)
    go_wp2_with (first | (go_at_call 70; (with_reducible refine (HC.out _).mono ?_); rintro e w1 ⟨rfl, hb⟩; (refine mem hb ?_; intro N hN hz hc hf; (try simp at hN); subst hN)))
    go_returns
    refine ⟨rfl, ?_⟩
    (repeat' (first | (with_reducible exact Below.refl _ _) | (with_reducible assumption) | (with_reducible refine Below.alloc ?_ ?_ _) | (with_reducible refine below_drewN ?_ _) | (with_reducible refine Below.drew ?_) | (with_reducible refine Below.setCell ?_ ?_ _) | (with_reducible refine below_via (by assumption) ?_ ?_) | (with_reducible refine below_via (later_below _) ?_ ?_) | (with_reducible exact Nat.le_refl _) | omega | (simp; omega) | (simp; done)))

set_option maxHeartbeats 3200000 in
set_option maxRecDepth 100000 in
theorem rsf12 (hk : s.k = 12) (hl : 0 ≤ s.ln) : Calls Tryz.prog 49 #[s.v, .bool last] w fun e w' => e = .returned (.bool (rcB s (0) (0) (0) (0))) ∧ Below w.heap.size w w' := by
  have dl : decide (s.ln < 0) = false := decide_eq_false (by omega)
  have d1 : (s.k == 1) = false := by simp; omega
  have d2 : (s.k == 2) = false := by simp; omega
  have d3 : (s.k == 3) = false := by simp; omega
  have d4 : (s.k == 4) = false := by simp; omega
  have d5 : (s.k == 5) = false := by simp; omega
  have d6 : (s.k == 6) = false := by simp; omega
  have d7 : (s.k == 7) = false := by simp; omega
  have d8 : (s.k == 8) = false := by simp; omega
  have d9 : (s.k == 9) = false := by simp; omega
  have d10 : (s.k == 10) = false := by simp; omega
  have d11 : (s.k == 11) = false := by simp; omega
  have d12 : (s.k == 12) = true := by simpa using hk
  have g1 := hin.rt.1.1
  have g2 := hin.rt.1.2.1
  have g3 := hin.bs.1.1
  have g4 := hin.bs.1.2.1
  have g7 := ((inS_iff s).1 hin).1.ni.1
  have g8 := ((inS_iff s).1 hin).1.ni.2.1
  have g9 := ((inS_iff s).1 hin).1.li.1
  have g10 := ((inS_iff s).1 hin).1.li.2.1
  have g5 : (s.right.length : Int) ≤ 9223372036854775807 := by omega
  have g6 : (s.blocks.length : Int) ≤ 9223372036854775807 := by omega
  have g11 : (s.names.length : Int) ≤ 9223372036854775807 := by omega
  have g12 : (s.left.length : Int) ≤ 9223372036854775807 := by omega
  clear g1 g2 g3 g4 g7 g8 g9 g10
  obtain ⟨C, hC⟩ : ∃ c, rcB s (0) (0) (0) (0) = c := ⟨_, rfl⟩
  have HC : Hid (∀ W, Calls Tryz.prog 70 #[s.v, .int .i64 (0), .int .i64 (0), .int .i64 (0), .int .i64 (0)] W fun e W' => e = .returned (.bool C) ∧ Below W.heap.size W W') := fun W => hC ▸ rcounts_any s (0) (0) (0) (0) W
  rw [hC]
  clear hC hin hk hl
  cases C with
  | false =>
    go_enter Tryz.func49, Tryz.ntmps49
    go_wp2_with fail
    go_quiet (fail)
    go_wp2_with (first | (go_at_call 70; (with_reducible refine (HC.out _).mono ?_); rintro e w1 ⟨rfl, hb⟩; (refine mem hb ?_; intro N hN hz hc hf; (try simp at hN); subst hN)))
    go_returns
    refine ⟨rfl, ?_⟩
    (repeat' (first | (with_reducible exact Below.refl _ _) | (with_reducible assumption) | (with_reducible refine Below.alloc ?_ ?_ _) | (with_reducible refine below_drewN ?_ _) | (with_reducible refine Below.drew ?_) | (with_reducible refine Below.setCell ?_ ?_ _) | (with_reducible refine below_via (by assumption) ?_ ?_) | (with_reducible refine below_via (later_below _) ?_ ?_) | (with_reducible exact Nat.le_refl _) | omega | (simp; omega) | (simp; done)))
  | true =>
    go_enter Tryz.func49, Tryz.ntmps49
    go_wp2_with fail
    go_quiet (fail)
    go_wp2_with (first | (go_at_call 70; (with_reducible refine (HC.out _).mono ?_); rintro e w1 ⟨rfl, hb⟩; (refine mem hb ?_; intro N hN hz hc hf; (try simp at hN); subst hN)))
    go_returns
    refine ⟨rfl, ?_⟩
    (repeat' (first | (with_reducible exact Below.refl _ _) | (with_reducible assumption) | (with_reducible refine Below.alloc ?_ ?_ _) | (with_reducible refine below_drewN ?_ _) | (with_reducible refine Below.drew ?_) | (with_reducible refine Below.setCell ?_ ?_ _) | (with_reducible refine below_via (by assumption) ?_ ?_) | (with_reducible refine below_via (later_below _) ?_ ?_) | (with_reducible exact Nat.le_refl _) | omega | (simp; omega) | (simp; done)))

set_option maxHeartbeats 3200000 in
set_option maxRecDepth 100000 in
theorem rsf13 (hk : s.k = 13) (hl : 0 ≤ s.ln) : Calls Tryz.prog 49 #[s.v, .bool last] w fun e w' => e = .returned (.bool (rcB s (0) (0) (0) (0))) ∧ Below w.heap.size w w' := by
  have dl : decide (s.ln < 0) = false := decide_eq_false (by omega)
  have d1 : (s.k == 1) = false := by simp; omega
  have d2 : (s.k == 2) = false := by simp; omega
  have d3 : (s.k == 3) = false := by simp; omega
  have d4 : (s.k == 4) = false := by simp; omega
  have d5 : (s.k == 5) = false := by simp; omega
  have d6 : (s.k == 6) = false := by simp; omega
  have d7 : (s.k == 7) = false := by simp; omega
  have d8 : (s.k == 8) = false := by simp; omega
  have d9 : (s.k == 9) = false := by simp; omega
  have d10 : (s.k == 10) = false := by simp; omega
  have d11 : (s.k == 11) = false := by simp; omega
  have d12 : (s.k == 12) = false := by simp; omega
  have d13 : (s.k == 13) = true := by simpa using hk
  have g1 := hin.rt.1.1
  have g2 := hin.rt.1.2.1
  have g3 := hin.bs.1.1
  have g4 := hin.bs.1.2.1
  have g7 := ((inS_iff s).1 hin).1.ni.1
  have g8 := ((inS_iff s).1 hin).1.ni.2.1
  have g9 := ((inS_iff s).1 hin).1.li.1
  have g10 := ((inS_iff s).1 hin).1.li.2.1
  have g5 : (s.right.length : Int) ≤ 9223372036854775807 := by omega
  have g6 : (s.blocks.length : Int) ≤ 9223372036854775807 := by omega
  have g11 : (s.names.length : Int) ≤ 9223372036854775807 := by omega
  have g12 : (s.left.length : Int) ≤ 9223372036854775807 := by omega
  clear g1 g2 g3 g4 g7 g8 g9 g10
  obtain ⟨C, hC⟩ : ∃ c, rcB s (0) (0) (0) (0) = c := ⟨_, rfl⟩
  have HC : Hid (∀ W, Calls Tryz.prog 70 #[s.v, .int .i64 (0), .int .i64 (0), .int .i64 (0), .int .i64 (0)] W fun e W' => e = .returned (.bool C) ∧ Below W.heap.size W W') := fun W => hC ▸ rcounts_any s (0) (0) (0) (0) W
  rw [hC]
  clear hC hin hk hl
  cases C with
  | false =>
    go_enter Tryz.func49, Tryz.ntmps49
    go_wp2_with fail
    go_quiet (fail)
    go_wp2_with (first | (go_at_call 70; (with_reducible refine (HC.out _).mono ?_); rintro e w1 ⟨rfl, hb⟩; (refine mem hb ?_; intro N hN hz hc hf; (try simp at hN); subst hN)))
    go_returns
    refine ⟨rfl, ?_⟩
    (repeat' (first | (with_reducible exact Below.refl _ _) | (with_reducible assumption) | (with_reducible refine Below.alloc ?_ ?_ _) | (with_reducible refine below_drewN ?_ _) | (with_reducible refine Below.drew ?_) | (with_reducible refine Below.setCell ?_ ?_ _) | (with_reducible refine below_via (by assumption) ?_ ?_) | (with_reducible refine below_via (later_below _) ?_ ?_) | (with_reducible exact Nat.le_refl _) | omega | (simp; omega) | (simp; done)))
  | true =>
    go_enter Tryz.func49, Tryz.ntmps49
    go_wp2_with fail
    go_quiet (fail)
    go_wp2_with (first | (go_at_call 70; (with_reducible refine (HC.out _).mono ?_); rintro e w1 ⟨rfl, hb⟩; (refine mem hb ?_; intro N hN hz hc hf; (try simp at hN); subst hN)))
    go_returns
    refine ⟨rfl, ?_⟩
    (repeat' (first | (with_reducible exact Below.refl _ _) | (with_reducible assumption) | (with_reducible refine Below.alloc ?_ ?_ _) | (with_reducible refine below_drewN ?_ _) | (with_reducible refine Below.drew ?_) | (with_reducible refine Below.setCell ?_ ?_ _) | (with_reducible refine below_via (by assumption) ?_ ?_) | (with_reducible refine below_via (later_below _) ?_ ?_) | (with_reducible exact Nat.le_refl _) | omega | (simp; omega) | (simp; done)))

set_option maxHeartbeats 3200000 in
set_option maxRecDepth 100000 in
theorem rsf14 (hk : s.k = 14) (hl : 0 ≤ s.ln) : Calls Tryz.prog 49 #[s.v, .bool last] w fun e w' => e = .returned (.bool (rcB s (0) (0) (0) (0))) ∧ Below w.heap.size w w' := by
  have dl : decide (s.ln < 0) = false := decide_eq_false (by omega)
  have d1 : (s.k == 1) = false := by simp; omega
  have d2 : (s.k == 2) = false := by simp; omega
  have d3 : (s.k == 3) = false := by simp; omega
  have d4 : (s.k == 4) = false := by simp; omega
  have d5 : (s.k == 5) = false := by simp; omega
  have d6 : (s.k == 6) = false := by simp; omega
  have d7 : (s.k == 7) = false := by simp; omega
  have d8 : (s.k == 8) = false := by simp; omega
  have d9 : (s.k == 9) = false := by simp; omega
  have d10 : (s.k == 10) = false := by simp; omega
  have d11 : (s.k == 11) = false := by simp; omega
  have d12 : (s.k == 12) = false := by simp; omega
  have d13 : (s.k == 13) = false := by simp; omega
  have d14 : (s.k == 14) = true := by simpa using hk
  have g1 := hin.rt.1.1
  have g2 := hin.rt.1.2.1
  have g3 := hin.bs.1.1
  have g4 := hin.bs.1.2.1
  have g7 := ((inS_iff s).1 hin).1.ni.1
  have g8 := ((inS_iff s).1 hin).1.ni.2.1
  have g9 := ((inS_iff s).1 hin).1.li.1
  have g10 := ((inS_iff s).1 hin).1.li.2.1
  have g5 : (s.right.length : Int) ≤ 9223372036854775807 := by omega
  have g6 : (s.blocks.length : Int) ≤ 9223372036854775807 := by omega
  have g11 : (s.names.length : Int) ≤ 9223372036854775807 := by omega
  have g12 : (s.left.length : Int) ≤ 9223372036854775807 := by omega
  clear g1 g2 g3 g4 g7 g8 g9 g10
  obtain ⟨C, hC⟩ : ∃ c, rcB s (0) (0) (0) (0) = c := ⟨_, rfl⟩
  have HC : Hid (∀ W, Calls Tryz.prog 70 #[s.v, .int .i64 (0), .int .i64 (0), .int .i64 (0), .int .i64 (0)] W fun e W' => e = .returned (.bool C) ∧ Below W.heap.size W W') := fun W => hC ▸ rcounts_any s (0) (0) (0) (0) W
  rw [hC]
  clear hC hin hk hl
  cases C with
  | false =>
    go_enter Tryz.func49, Tryz.ntmps49
    go_wp2_with fail
    go_quiet (fail)
    go_wp2_with (first | (go_at_call 70; (with_reducible refine (HC.out _).mono ?_); rintro e w1 ⟨rfl, hb⟩; (refine mem hb ?_; intro N hN hz hc hf; (try simp at hN); subst hN)))
    go_returns
    refine ⟨rfl, ?_⟩
    (repeat' (first | (with_reducible exact Below.refl _ _) | (with_reducible assumption) | (with_reducible refine Below.alloc ?_ ?_ _) | (with_reducible refine below_drewN ?_ _) | (with_reducible refine Below.drew ?_) | (with_reducible refine Below.setCell ?_ ?_ _) | (with_reducible refine below_via (by assumption) ?_ ?_) | (with_reducible refine below_via (later_below _) ?_ ?_) | (with_reducible exact Nat.le_refl _) | omega | (simp; omega) | (simp; done)))
  | true =>
    go_enter Tryz.func49, Tryz.ntmps49
    go_wp2_with fail
    go_quiet (fail)
    go_wp2_with (first | (go_at_call 70; (with_reducible refine (HC.out _).mono ?_); rintro e w1 ⟨rfl, hb⟩; (refine mem hb ?_; intro N hN hz hc hf; (try simp at hN); subst hN)))
    go_returns
    refine ⟨rfl, ?_⟩
    (repeat' (first | (with_reducible exact Below.refl _ _) | (with_reducible assumption) | (with_reducible refine Below.alloc ?_ ?_ _) | (with_reducible refine below_drewN ?_ _) | (with_reducible refine Below.drew ?_) | (with_reducible refine Below.setCell ?_ ?_ _) | (with_reducible refine below_via (by assumption) ?_ ?_) | (with_reducible refine below_via (later_below _) ?_ ?_) | (with_reducible exact Nat.le_refl _) | omega | (simp; omega) | (simp; done)))

set_option maxHeartbeats 3200000 in
set_option maxRecDepth 100000 in
theorem rsf0 (hk : s.k < 1 ∨ 14 < s.k) (hl : 0 ≤ s.ln) : Calls Tryz.prog 49 #[s.v, .bool last] w fun e w' => e = .returned (.bool false) ∧ Below w.heap.size w w' := by
  have dl : decide (s.ln < 0) = false := decide_eq_false (by omega)
  have d1 : (s.k == 1) = false := by simp; omega
  have d2 : (s.k == 2) = false := by simp; omega
  have d3 : (s.k == 3) = false := by simp; omega
  have d4 : (s.k == 4) = false := by simp; omega
  have d5 : (s.k == 5) = false := by simp; omega
  have d6 : (s.k == 6) = false := by simp; omega
  have d7 : (s.k == 7) = false := by simp; omega
  have d8 : (s.k == 8) = false := by simp; omega
  have d9 : (s.k == 9) = false := by simp; omega
  have d10 : (s.k == 10) = false := by simp; omega
  have d11 : (s.k == 11) = false := by simp; omega
  have d12 : (s.k == 12) = false := by simp; omega
  have d13 : (s.k == 13) = false := by simp; omega
  have d14 : (s.k == 14) = false := by simp; omega
  have g1 := hin.rt.1.1
  have g2 := hin.rt.1.2.1
  have g3 := hin.bs.1.1
  have g4 := hin.bs.1.2.1
  have g7 := ((inS_iff s).1 hin).1.ni.1
  have g8 := ((inS_iff s).1 hin).1.ni.2.1
  have g9 := ((inS_iff s).1 hin).1.li.1
  have g10 := ((inS_iff s).1 hin).1.li.2.1
  have g5 : (s.right.length : Int) ≤ 9223372036854775807 := by omega
  have g6 : (s.blocks.length : Int) ≤ 9223372036854775807 := by omega
  have g11 : (s.names.length : Int) ≤ 9223372036854775807 := by omega
  have g12 : (s.left.length : Int) ≤ 9223372036854775807 := by omega
  clear g1 g2 g3 g4 g7 g8 g9 g10
  clear hin hk hl
  go_enter Tryz.func49, Tryz.ntmps49
  go_wp2_with fail
  go_quiet (fail)
  go_wp2_with fail
  go_returns
  refine ⟨rfl, ?_⟩
  (repeat' (first | (with_reducible exact Below.refl _ _) | (with_reducible assumption) | (with_reducible refine Below.alloc ?_ ?_ _) | (with_reducible refine below_drewN ?_ _) | (with_reducible refine Below.drew ?_) | (with_reducible refine Below.setCell ?_ ?_ _) | (with_reducible refine below_via (by assumption) ?_ ?_) | (with_reducible refine below_via (later_below _) ?_ ?_) | (with_reducible exact Nat.le_refl _) | omega | (simp; omega) | (simp; done)))

set_option maxHeartbeats 3200000 in
set_option maxRecDepth 100000 in
omit hin in
theorem rsfL (hl : s.ln < 0) : Calls Tryz.prog 49 #[s.v, .bool last] w fun e w' => e = .returned (.bool false) ∧ Below w.heap.size w w' := by
  have dl : decide (s.ln < 0) = true := decide_eq_true hl
  go_enter Tryz.func49, Tryz.ntmps49
  go_wp2_with fail
  go_returns
  exact ⟨rfl, by (repeat' (first | (with_reducible exact Below.refl _ _) | (with_reducible assumption) | (with_reducible refine Below.alloc ?_ ?_ _) | (with_reducible refine below_drewN ?_ _) | (with_reducible refine Below.drew ?_) | (with_reducible refine Below.setCell ?_ ?_ _) | (with_reducible refine below_via (by assumption) ?_ ?_) | (with_reducible refine below_via (later_below _) ?_ ?_) | (with_reducible exact Nat.le_refl _) | omega | (simp; omega) | (simp; done)))⟩
end
end Go.Proofs.YthkpggpnbdedjaaGreat

/- The reference's statForm: what the kinds say. -/
namespace Go.Proofs.YthkpggpnbdedjaaGreat
open Go.RowKit Go.Instr
set_option linter.unusedVariables false
section
variable (s : TS) (last : Bool) (w : World) (hin : InS w w.heap.size s)
include hin
theorem rstatForm_any : Calls Tryz.prog 49 #[s.v, .bool last] w fun e w' => e = .returned (.bool (decide (0 ≤ s.ln) && fsB s last)) ∧ Below w.heap.size w w' := by
  by_cases hl : 0 ≤ s.ln
  · rw [decide_eq_true hl, Bool.true_and]
    by_cases hk : s.k < 1 ∨ 14 < s.k
    · have e : fsB s last = false := by unfold fsB; rw [if_neg (by omega)]; rw [if_neg (by omega)]; rw [if_neg (by omega)]; rw [if_neg (by omega)]; rw [if_neg (by omega)]; rw [if_neg (by omega)]; rw [if_neg (by omega)]; rw [if_neg (by omega)]; rw [if_neg (by omega)]; rw [if_neg (by omega)]; rw [if_neg (by omega)]; rw [if_neg (by omega)]; rw [if_neg (by omega)]; rw [if_neg (by omega)]
      rw [e]
      exact rsf0 s last w hin hk hl
    by_cases h1 : s.k = 1
    · have e : fsB s last = (rcB s (s.names.length) (0) (s.right.length) (0) && (s.names.all (fun y => decide (0 ≤ y.2) && decide (y.2 ≤ 2)) && decide (0 < s.names.length))) := by
        have HH : fsB s last = fsB s last := rfl
        conv at HH => rhs; unfold fsB; rw [if_pos h1]
        rw [HH]
        unfold rcB cntB fitN
        rw [all_attr]
        rw [show (s.k == 13) = false by rw [h1]; rfl, show (s.k == 14) = false by rw [h1]; rfl]
        generalize s.label.toList.isEmpty = Z
        generalize s.names.length = n1
        generalize s.left.length = n2
        generalize s.right.length = n3
        generalize s.blocks.length = n4
        generalize s.names.any attrB = Q; cases Q
        all_goals
          rw [Bool.eq_iff_iff]
          cases Z
          all_goals
            first
            | (simp; done)
            | (simp; omega)
      rw [e]
      exact rsf1 s last w hin h1 hl
    by_cases h2 : s.k = 2
    · have e : fsB s last = (rcB s (1) (0) (1) (0) && (s.names.all (fun y => y.2 == 0) && firstK s.right == 11)) := by
        have HH : fsB s last = fsB s last := rfl
        conv at HH => rhs; unfold fsB; rw [if_neg (by omega)]; rw [if_pos h2]
        rw [HH]
        unfold rcB cntB fitN
        rw [all_plain]
        rw [show (s.k == 13) = false by rw [h2]; rfl, show (s.k == 14) = false by rw [h2]; rfl]
        generalize s.label.toList.isEmpty = Z
        generalize s.names.length = n1
        generalize s.left.length = n2
        generalize s.right.length = n3
        generalize s.blocks.length = n4
        generalize plainB s = Q; cases Q
        all_goals
          rw [Bool.eq_iff_iff]
          cases Z
          all_goals
            first
            | (simp; done)
            | (simp; omega)
      rw [e]
      exact rsf2 s last w hin h2 hl
    by_cases h3 : s.k = 3
    · have e : fsB s last = (rcB s (0) (s.left.length) (s.right.length) (0) && ((s.left.all (fun y => y.k == 7 || y.k == 8) && decide (0 < s.left.length)) && decide (0 < s.right.length))) := by
        have HH : fsB s last = fsB s last := rfl
        conv at HH => rhs; unfold fsB; rw [if_neg (by omega)]; rw [if_neg (by omega)]; rw [if_pos h3]
        rw [HH]
        unfold rcB cntB fitN
        rw [all_sides]
        rw [show (s.k == 13) = false by rw [h3]; rfl, show (s.k == 14) = false by rw [h3]; rfl]
        generalize s.label.toList.isEmpty = Z
        generalize s.names.length = n1
        generalize s.left.length = n2
        generalize s.right.length = n3
        generalize s.blocks.length = n4
        generalize (s.left.any fun x => x.k != 7 && x.k != 8) = Q; cases Q
        all_goals
          rw [Bool.eq_iff_iff]
          cases Z
          all_goals
            first
            | (simp; done)
            | (simp; omega)
      rw [e]
      exact rsf3 s last w hin h3 hl
    by_cases h4 : s.k = 4
    · have e : fsB s last = (rcB s (0) (0) (1) (0) && (firstK s.right == 9 || firstK s.right == 10)) := by
        have HH : fsB s last = fsB s last := rfl
        conv at HH => rhs; unfold fsB; rw [if_neg (by omega)]; rw [if_neg (by omega)]; rw [if_neg (by omega)]; rw [if_pos h4]
        rw [HH]
        unfold rcB cntB fitN
        skip
        rw [show (s.k == 13) = false by rw [h4]; rfl, show (s.k == 14) = false by rw [h4]; rfl]
        generalize s.label.toList.isEmpty = Z
        generalize s.names.length = n1
        generalize s.left.length = n2
        generalize s.right.length = n3
        generalize s.blocks.length = n4
        skip
        all_goals
          rw [Bool.eq_iff_iff]
          cases Z
          all_goals
            first
            | (simp; done)
            | (simp; omega)
      rw [e]
      exact rsf4 s last w hin h4 hl
    by_cases h5 : s.k = 5
    · have e : fsB s last = (rcB s (0) (0) (0) (1)) := by
        have HH : fsB s last = fsB s last := rfl
        conv at HH => rhs; unfold fsB; rw [if_neg (by omega)]; rw [if_neg (by omega)]; rw [if_neg (by omega)]; rw [if_neg (by omega)]; rw [if_pos h5]
        rw [HH]
        unfold rcB cntB fitN
        skip
        rw [show (s.k == 13) = false by rw [h5]; rfl, show (s.k == 14) = false by rw [h5]; rfl]
        generalize s.label.toList.isEmpty = Z
        generalize s.names.length = n1
        generalize s.left.length = n2
        generalize s.right.length = n3
        generalize s.blocks.length = n4
        skip
        all_goals
          rw [Bool.eq_iff_iff]
          cases Z
          all_goals
            first
            | (simp; done)
            | (simp; omega)
      rw [e]
      exact rsf5 s last w hin h5 hl
    by_cases h6 : s.k = 6
    · have e : fsB s last = (rcB s (0) (0) (1) (1)) := by
        have HH : fsB s last = fsB s last := rfl
        conv at HH => rhs; unfold fsB; rw [if_neg (by omega)]; rw [if_neg (by omega)]; rw [if_neg (by omega)]; rw [if_neg (by omega)]; rw [if_neg (by omega)]; rw [if_pos h6]
        rw [HH]
        unfold rcB cntB fitN
        skip
        rw [show (s.k == 13) = false by rw [h6]; rfl, show (s.k == 14) = false by rw [h6]; rfl]
        generalize s.label.toList.isEmpty = Z
        generalize s.names.length = n1
        generalize s.left.length = n2
        generalize s.right.length = n3
        generalize s.blocks.length = n4
        skip
        all_goals
          rw [Bool.eq_iff_iff]
          cases Z
          all_goals
            first
            | (simp; done)
            | (simp; omega)
      rw [e]
      exact rsf6 s last w hin h6 hl
    by_cases h7 : s.k = 7
    · have e : fsB s last = (rcB s (0) (0) (1) (1)) := by
        have HH : fsB s last = fsB s last := rfl
        conv at HH => rhs; unfold fsB; rw [if_neg (by omega)]; rw [if_neg (by omega)]; rw [if_neg (by omega)]; rw [if_neg (by omega)]; rw [if_neg (by omega)]; rw [if_neg (by omega)]; rw [if_pos h7]
        rw [HH]
        unfold rcB cntB fitN
        skip
        rw [show (s.k == 13) = false by rw [h7]; rfl, show (s.k == 14) = false by rw [h7]; rfl]
        generalize s.label.toList.isEmpty = Z
        generalize s.names.length = n1
        generalize s.left.length = n2
        generalize s.right.length = n3
        generalize s.blocks.length = n4
        skip
        all_goals
          rw [Bool.eq_iff_iff]
          cases Z
          all_goals
            first
            | (simp; done)
            | (simp; omega)
      rw [e]
      exact rsf7 s last w hin h7 hl
    by_cases h8 : s.k = 8
    · have e : fsB s last = (rcB s (0) (0) (s.right.length) (s.blocks.length) && (decide (0 < s.right.length) && ((s.blocks.length : Int) == s.right.length || (s.blocks.length : Int) == s.right.length + 1))) := by
        have HH : fsB s last = fsB s last := rfl
        conv at HH => rhs; unfold fsB; rw [if_neg (by omega)]; rw [if_neg (by omega)]; rw [if_neg (by omega)]; rw [if_neg (by omega)]; rw [if_neg (by omega)]; rw [if_neg (by omega)]; rw [if_neg (by omega)]; rw [if_pos h8]
        rw [HH]
        unfold rcB cntB fitN
        skip
        rw [show (s.k == 13) = false by rw [h8]; rfl, show (s.k == 14) = false by rw [h8]; rfl]
        generalize s.label.toList.isEmpty = Z
        generalize s.names.length = n1
        generalize s.left.length = n2
        generalize s.right.length = n3
        generalize s.blocks.length = n4
        skip
        all_goals
          rw [Bool.eq_iff_iff]
          cases Z
          all_goals
            first
            | (simp; done)
            | (simp; omega)
      rw [e]
      exact rsf8 s last w hin h8 hl
    by_cases h9 : s.k = 9
    · have e : fsB s last = (rcB s (1) (0) (s.right.length) (1) && (s.names.all (fun y => y.2 == 0) && ((s.right.length : Int) == 2 || (s.right.length : Int) == 3))) := by
        have HH : fsB s last = fsB s last := rfl
        conv at HH => rhs; unfold fsB; rw [if_neg (by omega)]; rw [if_neg (by omega)]; rw [if_neg (by omega)]; rw [if_neg (by omega)]; rw [if_neg (by omega)]; rw [if_neg (by omega)]; rw [if_neg (by omega)]; rw [if_neg (by omega)]; rw [if_pos h9]
        rw [HH]
        unfold rcB cntB fitN
        rw [all_plain]
        rw [show (s.k == 13) = false by rw [h9]; rfl, show (s.k == 14) = false by rw [h9]; rfl]
        generalize s.label.toList.isEmpty = Z
        generalize s.names.length = n1
        generalize s.left.length = n2
        generalize s.right.length = n3
        generalize s.blocks.length = n4
        generalize plainB s = Q; cases Q
        all_goals
          rw [Bool.eq_iff_iff]
          cases Z
          all_goals
            first
            | (simp; done)
            | (simp; omega)
      rw [e]
      exact rsf9 s last w hin h9 hl
    by_cases h10 : s.k = 10
    · have e : fsB s last = (rcB s (s.names.length) (0) (s.right.length) (1) && (s.names.all (fun y => y.2 == 0) && (decide (0 < s.names.length) && decide (0 < s.right.length)))) := by
        have HH : fsB s last = fsB s last := rfl
        conv at HH => rhs; unfold fsB; rw [if_neg (by omega)]; rw [if_neg (by omega)]; rw [if_neg (by omega)]; rw [if_neg (by omega)]; rw [if_neg (by omega)]; rw [if_neg (by omega)]; rw [if_neg (by omega)]; rw [if_neg (by omega)]; rw [if_neg (by omega)]; rw [if_pos h10]
        rw [HH]
        unfold rcB cntB fitN
        rw [all_plain]
        rw [show (s.k == 13) = false by rw [h10]; rfl, show (s.k == 14) = false by rw [h10]; rfl]
        generalize s.label.toList.isEmpty = Z
        generalize s.names.length = n1
        generalize s.left.length = n2
        generalize s.right.length = n3
        generalize s.blocks.length = n4
        generalize plainB s = Q; cases Q
        all_goals
          rw [Bool.eq_iff_iff]
          cases Z
          all_goals
            first
            | (simp; done)
            | (simp; omega)
      rw [e]
      exact rsf10 s last w hin h10 hl
    by_cases h11 : s.k = 11
    · have e : fsB s last = (rcB s (0) (0) (s.right.length) (0) && last) := by
        have HH : fsB s last = fsB s last := rfl
        conv at HH => rhs; unfold fsB; rw [if_neg (by omega)]; rw [if_neg (by omega)]; rw [if_neg (by omega)]; rw [if_neg (by omega)]; rw [if_neg (by omega)]; rw [if_neg (by omega)]; rw [if_neg (by omega)]; rw [if_neg (by omega)]; rw [if_neg (by omega)]; rw [if_neg (by omega)]; rw [if_pos h11]
        rw [HH]
        unfold rcB cntB fitN
        skip
        rw [show (s.k == 13) = false by rw [h11]; rfl, show (s.k == 14) = false by rw [h11]; rfl]
        generalize s.label.toList.isEmpty = Z
        generalize s.names.length = n1
        generalize s.left.length = n2
        generalize s.right.length = n3
        generalize s.blocks.length = n4
        cases last
        all_goals
          rw [Bool.eq_iff_iff]
          cases Z
          all_goals
            first
            | (simp; done)
            | (simp; omega)
      rw [e]
      exact rsf11 s last w hin h11 hl
    by_cases h12 : s.k = 12
    · have e : fsB s last = (rcB s (0) (0) (0) (0)) := by
        have HH : fsB s last = fsB s last := rfl
        conv at HH => rhs; unfold fsB; rw [if_neg (by omega)]; rw [if_neg (by omega)]; rw [if_neg (by omega)]; rw [if_neg (by omega)]; rw [if_neg (by omega)]; rw [if_neg (by omega)]; rw [if_neg (by omega)]; rw [if_neg (by omega)]; rw [if_neg (by omega)]; rw [if_neg (by omega)]; rw [if_neg (by omega)]; rw [if_pos h12]
        rw [HH]
        unfold rcB cntB fitN
        skip
        rw [show (s.k == 13) = false by rw [h12]; rfl, show (s.k == 14) = false by rw [h12]; rfl]
        generalize s.label.toList.isEmpty = Z
        generalize s.names.length = n1
        generalize s.left.length = n2
        generalize s.right.length = n3
        generalize s.blocks.length = n4
        skip
        all_goals
          rw [Bool.eq_iff_iff]
          cases Z
          all_goals
            first
            | (simp; done)
            | (simp; omega)
      rw [e]
      exact rsf12 s last w hin h12 hl
    by_cases h13 : s.k = 13
    · have e : fsB s last = (rcB s (0) (0) (0) (0)) := by
        have HH : fsB s last = fsB s last := rfl
        conv at HH => rhs; unfold fsB; rw [if_neg (by omega)]; rw [if_neg (by omega)]; rw [if_neg (by omega)]; rw [if_neg (by omega)]; rw [if_neg (by omega)]; rw [if_neg (by omega)]; rw [if_neg (by omega)]; rw [if_neg (by omega)]; rw [if_neg (by omega)]; rw [if_neg (by omega)]; rw [if_neg (by omega)]; rw [if_neg (by omega)]; rw [if_pos h13]
        rw [HH]
        unfold rcB cntB fitN
        skip
        rw [show (s.k == 13) = true by rw [h13]; rfl, show (s.k == 14) = false by rw [h13]; rfl]
        generalize s.label.toList.isEmpty = Z
        generalize s.names.length = n1
        generalize s.left.length = n2
        generalize s.right.length = n3
        generalize s.blocks.length = n4
        skip
        all_goals
          rw [Bool.eq_iff_iff]
          cases Z
          all_goals
            first
            | (simp; done)
            | (simp; omega)
      rw [e]
      exact rsf13 s last w hin h13 hl
    by_cases h14 : s.k = 14
    · have e : fsB s last = (rcB s (0) (0) (0) (0)) := by
        have HH : fsB s last = fsB s last := rfl
        conv at HH => rhs; unfold fsB; rw [if_neg (by omega)]; rw [if_neg (by omega)]; rw [if_neg (by omega)]; rw [if_neg (by omega)]; rw [if_neg (by omega)]; rw [if_neg (by omega)]; rw [if_neg (by omega)]; rw [if_neg (by omega)]; rw [if_neg (by omega)]; rw [if_neg (by omega)]; rw [if_neg (by omega)]; rw [if_neg (by omega)]; rw [if_neg (by omega)]; rw [if_pos h14]
        rw [HH]
        unfold rcB cntB fitN
        skip
        rw [show (s.k == 13) = false by rw [h14]; rfl, show (s.k == 14) = true by rw [h14]; rfl]
        generalize s.label.toList.isEmpty = Z
        generalize s.names.length = n1
        generalize s.left.length = n2
        generalize s.right.length = n3
        generalize s.blocks.length = n4
        skip
        all_goals
          rw [Bool.eq_iff_iff]
          cases Z
          all_goals
            first
            | (simp; done)
            | (simp; omega)
      rw [e]
      exact rsf14 s last w hin h14 hl
    omega
  · rw [decide_eq_false hl, Bool.false_and]
    exact rsfL s last w (by omega)
end
end Go.Proofs.YthkpggpnbdedjaaGreat
