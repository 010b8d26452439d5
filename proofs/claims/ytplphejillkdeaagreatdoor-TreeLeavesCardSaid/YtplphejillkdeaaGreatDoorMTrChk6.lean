/- The program's formExpr: whether an expression is well-formed apart from its parts and names. -/
import Derived.Test.YtplphejillkdeaaGreatDoorMTrChk5
import Derived.Test.YtplphejillkdeaaGreatDoorMRat
namespace Go.Proofs.YtplphejillkdeaaGreatDoor
open Go.RowKit Go.Instr
set_option linter.unusedVariables false

def feB (x : TX) (par : Int) : Bool :=
  if x.k = 1 then hasB x false false false 0
  else if x.k = 2 then hasB x false false false 0
  else if x.k = 3 then hasB x false false false 0
  else if x.k = 4 then hasB x false true false 0 && (vldB x.p x.q && (decide (0 ≤ x.p) && (1000000000 : Int) % x.q == 0))
  else if x.k = 5 then hasB x false false true 0
  else if x.k = 6 then hasB x false false false 0
  else if x.k = 7 then hasB x false false true 0
  else if x.k = 8 then hasB x false false false 2 && subjB x
  else if x.k = 9 then hasB x false false false (-1) && subjB x
  else if x.k = 10 then hasB x false false true (-1) && subjB x
  else if x.k = 11 then hasB x false false false 0 && (x.funcs.length : Int) == 1
  else if x.k = 12 then hasB x false false false (-1) && !(x.args.any fun x => x.k != 13 && x.k != 14)
  else if x.k = 13 then hasB x false false false 1 && par == 12
  else if x.k = 14 then hasB x false false false 2 && par == 12
  else if x.k = 15 then hasB x true false false 1 && (decide (20 ≤ x.op) && decide (x.op ≤ 23))
  else if x.k = 16 then hasB x true false false 2 && (decide (1 ≤ x.op) && decide (x.op ≤ 19))
  else if x.k = 17 then hasB x false false false 2
  else if x.k = 18 then hasB x false false false 2
  else if x.k = 19 then hasB x false false false 1 && (x.args.head?.map multiB).getD false
  else false
theorem has_args {x : TX} {op num str : Bool} (h : hasB x op num str 1 = true) : x.args.length = 1 := by
  unfold hasB at h
  simp only [Bool.and_eq_true, Bool.or_eq_true, decide_eq_true_eq, beq_iff_eq] at h
  omega
theorem firstM_at (l : List TX) (h : 0 < l.length) : (l.head?.map multiB).getD false = multiB (l[0]'h) := by
  cases l with
  | nil => cases h
  | cons y l => rfl
section
variable (x : TX) (par : Int) (w : World) (hin : InX w w.heap.size x)
include hin

omit hin in
set_option maxHeartbeats 3200000 in
set_option maxRecDepth 100000 in
theorem formx1 (hk : x.k = 1) : Calls Tryz.prog 99 #[x.v, .int .i64 par] w fun e w' => e = .returned (.bool (feB x par)) ∧ Below w.heap.size w w' := by
  have hF : feB x par = (hasB x false false false 0) := by unfold feB; rw [if_pos hk]
  rw [hF]
  clear hF
  have d1 : (x.k == 1) = true := by simpa using hk
  obtain ⟨C, hC⟩ : ∃ c, hasB x false false false (0) = c := ⟨_, rfl⟩
  have HC : Hid (∀ W, Calls Tryz.prog 118 #[x.v, .bool false, .bool false, .bool false, .int .i64 (0)] W fun e W' => e = .returned (.bool C) ∧ Below W.heap.size W W') := fun W => hC ▸ has_any x false false false (0) W
  rw [hC]
  clear hC hk
  cases C with
  | false =>
    go_enter Tryz.func99, Tryz.ntmps99
    go_wp2_with (first | (go_at_call 118; (with_reducible refine (HC.out _).mono ?_); rintro e w1 ⟨rfl, hb⟩; (refine mem hb ?_; intro N hN hz hc hf; (try simp at hN); subst hN)))
    go_returns
    refine ⟨rfl, ?_⟩
    (repeat' (first | (with_reducible exact Below.refl _ _) | (with_reducible assumption) | (with_reducible refine Below.alloc ?_ ?_ _) | (with_reducible refine below_drewN ?_ _) | (with_reducible refine Below.drew ?_) | (with_reducible refine Below.setCell ?_ ?_ _) | (with_reducible refine below_via (by assumption) ?_ ?_) | (with_reducible refine below_via (later_below _) ?_ ?_) | (with_reducible exact Nat.le_refl _) | omega | (simp; omega) | (simp; done)))
  | true =>
    go_enter Tryz.func99, Tryz.ntmps99
    go_wp2_with (first | (go_at_call 118; (with_reducible refine (HC.out _).mono ?_); rintro e w1 ⟨rfl, hb⟩; (refine mem hb ?_; intro N hN hz hc hf; (try simp at hN); subst hN)))
    go_returns
    refine ⟨rfl, ?_⟩
    (repeat' (first | (with_reducible exact Below.refl _ _) | (with_reducible assumption) | (with_reducible refine Below.alloc ?_ ?_ _) | (with_reducible refine below_drewN ?_ _) | (with_reducible refine Below.drew ?_) | (with_reducible refine Below.setCell ?_ ?_ _) | (with_reducible refine below_via (by assumption) ?_ ?_) | (with_reducible refine below_via (later_below _) ?_ ?_) | (with_reducible exact Nat.le_refl _) | omega | (simp; omega) | (simp; done)))

omit hin in
set_option maxHeartbeats 3200000 in
set_option maxRecDepth 100000 in
theorem formx2 (hk : x.k = 2) : Calls Tryz.prog 99 #[x.v, .int .i64 par] w fun e w' => e = .returned (.bool (feB x par)) ∧ Below w.heap.size w w' := by
  have hF : feB x par = (hasB x false false false 0) := by unfold feB; rw [if_neg (by omega)]; rw [if_pos hk]
  rw [hF]
  clear hF
  have d1 : (x.k == 1) = false := by simp; omega
  have d2 : (x.k == 2) = true := by simpa using hk
  obtain ⟨C, hC⟩ : ∃ c, hasB x false false false (0) = c := ⟨_, rfl⟩
  have HC : Hid (∀ W, Calls Tryz.prog 118 #[x.v, .bool false, .bool false, .bool false, .int .i64 (0)] W fun e W' => e = .returned (.bool C) ∧ Below W.heap.size W W') := fun W => hC ▸ has_any x false false false (0) W
  rw [hC]
  clear hC hk
  cases C with
  | false =>
    go_enter Tryz.func99, Tryz.ntmps99
    go_wp2_with (first | (go_at_call 118; (with_reducible refine (HC.out _).mono ?_); rintro e w1 ⟨rfl, hb⟩; (refine mem hb ?_; intro N hN hz hc hf; (try simp at hN); subst hN)))
    go_returns
    refine ⟨rfl, ?_⟩
    (repeat' (first | (with_reducible exact Below.refl _ _) | (with_reducible assumption) | (with_reducible refine Below.alloc ?_ ?_ _) | (with_reducible refine below_drewN ?_ _) | (with_reducible refine Below.drew ?_) | (with_reducible refine Below.setCell ?_ ?_ _) | (with_reducible refine below_via (by assumption) ?_ ?_) | (with_reducible refine below_via (later_below _) ?_ ?_) | (with_reducible exact Nat.le_refl _) | omega | (simp; omega) | (simp; done)))
  | true =>
    go_enter Tryz.func99, Tryz.ntmps99
    go_wp2_with (first | (go_at_call 118; (with_reducible refine (HC.out _).mono ?_); rintro e w1 ⟨rfl, hb⟩; (refine mem hb ?_; intro N hN hz hc hf; (try simp at hN); subst hN)))
    go_returns
    refine ⟨rfl, ?_⟩
    (repeat' (first | (with_reducible exact Below.refl _ _) | (with_reducible assumption) | (with_reducible refine Below.alloc ?_ ?_ _) | (with_reducible refine below_drewN ?_ _) | (with_reducible refine Below.drew ?_) | (with_reducible refine Below.setCell ?_ ?_ _) | (with_reducible refine below_via (by assumption) ?_ ?_) | (with_reducible refine below_via (later_below _) ?_ ?_) | (with_reducible exact Nat.le_refl _) | omega | (simp; omega) | (simp; done)))

omit hin in
set_option maxHeartbeats 3200000 in
set_option maxRecDepth 100000 in
theorem formx3 (hk : x.k = 3) : Calls Tryz.prog 99 #[x.v, .int .i64 par] w fun e w' => e = .returned (.bool (feB x par)) ∧ Below w.heap.size w w' := by
  have hF : feB x par = (hasB x false false false 0) := by unfold feB; rw [if_neg (by omega)]; rw [if_neg (by omega)]; rw [if_pos hk]
  rw [hF]
  clear hF
  have d1 : (x.k == 1) = false := by simp; omega
  have d2 : (x.k == 2) = false := by simp; omega
  have d3 : (x.k == 3) = true := by simpa using hk
  obtain ⟨C, hC⟩ : ∃ c, hasB x false false false (0) = c := ⟨_, rfl⟩
  have HC : Hid (∀ W, Calls Tryz.prog 118 #[x.v, .bool false, .bool false, .bool false, .int .i64 (0)] W fun e W' => e = .returned (.bool C) ∧ Below W.heap.size W W') := fun W => hC ▸ has_any x false false false (0) W
  rw [hC]
  clear hC hk
  cases C with
  | false =>
    go_enter Tryz.func99, Tryz.ntmps99
    go_wp2_with (first | (go_at_call 118; (with_reducible refine (HC.out _).mono ?_); rintro e w1 ⟨rfl, hb⟩; (refine mem hb ?_; intro N hN hz hc hf; (try simp at hN); subst hN)))
    go_returns
    refine ⟨rfl, ?_⟩
    (repeat' (first | (with_reducible exact Below.refl _ _) | (with_reducible assumption) | (with_reducible refine Below.alloc ?_ ?_ _) | (with_reducible refine below_drewN ?_ _) | (with_reducible refine Below.drew ?_) | (with_reducible refine Below.setCell ?_ ?_ _) | (with_reducible refine below_via (by assumption) ?_ ?_) | (with_reducible refine below_via (later_below _) ?_ ?_) | (with_reducible exact Nat.le_refl _) | omega | (simp; omega) | (simp; done)))
  | true =>
    go_enter Tryz.func99, Tryz.ntmps99
    go_wp2_with (first | (go_at_call 118; (with_reducible refine (HC.out _).mono ?_); rintro e w1 ⟨rfl, hb⟩; (refine mem hb ?_; intro N hN hz hc hf; (try simp at hN); subst hN)))
    go_returns
    refine ⟨rfl, ?_⟩
    (repeat' (first | (with_reducible exact Below.refl _ _) | (with_reducible assumption) | (with_reducible refine Below.alloc ?_ ?_ _) | (with_reducible refine below_drewN ?_ _) | (with_reducible refine Below.drew ?_) | (with_reducible refine Below.setCell ?_ ?_ _) | (with_reducible refine below_via (by assumption) ?_ ?_) | (with_reducible refine below_via (later_below _) ?_ ?_) | (with_reducible exact Nat.le_refl _) | omega | (simp; omega) | (simp; done)))

set_option maxHeartbeats 3200000 in
set_option maxRecDepth 100000 in
theorem formx4 (hk : x.k = 4) : Calls Tryz.prog 99 #[x.v, .int .i64 par] w fun e w' => e = .returned (.bool (feB x par)) ∧ Below w.heap.size w w' := by
  have hF : feB x par = (hasB x false true false 0 && (vldB x.p x.q && (decide (0 ≤ x.p) && (1000000000 : Int) % x.q == 0))) := by unfold feB; rw [if_neg (by omega)]; rw [if_neg (by omega)]; rw [if_neg (by omega)]; rw [if_pos hk]
  rw [hF]
  clear hF
  have d1 : (x.k == 1) = false := by simp; omega
  have d2 : (x.k == 2) = false := by simp; omega
  have d3 : (x.k == 3) = false := by simp; omega
  have d4 : (x.k == 4) = true := by simpa using hk
  obtain ⟨C, hC⟩ : ∃ c, hasB x false true false (0) = c := ⟨_, rfl⟩
  have HC : Hid (∀ W, Calls Tryz.prog 118 #[x.v, .bool false, .bool true, .bool false, .int .i64 (0)] W fun e W' => e = .returned (.bool C) ∧ Below W.heap.size W W') := fun W => hC ▸ has_any x false true false (0) W
  rw [hC]
  have gp := ((inX_iff x).1 hin).1.pi
  obtain ⟨D, hD⟩ : ∃ c, vldB x.p x.q = c := ⟨_, rfl⟩
  have HV : Hid (∀ W, Calls Tryz.prog 25 #[.agg #[.int .i64 x.p, .int .i64 x.q]] W fun e W' => e = .returned (.bool D) ∧ Below W.heap.size W W') := fun W => hD ▸ valid_any x.p x.q W gp.1 gp.2
  rw [hD]
  cases C with
  | false =>
    clear hC hk hin hD
    go_enter Tryz.func99, Tryz.ntmps99
    go_wp2_with (first | (go_at_call 118; (with_reducible refine (HC.out _).mono ?_); rintro e w1 ⟨rfl, hb⟩; (refine mem hb ?_; intro N hN hz hc hf; (try simp at hN); subst hN)))
    go_returns
    refine ⟨rfl, ?_⟩
    (repeat' (first | (with_reducible exact Below.refl _ _) | (with_reducible assumption) | (with_reducible refine Below.alloc ?_ ?_ _) | (with_reducible refine below_drewN ?_ _) | (with_reducible refine Below.drew ?_) | (with_reducible refine Below.setCell ?_ ?_ _) | (with_reducible refine below_via (by assumption) ?_ ?_) | (with_reducible refine below_via (later_below _) ?_ ?_) | (with_reducible exact Nat.le_refl _) | omega | (simp; omega) | (simp; done)))
  | true =>
    cases D with
    | false =>
      clear hC hk hin hD
      go_enter Tryz.func99, Tryz.ntmps99
      go_wp2_with (first | (go_at_call 118; (with_reducible refine (HC.out _).mono ?_); rintro e w1 ⟨rfl, hb⟩; (refine mem hb ?_; intro N hN hz hc hf; (try simp at hN); subst hN)) | (go_at_call 25; (with_reducible refine (HV.out _).mono ?_); rintro e w2 ⟨rfl, hb⟩; (refine mem hb ?_; intro N hN hz hc hf; (try simp at hN); subst hN)))
      go_returns
      refine ⟨rfl, ?_⟩
      (repeat' (first | (with_reducible exact Below.refl _ _) | (with_reducible assumption) | (with_reducible refine Below.alloc ?_ ?_ _) | (with_reducible refine below_drewN ?_ _) | (with_reducible refine Below.drew ?_) | (with_reducible refine Below.setCell ?_ ?_ _) | (with_reducible refine below_via (by assumption) ?_ ?_) | (with_reducible refine below_via (later_below _) ?_ ?_) | (with_reducible exact Nat.le_refl _) | omega | (simp; omega) | (simp; done)))
    | true =>
      have hq : 1 ≤ x.q ∧ x.q ≤ 2147483647 := by
        unfold vldB at hD
        simp only [Bool.and_eq_true, decide_eq_true_eq] at hD
        omega
      clear hC hk hin hD
      have q0 : (x.q == 0) = false := by simp; omega
      cases h5 : (decide (0 ≤ x.p)) with
      | false =>
        have h6 : ¬ 0 ≤ x.p := of_decide_eq_false h5
        go_enter Tryz.func99, Tryz.ntmps99
        go_wp2_with (first | (go_at_call 118; (with_reducible refine (HC.out _).mono ?_); rintro e w1 ⟨rfl, hb⟩; (refine mem hb ?_; intro N hN hz hc hf; (try simp at hN); subst hN)) | (go_at_call 25; (with_reducible refine (HV.out _).mono ?_); rintro e w2 ⟨rfl, hb⟩; (refine mem hb ?_; intro N hN hz hc hf; (try simp at hN); subst hN)))
        go_returns
        refine ⟨rfl, ?_⟩
        (repeat' (first | (with_reducible exact Below.refl _ _) | (with_reducible assumption) | (with_reducible refine Below.alloc ?_ ?_ _) | (with_reducible refine below_drewN ?_ _) | (with_reducible refine Below.drew ?_) | (with_reducible refine Below.setCell ?_ ?_ _) | (with_reducible refine below_via (by assumption) ?_ ?_) | (with_reducible refine below_via (later_below _) ?_ ?_) | (with_reducible exact Nat.le_refl _) | omega | (simp; omega) | (simp; done)))
      | true =>
        have h6 : 0 ≤ x.p := of_decide_eq_true h5
        go_enter Tryz.func99, Tryz.ntmps99
        go_wp2_with (first | (go_at_call 118; (with_reducible refine (HC.out _).mono ?_); rintro e w1 ⟨rfl, hb⟩; (refine mem hb ?_; intro N hN hz hc hf; (try simp at hN); subst hN)) | (go_at_call 25; (with_reducible refine (HV.out _).mono ?_); rintro e w2 ⟨rfl, hb⟩; (refine mem hb ?_; intro N hN hz hc hf; (try simp at hN); subst hN)))
        go_returns
        refine ⟨rfl, ?_⟩
        (repeat' (first | (with_reducible exact Below.refl _ _) | (with_reducible assumption) | (with_reducible refine Below.alloc ?_ ?_ _) | (with_reducible refine below_drewN ?_ _) | (with_reducible refine Below.drew ?_) | (with_reducible refine Below.setCell ?_ ?_ _) | (with_reducible refine below_via (by assumption) ?_ ?_) | (with_reducible refine below_via (later_below _) ?_ ?_) | (with_reducible exact Nat.le_refl _) | omega | (simp; omega) | (simp; done)))

omit hin in
set_option maxHeartbeats 3200000 in
set_option maxRecDepth 100000 in
theorem formx5 (hk : x.k = 5) : Calls Tryz.prog 99 #[x.v, .int .i64 par] w fun e w' => e = .returned (.bool (feB x par)) ∧ Below w.heap.size w w' := by
  have hF : feB x par = (hasB x false false true 0) := by unfold feB; rw [if_neg (by omega)]; rw [if_neg (by omega)]; rw [if_neg (by omega)]; rw [if_neg (by omega)]; rw [if_pos hk]
  rw [hF]
  clear hF
  have d1 : (x.k == 1) = false := by simp; omega
  have d2 : (x.k == 2) = false := by simp; omega
  have d3 : (x.k == 3) = false := by simp; omega
  have d4 : (x.k == 4) = false := by simp; omega
  have d5 : (x.k == 5) = true := by simpa using hk
  obtain ⟨C, hC⟩ : ∃ c, hasB x false false true (0) = c := ⟨_, rfl⟩
  have HC : Hid (∀ W, Calls Tryz.prog 118 #[x.v, .bool false, .bool false, .bool true, .int .i64 (0)] W fun e W' => e = .returned (.bool C) ∧ Below W.heap.size W W') := fun W => hC ▸ has_any x false false true (0) W
  rw [hC]
  clear hC hk
  cases C with
  | false =>
    go_enter Tryz.func99, Tryz.ntmps99
    go_wp2_with (first | (go_at_call 118; (with_reducible refine (HC.out _).mono ?_); rintro e w1 ⟨rfl, hb⟩; (refine mem hb ?_; intro N hN hz hc hf; (try simp at hN); subst hN)))
    go_returns
    refine ⟨rfl, ?_⟩
    (repeat' (first | (with_reducible exact Below.refl _ _) | (with_reducible assumption) | (with_reducible refine Below.alloc ?_ ?_ _) | (with_reducible refine below_drewN ?_ _) | (with_reducible refine Below.drew ?_) | (with_reducible refine Below.setCell ?_ ?_ _) | (with_reducible refine below_via (by assumption) ?_ ?_) | (with_reducible refine below_via (later_below _) ?_ ?_) | (with_reducible exact Nat.le_refl _) | omega | (simp; omega) | (simp; done)))
  | true =>
    go_enter Tryz.func99, Tryz.ntmps99
    go_wp2_with (first | (go_at_call 118; (with_reducible refine (HC.out _).mono ?_); rintro e w1 ⟨rfl, hb⟩; (refine mem hb ?_; intro N hN hz hc hf; (try simp at hN); subst hN)))
    go_returns
    refine ⟨rfl, ?_⟩
    (repeat' (first | (with_reducible exact Below.refl _ _) | (with_reducible assumption) | (with_reducible refine Below.alloc ?_ ?_ _) | (with_reducible refine below_drewN ?_ _) | (with_reducible refine Below.drew ?_) | (with_reducible refine Below.setCell ?_ ?_ _) | (with_reducible refine below_via (by assumption) ?_ ?_) | (with_reducible refine below_via (later_below _) ?_ ?_) | (with_reducible exact Nat.le_refl _) | omega | (simp; omega) | (simp; done)))

omit hin in
set_option maxHeartbeats 3200000 in
set_option maxRecDepth 100000 in
theorem formx6 (hk : x.k = 6) : Calls Tryz.prog 99 #[x.v, .int .i64 par] w fun e w' => e = .returned (.bool (feB x par)) ∧ Below w.heap.size w w' := by
  have hF : feB x par = (hasB x false false false 0) := by unfold feB; rw [if_neg (by omega)]; rw [if_neg (by omega)]; rw [if_neg (by omega)]; rw [if_neg (by omega)]; rw [if_neg (by omega)]; rw [if_pos hk]
  rw [hF]
  clear hF
  have d1 : (x.k == 1) = false := by simp; omega
  have d2 : (x.k == 2) = false := by simp; omega
  have d3 : (x.k == 3) = false := by simp; omega
  have d4 : (x.k == 4) = false := by simp; omega
  have d5 : (x.k == 5) = false := by simp; omega
  have d6 : (x.k == 6) = true := by simpa using hk
  obtain ⟨C, hC⟩ : ∃ c, hasB x false false false (0) = c := ⟨_, rfl⟩
  have HC : Hid (∀ W, Calls Tryz.prog 118 #[x.v, .bool false, .bool false, .bool false, .int .i64 (0)] W fun e W' => e = .returned (.bool C) ∧ Below W.heap.size W W') := fun W => hC ▸ has_any x false false false (0) W
  rw [hC]
  clear hC hk
  cases C with
  | false =>
    go_enter Tryz.func99, Tryz.ntmps99
    go_wp2_with (first | (go_at_call 118; (with_reducible refine (HC.out _).mono ?_); rintro e w1 ⟨rfl, hb⟩; (refine mem hb ?_; intro N hN hz hc hf; (try simp at hN); subst hN)))
    go_returns
    refine ⟨rfl, ?_⟩
    (repeat' (first | (with_reducible exact Below.refl _ _) | (with_reducible assumption) | (with_reducible refine Below.alloc ?_ ?_ _) | (with_reducible refine below_drewN ?_ _) | (with_reducible refine Below.drew ?_) | (with_reducible refine Below.setCell ?_ ?_ _) | (with_reducible refine below_via (by assumption) ?_ ?_) | (with_reducible refine below_via (later_below _) ?_ ?_) | (with_reducible exact Nat.le_refl _) | omega | (simp; omega) | (simp; done)))
  | true =>
    go_enter Tryz.func99, Tryz.ntmps99
    go_wp2_with (first | (go_at_call 118; (with_reducible refine (HC.out _).mono ?_); rintro e w1 ⟨rfl, hb⟩; (refine mem hb ?_; intro N hN hz hc hf; (try simp at hN); subst hN)))
    go_returns
    refine ⟨rfl, ?_⟩
    (repeat' (first | (with_reducible exact Below.refl _ _) | (with_reducible assumption) | (with_reducible refine Below.alloc ?_ ?_ _) | (with_reducible refine below_drewN ?_ _) | (with_reducible refine Below.drew ?_) | (with_reducible refine Below.setCell ?_ ?_ _) | (with_reducible refine below_via (by assumption) ?_ ?_) | (with_reducible refine below_via (later_below _) ?_ ?_) | (with_reducible exact Nat.le_refl _) | omega | (simp; omega) | (simp; done)))

omit hin in
set_option maxHeartbeats 3200000 in
set_option maxRecDepth 100000 in
theorem formx7 (hk : x.k = 7) : Calls Tryz.prog 99 #[x.v, .int .i64 par] w fun e w' => e = .returned (.bool (feB x par)) ∧ Below w.heap.size w w' := by
  have hF : feB x par = (hasB x false false true 0) := by unfold feB; rw [if_neg (by omega)]; rw [if_neg (by omega)]; rw [if_neg (by omega)]; rw [if_neg (by omega)]; rw [if_neg (by omega)]; rw [if_neg (by omega)]; rw [if_pos hk]
  rw [hF]
  clear hF
  have d1 : (x.k == 1) = false := by simp; omega
  have d2 : (x.k == 2) = false := by simp; omega
  have d3 : (x.k == 3) = false := by simp; omega
  have d4 : (x.k == 4) = false := by simp; omega
  have d5 : (x.k == 5) = false := by simp; omega
  have d6 : (x.k == 6) = false := by simp; omega
  have d7 : (x.k == 7) = true := by simpa using hk
  obtain ⟨C, hC⟩ : ∃ c, hasB x false false true (0) = c := ⟨_, rfl⟩
  have HC : Hid (∀ W, Calls Tryz.prog 118 #[x.v, .bool false, .bool false, .bool true, .int .i64 (0)] W fun e W' => e = .returned (.bool C) ∧ Below W.heap.size W W') := fun W => hC ▸ has_any x false false true (0) W
  rw [hC]
  clear hC hk
  cases C with
  | false =>
    go_enter Tryz.func99, Tryz.ntmps99
    go_wp2_with (first | (go_at_call 118; (with_reducible refine (HC.out _).mono ?_); rintro e w1 ⟨rfl, hb⟩; (refine mem hb ?_; intro N hN hz hc hf; (try simp at hN); subst hN)))
    go_returns
    refine ⟨rfl, ?_⟩
    (repeat' (first | (with_reducible exact Below.refl _ _) | (with_reducible assumption) | (with_reducible refine Below.alloc ?_ ?_ _) | (with_reducible refine below_drewN ?_ _) | (with_reducible refine Below.drew ?_) | (with_reducible refine Below.setCell ?_ ?_ _) | (with_reducible refine below_via (by assumption) ?_ ?_) | (with_reducible refine below_via (later_below _) ?_ ?_) | (with_reducible exact Nat.le_refl _) | omega | (simp; omega) | (simp; done)))
  | true =>
    go_enter Tryz.func99, Tryz.ntmps99
    go_wp2_with (first | (go_at_call 118; (with_reducible refine (HC.out _).mono ?_); rintro e w1 ⟨rfl, hb⟩; (refine mem hb ?_; intro N hN hz hc hf; (try simp at hN); subst hN)))
    go_returns
    refine ⟨rfl, ?_⟩
    (repeat' (first | (with_reducible exact Below.refl _ _) | (with_reducible assumption) | (with_reducible refine Below.alloc ?_ ?_ _) | (with_reducible refine below_drewN ?_ _) | (with_reducible refine Below.drew ?_) | (with_reducible refine Below.setCell ?_ ?_ _) | (with_reducible refine below_via (by assumption) ?_ ?_) | (with_reducible refine below_via (later_below _) ?_ ?_) | (with_reducible exact Nat.le_refl _) | omega | (simp; omega) | (simp; done)))

set_option maxHeartbeats 3200000 in
set_option maxRecDepth 100000 in
theorem formx8 (hk : x.k = 8) : Calls Tryz.prog 99 #[x.v, .int .i64 par] w fun e w' => e = .returned (.bool (feB x par)) ∧ Below w.heap.size w w' := by
  have hF : feB x par = (hasB x false false false (2) && subjB x) := by unfold feB; rw [if_neg (by omega)]; rw [if_neg (by omega)]; rw [if_neg (by omega)]; rw [if_neg (by omega)]; rw [if_neg (by omega)]; rw [if_neg (by omega)]; rw [if_neg (by omega)]; rw [if_pos hk]
  rw [hF]
  clear hF
  have d1 : (x.k == 1) = false := by simp; omega
  have d2 : (x.k == 2) = false := by simp; omega
  have d3 : (x.k == 3) = false := by simp; omega
  have d4 : (x.k == 4) = false := by simp; omega
  have d5 : (x.k == 5) = false := by simp; omega
  have d6 : (x.k == 6) = false := by simp; omega
  have d7 : (x.k == 7) = false := by simp; omega
  have d8 : (x.k == 8) = true := by simpa using hk
  obtain ⟨C, hC⟩ : ∃ c, hasB x false false false (2) = c := ⟨_, rfl⟩
  have HC : Hid (∀ W, Calls Tryz.prog 118 #[x.v, .bool false, .bool false, .bool false, .int .i64 (2)] W fun e W' => e = .returned (.bool C) ∧ Below W.heap.size W W') := fun W => hC ▸ has_any x false false false (2) W
  rw [hC]
  obtain ⟨D, hD⟩ : ∃ c, subjB x = c := ⟨_, rfl⟩
  have HD : Hid (∀ W, Below w.heap.size w W → Calls Tryz.prog 119 #[x.v] W fun e W' => e = .returned (.bool D) ∧ Below W.heap.size W W') := fun W hW => hD ▸ subject_any x W (hin.still (still_of hW (Nat.le_refl _)) hW.size)
  rw [hD]
  clear hC hD hk hin
  cases C with
  | false =>
    go_enter Tryz.func99, Tryz.ntmps99
    go_wp2_with (first | (go_at_call 118; (with_reducible refine (HC.out _).mono ?_); rintro e w1 ⟨rfl, hb⟩; (refine mem hb ?_; intro N hN hz hc hf; (try simp at hN); subst hN)))
    go_returns
    refine ⟨rfl, ?_⟩
    (repeat' (first | (with_reducible exact Below.refl _ _) | (with_reducible assumption) | (with_reducible refine Below.alloc ?_ ?_ _) | (with_reducible refine below_drewN ?_ _) | (with_reducible refine Below.drew ?_) | (with_reducible refine Below.setCell ?_ ?_ _) | (with_reducible refine below_via (by assumption) ?_ ?_) | (with_reducible refine below_via (later_below _) ?_ ?_) | (with_reducible exact Nat.le_refl _) | omega | (simp; omega) | (simp; done)))
  | true =>
    go_enter Tryz.func99, Tryz.ntmps99
    go_wp2_with (first | (go_at_call 118; (with_reducible refine (HC.out _).mono ?_); rintro e w1 ⟨rfl, hb⟩; (refine mem hb ?_; intro N hN hz hc hf; (try simp at hN); subst hN)) | (go_at_call 119; (with_reducible refine (HD.out _ ?_).mono ?_); (focus ((repeat' (first | (with_reducible exact Below.refl _ _) | (with_reducible assumption) | (with_reducible refine Below.alloc ?_ ?_ _) | (with_reducible refine below_drewN ?_ _) | (with_reducible refine Below.drew ?_) | (with_reducible refine Below.setCell ?_ ?_ _) | (with_reducible refine below_via (by assumption) ?_ ?_) | (with_reducible refine below_via (later_below _) ?_ ?_) | (with_reducible exact Nat.le_refl _) | omega | (simp; omega) | (simp; done))))); rintro e w2 ⟨rfl, hb⟩; (refine mem hb ?_; intro N hN hz hc hf; (try simp at hN); subst hN)))
    go_returns
    refine ⟨rfl, ?_⟩
    (repeat' (first | (with_reducible exact Below.refl _ _) | (with_reducible assumption) | (with_reducible refine Below.alloc ?_ ?_ _) | (with_reducible refine below_drewN ?_ _) | (with_reducible refine Below.drew ?_) | (with_reducible refine Below.setCell ?_ ?_ _) | (with_reducible refine below_via (by assumption) ?_ ?_) | (with_reducible refine below_via (later_below _) ?_ ?_) | (with_reducible exact Nat.le_refl _) | omega | (simp; omega) | (simp; done)))

set_option maxHeartbeats 3200000 in
set_option maxRecDepth 100000 in
theorem formx9 (hk : x.k = 9) : Calls Tryz.prog 99 #[x.v, .int .i64 par] w fun e w' => e = .returned (.bool (feB x par)) ∧ Below w.heap.size w w' := by
  have hF : feB x par = (hasB x false false false (-1) && subjB x) := by unfold feB; rw [if_neg (by omega)]; rw [if_neg (by omega)]; rw [if_neg (by omega)]; rw [if_neg (by omega)]; rw [if_neg (by omega)]; rw [if_neg (by omega)]; rw [if_neg (by omega)]; rw [if_neg (by omega)]; rw [if_pos hk]
  rw [hF]
  clear hF
  have d1 : (x.k == 1) = false := by simp; omega
  have d2 : (x.k == 2) = false := by simp; omega
  have d3 : (x.k == 3) = false := by simp; omega
  have d4 : (x.k == 4) = false := by simp; omega
  have d5 : (x.k == 5) = false := by simp; omega
  have d6 : (x.k == 6) = false := by simp; omega
  have d7 : (x.k == 7) = false := by simp; omega
  have d8 : (x.k == 8) = false := by simp; omega
  have d9 : (x.k == 9) = true := by simpa using hk
  obtain ⟨C, hC⟩ : ∃ c, hasB x false false false (-1) = c := ⟨_, rfl⟩
  have HC : Hid (∀ W, Calls Tryz.prog 118 #[x.v, .bool false, .bool false, .bool false, .int .i64 (-1)] W fun e W' => e = .returned (.bool C) ∧ Below W.heap.size W W') := fun W => hC ▸ has_any x false false false (-1) W
  rw [hC]
  obtain ⟨D, hD⟩ : ∃ c, subjB x = c := ⟨_, rfl⟩
  have HD : Hid (∀ W, Below w.heap.size w W → Calls Tryz.prog 119 #[x.v] W fun e W' => e = .returned (.bool D) ∧ Below W.heap.size W W') := fun W hW => hD ▸ subject_any x W (hin.still (still_of hW (Nat.le_refl _)) hW.size)
  rw [hD]
  clear hC hD hk hin
  cases C with
  | false =>
    go_enter Tryz.func99, Tryz.ntmps99
    go_wp2_with (first | (go_at_call 118; (with_reducible refine (HC.out _).mono ?_); rintro e w1 ⟨rfl, hb⟩; (refine mem hb ?_; intro N hN hz hc hf; (try simp at hN); subst hN)))
    go_returns
    refine ⟨rfl, ?_⟩
    (repeat' (first | (with_reducible exact Below.refl _ _) | (with_reducible assumption) | (with_reducible refine Below.alloc ?_ ?_ _) | (with_reducible refine below_drewN ?_ _) | (with_reducible refine Below.drew ?_) | (with_reducible refine Below.setCell ?_ ?_ _) | (with_reducible refine below_via (by assumption) ?_ ?_) | (with_reducible refine below_via (later_below _) ?_ ?_) | (with_reducible exact Nat.le_refl _) | omega | (simp; omega) | (simp; done)))
  | true =>
    go_enter Tryz.func99, Tryz.ntmps99
    go_wp2_with (first | (go_at_call 118; (with_reducible refine (HC.out _).mono ?_); rintro e w1 ⟨rfl, hb⟩; (refine mem hb ?_; intro N hN hz hc hf; (try simp at hN); subst hN)) | (go_at_call 119; (with_reducible refine (HD.out _ ?_).mono ?_); (focus ((repeat' (first | (with_reducible exact Below.refl _ _) | (with_reducible assumption) | (with_reducible refine Below.alloc ?_ ?_ _) | (with_reducible refine below_drewN ?_ _) | (with_reducible refine Below.drew ?_) | (with_reducible refine Below.setCell ?_ ?_ _) | (with_reducible refine below_via (by assumption) ?_ ?_) | (with_reducible refine below_via (later_below _) ?_ ?_) | (with_reducible exact Nat.le_refl _) | omega | (simp; omega) | (simp; done))))); rintro e w2 ⟨rfl, hb⟩; (refine mem hb ?_; intro N hN hz hc hf; (try simp at hN); subst hN)))
    go_returns
    refine ⟨rfl, ?_⟩
    (repeat' (first | (with_reducible exact Below.refl _ _) | (with_reducible assumption) | (with_reducible refine Below.alloc ?_ ?_ _) | (with_reducible refine below_drewN ?_ _) | (with_reducible refine Below.drew ?_) | (with_reducible refine Below.setCell ?_ ?_ _) | (with_reducible refine below_via (by assumption) ?_ ?_) | (with_reducible refine below_via (later_below _) ?_ ?_) | (with_reducible exact Nat.le_refl _) | omega | (simp; omega) | (simp; done)))

set_option maxHeartbeats 3200000 in
set_option maxRecDepth 100000 in
theorem formx10 (hk : x.k = 10) : Calls Tryz.prog 99 #[x.v, .int .i64 par] w fun e w' => e = .returned (.bool (feB x par)) ∧ Below w.heap.size w w' := by
  have hF : feB x par = (hasB x false false true (-1) && subjB x) := by unfold feB; rw [if_neg (by omega)]; rw [if_neg (by omega)]; rw [if_neg (by omega)]; rw [if_neg (by omega)]; rw [if_neg (by omega)]; rw [if_neg (by omega)]; rw [if_neg (by omega)]; rw [if_neg (by omega)]; rw [if_neg (by omega)]; rw [if_pos hk]
  rw [hF]
  clear hF
  have d1 : (x.k == 1) = false := by simp; omega
  have d2 : (x.k == 2) = false := by simp; omega
  have d3 : (x.k == 3) = false := by simp; omega
  have d4 : (x.k == 4) = false := by simp; omega
  have d5 : (x.k == 5) = false := by simp; omega
  have d6 : (x.k == 6) = false := by simp; omega
  have d7 : (x.k == 7) = false := by simp; omega
  have d8 : (x.k == 8) = false := by simp; omega
  have d9 : (x.k == 9) = false := by simp; omega
  have d10 : (x.k == 10) = true := by simpa using hk
  obtain ⟨C, hC⟩ : ∃ c, hasB x false false true (-1) = c := ⟨_, rfl⟩
  have HC : Hid (∀ W, Calls Tryz.prog 118 #[x.v, .bool false, .bool false, .bool true, .int .i64 (-1)] W fun e W' => e = .returned (.bool C) ∧ Below W.heap.size W W') := fun W => hC ▸ has_any x false false true (-1) W
  rw [hC]
  obtain ⟨D, hD⟩ : ∃ c, subjB x = c := ⟨_, rfl⟩
  have HD : Hid (∀ W, Below w.heap.size w W → Calls Tryz.prog 119 #[x.v] W fun e W' => e = .returned (.bool D) ∧ Below W.heap.size W W') := fun W hW => hD ▸ subject_any x W (hin.still (still_of hW (Nat.le_refl _)) hW.size)
  rw [hD]
  clear hC hD hk hin
  cases C with
  | false =>
    go_enter Tryz.func99, Tryz.ntmps99
    go_wp2_with (first | (go_at_call 118; (with_reducible refine (HC.out _).mono ?_); rintro e w1 ⟨rfl, hb⟩; (refine mem hb ?_; intro N hN hz hc hf; (try simp at hN); subst hN)))
    go_returns
    refine ⟨rfl, ?_⟩
    (repeat' (first | (with_reducible exact Below.refl _ _) | (with_reducible assumption) | (with_reducible refine Below.alloc ?_ ?_ _) | (with_reducible refine below_drewN ?_ _) | (with_reducible refine Below.drew ?_) | (with_reducible refine Below.setCell ?_ ?_ _) | (with_reducible refine below_via (by assumption) ?_ ?_) | (with_reducible refine below_via (later_below _) ?_ ?_) | (with_reducible exact Nat.le_refl _) | omega | (simp; omega) | (simp; done)))
  | true =>
    go_enter Tryz.func99, Tryz.ntmps99
    go_wp2_with (first | (go_at_call 118; (with_reducible refine (HC.out _).mono ?_); rintro e w1 ⟨rfl, hb⟩; (refine mem hb ?_; intro N hN hz hc hf; (try simp at hN); subst hN)) | (go_at_call 119; (with_reducible refine (HD.out _ ?_).mono ?_); (focus ((repeat' (first | (with_reducible exact Below.refl _ _) | (with_reducible assumption) | (with_reducible refine Below.alloc ?_ ?_ _) | (with_reducible refine below_drewN ?_ _) | (with_reducible refine Below.drew ?_) | (with_reducible refine Below.setCell ?_ ?_ _) | (with_reducible refine below_via (by assumption) ?_ ?_) | (with_reducible refine below_via (later_below _) ?_ ?_) | (with_reducible exact Nat.le_refl _) | omega | (simp; omega) | (simp; done))))); rintro e w2 ⟨rfl, hb⟩; (refine mem hb ?_; intro N hN hz hc hf; (try simp at hN); subst hN)))
    go_returns
    refine ⟨rfl, ?_⟩
    (repeat' (first | (with_reducible exact Below.refl _ _) | (with_reducible assumption) | (with_reducible refine Below.alloc ?_ ?_ _) | (with_reducible refine below_drewN ?_ _) | (with_reducible refine Below.drew ?_) | (with_reducible refine Below.setCell ?_ ?_ _) | (with_reducible refine below_via (by assumption) ?_ ?_) | (with_reducible refine below_via (later_below _) ?_ ?_) | (with_reducible exact Nat.le_refl _) | omega | (simp; omega) | (simp; done)))

omit hin in
set_option maxHeartbeats 3200000 in
set_option maxRecDepth 100000 in
theorem formx11 (hk : x.k = 11) : Calls Tryz.prog 99 #[x.v, .int .i64 par] w fun e w' => e = .returned (.bool (feB x par)) ∧ Below w.heap.size w w' := by
  have hF : feB x par = (hasB x false false false 0 && (x.funcs.length : Int) == 1) := by unfold feB; rw [if_neg (by omega)]; rw [if_neg (by omega)]; rw [if_neg (by omega)]; rw [if_neg (by omega)]; rw [if_neg (by omega)]; rw [if_neg (by omega)]; rw [if_neg (by omega)]; rw [if_neg (by omega)]; rw [if_neg (by omega)]; rw [if_neg (by omega)]; rw [if_pos hk]
  rw [hF]
  clear hF
  have d1 : (x.k == 1) = false := by simp; omega
  have d2 : (x.k == 2) = false := by simp; omega
  have d3 : (x.k == 3) = false := by simp; omega
  have d4 : (x.k == 4) = false := by simp; omega
  have d5 : (x.k == 5) = false := by simp; omega
  have d6 : (x.k == 6) = false := by simp; omega
  have d7 : (x.k == 7) = false := by simp; omega
  have d8 : (x.k == 8) = false := by simp; omega
  have d9 : (x.k == 9) = false := by simp; omega
  have d10 : (x.k == 10) = false := by simp; omega
  have d11 : (x.k == 11) = true := by simpa using hk
  obtain ⟨C, hC⟩ : ∃ c, hasB x false false false (0) = c := ⟨_, rfl⟩
  have HC : Hid (∀ W, Calls Tryz.prog 118 #[x.v, .bool false, .bool false, .bool false, .int .i64 (0)] W fun e W' => e = .returned (.bool C) ∧ Below W.heap.size W W') := fun W => hC ▸ has_any x false false false (0) W
  rw [hC]
  clear hC hk
  cases C with
  | false =>
    go_enter Tryz.func99, Tryz.ntmps99
    go_wp2_with (first | (go_at_call 118; (with_reducible refine (HC.out _).mono ?_); rintro e w1 ⟨rfl, hb⟩; (refine mem hb ?_; intro N hN hz hc hf; (try simp at hN); subst hN)))
    go_returns
    refine ⟨rfl, ?_⟩
    (repeat' (first | (with_reducible exact Below.refl _ _) | (with_reducible assumption) | (with_reducible refine Below.alloc ?_ ?_ _) | (with_reducible refine below_drewN ?_ _) | (with_reducible refine Below.drew ?_) | (with_reducible refine Below.setCell ?_ ?_ _) | (with_reducible refine below_via (by assumption) ?_ ?_) | (with_reducible refine below_via (later_below _) ?_ ?_) | (with_reducible exact Nat.le_refl _) | omega | (simp; omega) | (simp; done)))
  | true =>
    go_enter Tryz.func99, Tryz.ntmps99
    go_wp2_with (first | (go_at_call 118; (with_reducible refine (HC.out _).mono ?_); rintro e w1 ⟨rfl, hb⟩; (refine mem hb ?_; intro N hN hz hc hf; (try simp at hN); subst hN)))
    go_returns
    refine ⟨rfl, ?_⟩
    (repeat' (first | (with_reducible exact Below.refl _ _) | (with_reducible assumption) | (with_reducible refine Below.alloc ?_ ?_ _) | (with_reducible refine below_drewN ?_ _) | (with_reducible refine Below.drew ?_) | (with_reducible refine Below.setCell ?_ ?_ _) | (with_reducible refine below_via (by assumption) ?_ ?_) | (with_reducible refine below_via (later_below _) ?_ ?_) | (with_reducible exact Nat.le_refl _) | omega | (simp; omega) | (simp; done)))

set_option maxHeartbeats 3200000 in
set_option maxRecDepth 100000 in
theorem formx12 (hk : x.k = 12) : Calls Tryz.prog 99 #[x.v, .int .i64 par] w fun e w' => e = .returned (.bool (feB x par)) ∧ Below w.heap.size w w' := by
  have hF : feB x par = (hasB x false false false (-1) && !(x.args.any fun x => x.k != 13 && x.k != 14)) := by unfold feB; rw [if_neg (by omega)]; rw [if_neg (by omega)]; rw [if_neg (by omega)]; rw [if_neg (by omega)]; rw [if_neg (by omega)]; rw [if_neg (by omega)]; rw [if_neg (by omega)]; rw [if_neg (by omega)]; rw [if_neg (by omega)]; rw [if_neg (by omega)]; rw [if_neg (by omega)]; rw [if_pos hk]
  rw [hF]
  clear hF
  have d1 : (x.k == 1) = false := by simp; omega
  have d2 : (x.k == 2) = false := by simp; omega
  have d3 : (x.k == 3) = false := by simp; omega
  have d4 : (x.k == 4) = false := by simp; omega
  have d5 : (x.k == 5) = false := by simp; omega
  have d6 : (x.k == 6) = false := by simp; omega
  have d7 : (x.k == 7) = false := by simp; omega
  have d8 : (x.k == 8) = false := by simp; omega
  have d9 : (x.k == 9) = false := by simp; omega
  have d10 : (x.k == 10) = false := by simp; omega
  have d11 : (x.k == 11) = false := by simp; omega
  have d12 : (x.k == 12) = true := by simpa using hk
  obtain ⟨C, hC⟩ : ∃ c, hasB x false false false (-1) = c := ⟨_, rfl⟩
  have HC : Hid (∀ W, Calls Tryz.prog 118 #[x.v, .bool false, .bool false, .bool false, .int .i64 (-1)] W fun e W' => e = .returned (.bool C) ∧ Below W.heap.size W W') := fun W => hC ▸ has_any x false false false (-1) W
  rw [hC]
  obtain ⟨Q, hQ⟩ : ∃ q, (x.args.any fun x => x.k != 13 && x.k != 14) = q := ⟨_, rfl⟩
  have HP : Hid (∀ W, Below w.heap.size w W → Calls Tryz.prog 94
      #[.slice x.aA x.args.length x.aC, .func (.func 120) #[] #[]] W fun e W' => e = .returned (.bool Q) ∧ Below W.heap.size W W') := fun W hW => by rw [← hQ]; exact containsX_any _ _ expr1_test x.args x.aA x.aC w.heap.size W hin.xs.1 (hin.xs.2.1.still (x8_still (still_of hW (Nat.le_refl _))) (Nat.le_refl _)) hW.size
  rw [hQ]
  clear hC hk hin hQ
  cases C with
  | false =>
    go_enter Tryz.func99, Tryz.ntmps99
    go_wp2_with (first | (go_at_call 94; (with_reducible refine (HP.out _ ?_).mono ?_); (focus ((repeat' (first | (with_reducible exact Below.refl _ _) | (with_reducible assumption) | (with_reducible refine Below.alloc ?_ ?_ _) | (with_reducible refine below_drewN ?_ _) | (with_reducible refine Below.drew ?_) | (with_reducible refine Below.setCell ?_ ?_ _) | (with_reducible refine below_via (by assumption) ?_ ?_) | (with_reducible refine below_via (later_below _) ?_ ?_) | (with_reducible exact Nat.le_refl _) | omega | (simp; omega) | (simp; done))))); rintro e w3 ⟨rfl, hb⟩; (refine mem hb ?_; intro N hN hz hc hf; (try simp at hN); subst hN)) | (go_at_call 118; (with_reducible refine (HC.out _).mono ?_); rintro e w1 ⟨rfl, hb⟩; (refine mem hb ?_; intro N hN hz hc hf; (try simp at hN); subst hN)))
    go_returns
    refine ⟨rfl, ?_⟩
    (repeat' (first | (with_reducible exact Below.refl _ _) | (with_reducible assumption) | (with_reducible refine Below.alloc ?_ ?_ _) | (with_reducible refine below_drewN ?_ _) | (with_reducible refine Below.drew ?_) | (with_reducible refine Below.setCell ?_ ?_ _) | (with_reducible refine below_via (by assumption) ?_ ?_) | (with_reducible refine below_via (later_below _) ?_ ?_) | (with_reducible exact Nat.le_refl _) | omega | (simp; omega) | (simp; done)))
  | true =>
    go_enter Tryz.func99, Tryz.ntmps99
    go_wp2_with (first | (go_at_call 94; (with_reducible refine (HP.out _ ?_).mono ?_); (focus ((repeat' (first | (with_reducible exact Below.refl _ _) | (with_reducible assumption) | (with_reducible refine Below.alloc ?_ ?_ _) | (with_reducible refine below_drewN ?_ _) | (with_reducible refine Below.drew ?_) | (with_reducible refine Below.setCell ?_ ?_ _) | (with_reducible refine below_via (by assumption) ?_ ?_) | (with_reducible refine below_via (later_below _) ?_ ?_) | (with_reducible exact Nat.le_refl _) | omega | (simp; omega) | (simp; done))))); rintro e w3 ⟨rfl, hb⟩; (refine mem hb ?_; intro N hN hz hc hf; (try simp at hN); subst hN)) | (go_at_call 118; (with_reducible refine (HC.out _).mono ?_); rintro e w1 ⟨rfl, hb⟩; (refine mem hb ?_; intro N hN hz hc hf; (try simp at hN); subst hN)))
    go_returns
    refine ⟨rfl, ?_⟩
    (repeat' (first | (with_reducible exact Below.refl _ _) | (with_reducible assumption) | (with_reducible refine Below.alloc ?_ ?_ _) | (with_reducible refine below_drewN ?_ _) | (with_reducible refine Below.drew ?_) | (with_reducible refine Below.setCell ?_ ?_ _) | (with_reducible refine below_via (by assumption) ?_ ?_) | (with_reducible refine below_via (later_below _) ?_ ?_) | (with_reducible exact Nat.le_refl _) | omega | (simp; omega) | (simp; done)))

omit hin in
set_option maxHeartbeats 3200000 in
set_option maxRecDepth 100000 in
theorem formx13 (hk : x.k = 13) : Calls Tryz.prog 99 #[x.v, .int .i64 par] w fun e w' => e = .returned (.bool (feB x par)) ∧ Below w.heap.size w w' := by
  have hF : feB x par = (hasB x false false false 1 && par == 12) := by unfold feB; rw [if_neg (by omega)]; rw [if_neg (by omega)]; rw [if_neg (by omega)]; rw [if_neg (by omega)]; rw [if_neg (by omega)]; rw [if_neg (by omega)]; rw [if_neg (by omega)]; rw [if_neg (by omega)]; rw [if_neg (by omega)]; rw [if_neg (by omega)]; rw [if_neg (by omega)]; rw [if_neg (by omega)]; rw [if_pos hk]
  rw [hF]
  clear hF
  have d1 : (x.k == 1) = false := by simp; omega
  have d2 : (x.k == 2) = false := by simp; omega
  have d3 : (x.k == 3) = false := by simp; omega
  have d4 : (x.k == 4) = false := by simp; omega
  have d5 : (x.k == 5) = false := by simp; omega
  have d6 : (x.k == 6) = false := by simp; omega
  have d7 : (x.k == 7) = false := by simp; omega
  have d8 : (x.k == 8) = false := by simp; omega
  have d9 : (x.k == 9) = false := by simp; omega
  have d10 : (x.k == 10) = false := by simp; omega
  have d11 : (x.k == 11) = false := by simp; omega
  have d12 : (x.k == 12) = false := by simp; omega
  have d13 : (x.k == 13) = true := by simpa using hk
  obtain ⟨C, hC⟩ : ∃ c, hasB x false false false (1) = c := ⟨_, rfl⟩
  have HC : Hid (∀ W, Calls Tryz.prog 118 #[x.v, .bool false, .bool false, .bool false, .int .i64 (1)] W fun e W' => e = .returned (.bool C) ∧ Below W.heap.size W W') := fun W => hC ▸ has_any x false false false (1) W
  rw [hC]
  clear hC hk
  cases C with
  | false =>
    go_enter Tryz.func99, Tryz.ntmps99
    go_wp2_with (first | (go_at_call 118; (with_reducible refine (HC.out _).mono ?_); rintro e w1 ⟨rfl, hb⟩; (refine mem hb ?_; intro N hN hz hc hf; (try simp at hN); subst hN)))
    go_returns
    refine ⟨rfl, ?_⟩
    (repeat' (first | (with_reducible exact Below.refl _ _) | (with_reducible assumption) | (with_reducible refine Below.alloc ?_ ?_ _) | (with_reducible refine below_drewN ?_ _) | (with_reducible refine Below.drew ?_) | (with_reducible refine Below.setCell ?_ ?_ _) | (with_reducible refine below_via (by assumption) ?_ ?_) | (with_reducible refine below_via (later_below _) ?_ ?_) | (with_reducible exact Nat.le_refl _) | omega | (simp; omega) | (simp; done)))
  | true =>
    go_enter Tryz.func99, Tryz.ntmps99
    go_wp2_with (first | (go_at_call 118; (with_reducible refine (HC.out _).mono ?_); rintro e w1 ⟨rfl, hb⟩; (refine mem hb ?_; intro N hN hz hc hf; (try simp at hN); subst hN)))
    go_returns
    refine ⟨rfl, ?_⟩
    (repeat' (first | (with_reducible exact Below.refl _ _) | (with_reducible assumption) | (with_reducible refine Below.alloc ?_ ?_ _) | (with_reducible refine below_drewN ?_ _) | (with_reducible refine Below.drew ?_) | (with_reducible refine Below.setCell ?_ ?_ _) | (with_reducible refine below_via (by assumption) ?_ ?_) | (with_reducible refine below_via (later_below _) ?_ ?_) | (with_reducible exact Nat.le_refl _) | omega | (simp; omega) | (simp; done)))

omit hin in
set_option maxHeartbeats 3200000 in
set_option maxRecDepth 100000 in
theorem formx14 (hk : x.k = 14) : Calls Tryz.prog 99 #[x.v, .int .i64 par] w fun e w' => e = .returned (.bool (feB x par)) ∧ Below w.heap.size w w' := by
  have hF : feB x par = (hasB x false false false 2 && par == 12) := by unfold feB; rw [if_neg (by omega)]; rw [if_neg (by omega)]; rw [if_neg (by omega)]; rw [if_neg (by omega)]; rw [if_neg (by omega)]; rw [if_neg (by omega)]; rw [if_neg (by omega)]; rw [if_neg (by omega)]; rw [if_neg (by omega)]; rw [if_neg (by omega)]; rw [if_neg (by omega)]; rw [if_neg (by omega)]; rw [if_neg (by omega)]; rw [if_pos hk]
  rw [hF]
  clear hF
  have d1 : (x.k == 1) = false := by simp; omega
  have d2 : (x.k == 2) = false := by simp; omega
  have d3 : (x.k == 3) = false := by simp; omega
  have d4 : (x.k == 4) = false := by simp; omega
  have d5 : (x.k == 5) = false := by simp; omega
  have d6 : (x.k == 6) = false := by simp; omega
  have d7 : (x.k == 7) = false := by simp; omega
  have d8 : (x.k == 8) = false := by simp; omega
  have d9 : (x.k == 9) = false := by simp; omega
  have d10 : (x.k == 10) = false := by simp; omega
  have d11 : (x.k == 11) = false := by simp; omega
  have d12 : (x.k == 12) = false := by simp; omega
  have d13 : (x.k == 13) = false := by simp; omega
  have d14 : (x.k == 14) = true := by simpa using hk
  obtain ⟨C, hC⟩ : ∃ c, hasB x false false false (2) = c := ⟨_, rfl⟩
  have HC : Hid (∀ W, Calls Tryz.prog 118 #[x.v, .bool false, .bool false, .bool false, .int .i64 (2)] W fun e W' => e = .returned (.bool C) ∧ Below W.heap.size W W') := fun W => hC ▸ has_any x false false false (2) W
  rw [hC]
  clear hC hk
  cases C with
  | false =>
    go_enter Tryz.func99, Tryz.ntmps99
    go_wp2_with (first | (go_at_call 118; (with_reducible refine (HC.out _).mono ?_); rintro e w1 ⟨rfl, hb⟩; (refine mem hb ?_; intro N hN hz hc hf; (try simp at hN); subst hN)))
    go_returns
    refine ⟨rfl, ?_⟩
    (repeat' (first | (with_reducible exact Below.refl _ _) | (with_reducible assumption) | (with_reducible refine Below.alloc ?_ ?_ _) | (with_reducible refine below_drewN ?_ _) | (with_reducible refine Below.drew ?_) | (with_reducible refine Below.setCell ?_ ?_ _) | (with_reducible refine below_via (by assumption) ?_ ?_) | (with_reducible refine below_via (later_below _) ?_ ?_) | (with_reducible exact Nat.le_refl _) | omega | (simp; omega) | (simp; done)))
  | true =>
    go_enter Tryz.func99, Tryz.ntmps99
    go_wp2_with (first | (go_at_call 118; (with_reducible refine (HC.out _).mono ?_); rintro e w1 ⟨rfl, hb⟩; (refine mem hb ?_; intro N hN hz hc hf; (try simp at hN); subst hN)))
    go_returns
    refine ⟨rfl, ?_⟩
    (repeat' (first | (with_reducible exact Below.refl _ _) | (with_reducible assumption) | (with_reducible refine Below.alloc ?_ ?_ _) | (with_reducible refine below_drewN ?_ _) | (with_reducible refine Below.drew ?_) | (with_reducible refine Below.setCell ?_ ?_ _) | (with_reducible refine below_via (by assumption) ?_ ?_) | (with_reducible refine below_via (later_below _) ?_ ?_) | (with_reducible exact Nat.le_refl _) | omega | (simp; omega) | (simp; done)))

omit hin in
set_option maxHeartbeats 3200000 in
set_option maxRecDepth 100000 in
theorem formx15 (hk : x.k = 15) : Calls Tryz.prog 99 #[x.v, .int .i64 par] w fun e w' => e = .returned (.bool (feB x par)) ∧ Below w.heap.size w w' := by
  have hF : feB x par = (hasB x true false false 1 && (decide (20 ≤ x.op) && decide (x.op ≤ 23))) := by unfold feB; rw [if_neg (by omega)]; rw [if_neg (by omega)]; rw [if_neg (by omega)]; rw [if_neg (by omega)]; rw [if_neg (by omega)]; rw [if_neg (by omega)]; rw [if_neg (by omega)]; rw [if_neg (by omega)]; rw [if_neg (by omega)]; rw [if_neg (by omega)]; rw [if_neg (by omega)]; rw [if_neg (by omega)]; rw [if_neg (by omega)]; rw [if_neg (by omega)]; rw [if_pos hk]
  rw [hF]
  clear hF
  have d1 : (x.k == 1) = false := by simp; omega
  have d2 : (x.k == 2) = false := by simp; omega
  have d3 : (x.k == 3) = false := by simp; omega
  have d4 : (x.k == 4) = false := by simp; omega
  have d5 : (x.k == 5) = false := by simp; omega
  have d6 : (x.k == 6) = false := by simp; omega
  have d7 : (x.k == 7) = false := by simp; omega
  have d8 : (x.k == 8) = false := by simp; omega
  have d9 : (x.k == 9) = false := by simp; omega
  have d10 : (x.k == 10) = false := by simp; omega
  have d11 : (x.k == 11) = false := by simp; omega
  have d12 : (x.k == 12) = false := by simp; omega
  have d13 : (x.k == 13) = false := by simp; omega
  have d14 : (x.k == 14) = false := by simp; omega
  have d15 : (x.k == 15) = true := by simpa using hk
  obtain ⟨C, hC⟩ : ∃ c, hasB x true false false (1) = c := ⟨_, rfl⟩
  have HC : Hid (∀ W, Calls Tryz.prog 118 #[x.v, .bool true, .bool false, .bool false, .int .i64 (1)] W fun e W' => e = .returned (.bool C) ∧ Below W.heap.size W W') := fun W => hC ▸ has_any x true false false (1) W
  rw [hC]
  clear hC hk
  cases C with
  | false =>
    go_enter Tryz.func99, Tryz.ntmps99
    go_wp2_with (first | (go_at_call 118; (with_reducible refine (HC.out _).mono ?_); rintro e w1 ⟨rfl, hb⟩; (refine mem hb ?_; intro N hN hz hc hf; (try simp at hN); subst hN)))
    go_returns
    refine ⟨rfl, ?_⟩
    (repeat' (first | (with_reducible exact Below.refl _ _) | (with_reducible assumption) | (with_reducible refine Below.alloc ?_ ?_ _) | (with_reducible refine below_drewN ?_ _) | (with_reducible refine Below.drew ?_) | (with_reducible refine Below.setCell ?_ ?_ _) | (with_reducible refine below_via (by assumption) ?_ ?_) | (with_reducible refine below_via (later_below _) ?_ ?_) | (with_reducible exact Nat.le_refl _) | omega | (simp; omega) | (simp; done)))
  | true =>
    cases h5 : (decide (20 ≤ x.op)) with
    | false =>
      have h6 : ¬ 20 ≤ x.op := of_decide_eq_false h5
      go_enter Tryz.func99, Tryz.ntmps99
      go_wp2_with (first | (go_at_call 118; (with_reducible refine (HC.out _).mono ?_); rintro e w1 ⟨rfl, hb⟩; (refine mem hb ?_; intro N hN hz hc hf; (try simp at hN); subst hN)))
      go_returns
      refine ⟨rfl, ?_⟩
      (repeat' (first | (with_reducible exact Below.refl _ _) | (with_reducible assumption) | (with_reducible refine Below.alloc ?_ ?_ _) | (with_reducible refine below_drewN ?_ _) | (with_reducible refine Below.drew ?_) | (with_reducible refine Below.setCell ?_ ?_ _) | (with_reducible refine below_via (by assumption) ?_ ?_) | (with_reducible refine below_via (later_below _) ?_ ?_) | (with_reducible exact Nat.le_refl _) | omega | (simp; omega) | (simp; done)))
    | true =>
      have h6 : 20 ≤ x.op := of_decide_eq_true h5
      go_enter Tryz.func99, Tryz.ntmps99
      go_wp2_with (first | (go_at_call 118; (with_reducible refine (HC.out _).mono ?_); rintro e w1 ⟨rfl, hb⟩; (refine mem hb ?_; intro N hN hz hc hf; (try simp at hN); subst hN)))
      go_returns
      refine ⟨rfl, ?_⟩
      (repeat' (first | (with_reducible exact Below.refl _ _) | (with_reducible assumption) | (with_reducible refine Below.alloc ?_ ?_ _) | (with_reducible refine below_drewN ?_ _) | (with_reducible refine Below.drew ?_) | (with_reducible refine Below.setCell ?_ ?_ _) | (with_reducible refine below_via (by assumption) ?_ ?_) | (with_reducible refine below_via (later_below _) ?_ ?_) | (with_reducible exact Nat.le_refl _) | omega | (simp; omega) | (simp; done)))

omit hin in
set_option maxHeartbeats 3200000 in
set_option maxRecDepth 100000 in
theorem formx16 (hk : x.k = 16) : Calls Tryz.prog 99 #[x.v, .int .i64 par] w fun e w' => e = .returned (.bool (feB x par)) ∧ Below w.heap.size w w' := by
  have hF : feB x par = (hasB x true false false 2 && (decide (1 ≤ x.op) && decide (x.op ≤ 19))) := by unfold feB; rw [if_neg (by omega)]; rw [if_neg (by omega)]; rw [if_neg (by omega)]; rw [if_neg (by omega)]; rw [if_neg (by omega)]; rw [if_neg (by omega)]; rw [if_neg (by omega)]; rw [if_neg (by omega)]; rw [if_neg (by omega)]; rw [if_neg (by omega)]; rw [if_neg (by omega)]; rw [if_neg (by omega)]; rw [if_neg (by omega)]; rw [if_neg (by omega)]; rw [if_neg (by omega)]; rw [if_pos hk]
  rw [hF]
  clear hF
  have d1 : (x.k == 1) = false := by simp; omega
  have d2 : (x.k == 2) = false := by simp; omega
  have d3 : (x.k == 3) = false := by simp; omega
  have d4 : (x.k == 4) = false := by simp; omega
  have d5 : (x.k == 5) = false := by simp; omega
  have d6 : (x.k == 6) = false := by simp; omega
  have d7 : (x.k == 7) = false := by simp; omega
  have d8 : (x.k == 8) = false := by simp; omega
  have d9 : (x.k == 9) = false := by simp; omega
  have d10 : (x.k == 10) = false := by simp; omega
  have d11 : (x.k == 11) = false := by simp; omega
  have d12 : (x.k == 12) = false := by simp; omega
  have d13 : (x.k == 13) = false := by simp; omega
  have d14 : (x.k == 14) = false := by simp; omega
  have d15 : (x.k == 15) = false := by simp; omega
  have d16 : (x.k == 16) = true := by simpa using hk
  obtain ⟨C, hC⟩ : ∃ c, hasB x true false false (2) = c := ⟨_, rfl⟩
  have HC : Hid (∀ W, Calls Tryz.prog 118 #[x.v, .bool true, .bool false, .bool false, .int .i64 (2)] W fun e W' => e = .returned (.bool C) ∧ Below W.heap.size W W') := fun W => hC ▸ has_any x true false false (2) W
  rw [hC]
  clear hC hk
  cases C with
  | false =>
    go_enter Tryz.func99, Tryz.ntmps99
    go_wp2_with (first | (go_at_call 118; (with_reducible refine (HC.out _).mono ?_); rintro e w1 ⟨rfl, hb⟩; (refine mem hb ?_; intro N hN hz hc hf; (try simp at hN); subst hN)))
    go_returns
    refine ⟨rfl, ?_⟩
    (repeat' (first | (with_reducible exact Below.refl _ _) | (with_reducible assumption) | (with_reducible refine Below.alloc ?_ ?_ _) | (with_reducible refine below_drewN ?_ _) | (with_reducible refine Below.drew ?_) | (with_reducible refine Below.setCell ?_ ?_ _) | (with_reducible refine below_via (by assumption) ?_ ?_) | (with_reducible refine below_via (later_below _) ?_ ?_) | (with_reducible exact Nat.le_refl _) | omega | (simp; omega) | (simp; done)))
  | true =>
    cases h5 : (decide (1 ≤ x.op)) with
    | false =>
      have h6 : ¬ 1 ≤ x.op := of_decide_eq_false h5
      go_enter Tryz.func99, Tryz.ntmps99
      go_wp2_with (first | (go_at_call 118; (with_reducible refine (HC.out _).mono ?_); rintro e w1 ⟨rfl, hb⟩; (refine mem hb ?_; intro N hN hz hc hf; (try simp at hN); subst hN)))
      go_returns
      refine ⟨rfl, ?_⟩
      (repeat' (first | (with_reducible exact Below.refl _ _) | (with_reducible assumption) | (with_reducible refine Below.alloc ?_ ?_ _) | (with_reducible refine below_drewN ?_ _) | (with_reducible refine Below.drew ?_) | (with_reducible refine Below.setCell ?_ ?_ _) | (with_reducible refine below_via (by assumption) ?_ ?_) | (with_reducible refine below_via (later_below _) ?_ ?_) | (with_reducible exact Nat.le_refl _) | omega | (simp; omega) | (simp; done)))
    | true =>
      have h6 : 1 ≤ x.op := of_decide_eq_true h5
      go_enter Tryz.func99, Tryz.ntmps99
      go_wp2_with (first | (go_at_call 118; (with_reducible refine (HC.out _).mono ?_); rintro e w1 ⟨rfl, hb⟩; (refine mem hb ?_; intro N hN hz hc hf; (try simp at hN); subst hN)))
      go_returns
      refine ⟨rfl, ?_⟩
      (repeat' (first | (with_reducible exact Below.refl _ _) | (with_reducible assumption) | (with_reducible refine Below.alloc ?_ ?_ _) | (with_reducible refine below_drewN ?_ _) | (with_reducible refine Below.drew ?_) | (with_reducible refine Below.setCell ?_ ?_ _) | (with_reducible refine below_via (by assumption) ?_ ?_) | (with_reducible refine below_via (later_below _) ?_ ?_) | (with_reducible exact Nat.le_refl _) | omega | (simp; omega) | (simp; done)))

omit hin in
set_option maxHeartbeats 3200000 in
set_option maxRecDepth 100000 in
theorem formx17 (hk : x.k = 17) : Calls Tryz.prog 99 #[x.v, .int .i64 par] w fun e w' => e = .returned (.bool (feB x par)) ∧ Below w.heap.size w w' := by
  have hF : feB x par = (hasB x false false false 2) := by unfold feB; rw [if_neg (by omega)]; rw [if_neg (by omega)]; rw [if_neg (by omega)]; rw [if_neg (by omega)]; rw [if_neg (by omega)]; rw [if_neg (by omega)]; rw [if_neg (by omega)]; rw [if_neg (by omega)]; rw [if_neg (by omega)]; rw [if_neg (by omega)]; rw [if_neg (by omega)]; rw [if_neg (by omega)]; rw [if_neg (by omega)]; rw [if_neg (by omega)]; rw [if_neg (by omega)]; rw [if_neg (by omega)]; rw [if_pos hk]
  rw [hF]
  clear hF
  have d1 : (x.k == 1) = false := by simp; omega
  have d2 : (x.k == 2) = false := by simp; omega
  have d3 : (x.k == 3) = false := by simp; omega
  have d4 : (x.k == 4) = false := by simp; omega
  have d5 : (x.k == 5) = false := by simp; omega
  have d6 : (x.k == 6) = false := by simp; omega
  have d7 : (x.k == 7) = false := by simp; omega
  have d8 : (x.k == 8) = false := by simp; omega
  have d9 : (x.k == 9) = false := by simp; omega
  have d10 : (x.k == 10) = false := by simp; omega
  have d11 : (x.k == 11) = false := by simp; omega
  have d12 : (x.k == 12) = false := by simp; omega
  have d13 : (x.k == 13) = false := by simp; omega
  have d14 : (x.k == 14) = false := by simp; omega
  have d15 : (x.k == 15) = false := by simp; omega
  have d16 : (x.k == 16) = false := by simp; omega
  have d17 : (x.k == 17) = true := by simpa using hk
  obtain ⟨C, hC⟩ : ∃ c, hasB x false false false (2) = c := ⟨_, rfl⟩
  have HC : Hid (∀ W, Calls Tryz.prog 118 #[x.v, .bool false, .bool false, .bool false, .int .i64 (2)] W fun e W' => e = .returned (.bool C) ∧ Below W.heap.size W W') := fun W => hC ▸ has_any x false false false (2) W
  rw [hC]
  clear hC hk
  cases C with
  | false =>
    go_enter Tryz.func99, Tryz.ntmps99
    go_wp2_with (first | (go_at_call 118; (with_reducible refine (HC.out _).mono ?_); rintro e w1 ⟨rfl, hb⟩; (refine mem hb ?_; intro N hN hz hc hf; (try simp at hN); subst hN)))
    go_returns
    refine ⟨rfl, ?_⟩
    (repeat' (first | (with_reducible exact Below.refl _ _) | (with_reducible assumption) | (with_reducible refine Below.alloc ?_ ?_ _) | (with_reducible refine below_drewN ?_ _) | (with_reducible refine Below.drew ?_) | (with_reducible refine Below.setCell ?_ ?_ _) | (with_reducible refine below_via (by assumption) ?_ ?_) | (with_reducible refine below_via (later_below _) ?_ ?_) | (with_reducible exact Nat.le_refl _) | omega | (simp; omega) | (simp; done)))
  | true =>
    go_enter Tryz.func99, Tryz.ntmps99
    go_wp2_with (first | (go_at_call 118; (with_reducible refine (HC.out _).mono ?_); rintro e w1 ⟨rfl, hb⟩; (refine mem hb ?_; intro N hN hz hc hf; (try simp at hN); subst hN)))
    go_returns
    refine ⟨rfl, ?_⟩
    (repeat' (first | (with_reducible exact Below.refl _ _) | (with_reducible assumption) | (with_reducible refine Below.alloc ?_ ?_ _) | (with_reducible refine below_drewN ?_ _) | (with_reducible refine Below.drew ?_) | (with_reducible refine Below.setCell ?_ ?_ _) | (with_reducible refine below_via (by assumption) ?_ ?_) | (with_reducible refine below_via (later_below _) ?_ ?_) | (with_reducible exact Nat.le_refl _) | omega | (simp; omega) | (simp; done)))

omit hin in
set_option maxHeartbeats 3200000 in
set_option maxRecDepth 100000 in
theorem formx18 (hk : x.k = 18) : Calls Tryz.prog 99 #[x.v, .int .i64 par] w fun e w' => e = .returned (.bool (feB x par)) ∧ Below w.heap.size w w' := by
  have hF : feB x par = (hasB x false false false 2) := by unfold feB; rw [if_neg (by omega)]; rw [if_neg (by omega)]; rw [if_neg (by omega)]; rw [if_neg (by omega)]; rw [if_neg (by omega)]; rw [if_neg (by omega)]; rw [if_neg (by omega)]; rw [if_neg (by omega)]; rw [if_neg (by omega)]; rw [if_neg (by omega)]; rw [if_neg (by omega)]; rw [if_neg (by omega)]; rw [if_neg (by omega)]; rw [if_neg (by omega)]; rw [if_neg (by omega)]; rw [if_neg (by omega)]; rw [if_neg (by omega)]; rw [if_pos hk]
  rw [hF]
  clear hF
  have d1 : (x.k == 1) = false := by simp; omega
  have d2 : (x.k == 2) = false := by simp; omega
  have d3 : (x.k == 3) = false := by simp; omega
  have d4 : (x.k == 4) = false := by simp; omega
  have d5 : (x.k == 5) = false := by simp; omega
  have d6 : (x.k == 6) = false := by simp; omega
  have d7 : (x.k == 7) = false := by simp; omega
  have d8 : (x.k == 8) = false := by simp; omega
  have d9 : (x.k == 9) = false := by simp; omega
  have d10 : (x.k == 10) = false := by simp; omega
  have d11 : (x.k == 11) = false := by simp; omega
  have d12 : (x.k == 12) = false := by simp; omega
  have d13 : (x.k == 13) = false := by simp; omega
  have d14 : (x.k == 14) = false := by simp; omega
  have d15 : (x.k == 15) = false := by simp; omega
  have d16 : (x.k == 16) = false := by simp; omega
  have d17 : (x.k == 17) = false := by simp; omega
  have d18 : (x.k == 18) = true := by simpa using hk
  obtain ⟨C, hC⟩ : ∃ c, hasB x false false false (2) = c := ⟨_, rfl⟩
  have HC : Hid (∀ W, Calls Tryz.prog 118 #[x.v, .bool false, .bool false, .bool false, .int .i64 (2)] W fun e W' => e = .returned (.bool C) ∧ Below W.heap.size W W') := fun W => hC ▸ has_any x false false false (2) W
  rw [hC]
  clear hC hk
  cases C with
  | false =>
    go_enter Tryz.func99, Tryz.ntmps99
    go_wp2_with (first | (go_at_call 118; (with_reducible refine (HC.out _).mono ?_); rintro e w1 ⟨rfl, hb⟩; (refine mem hb ?_; intro N hN hz hc hf; (try simp at hN); subst hN)))
    go_returns
    refine ⟨rfl, ?_⟩
    (repeat' (first | (with_reducible exact Below.refl _ _) | (with_reducible assumption) | (with_reducible refine Below.alloc ?_ ?_ _) | (with_reducible refine below_drewN ?_ _) | (with_reducible refine Below.drew ?_) | (with_reducible refine Below.setCell ?_ ?_ _) | (with_reducible refine below_via (by assumption) ?_ ?_) | (with_reducible refine below_via (later_below _) ?_ ?_) | (with_reducible exact Nat.le_refl _) | omega | (simp; omega) | (simp; done)))
  | true =>
    go_enter Tryz.func99, Tryz.ntmps99
    go_wp2_with (first | (go_at_call 118; (with_reducible refine (HC.out _).mono ?_); rintro e w1 ⟨rfl, hb⟩; (refine mem hb ?_; intro N hN hz hc hf; (try simp at hN); subst hN)))
    go_returns
    refine ⟨rfl, ?_⟩
    (repeat' (first | (with_reducible exact Below.refl _ _) | (with_reducible assumption) | (with_reducible refine Below.alloc ?_ ?_ _) | (with_reducible refine below_drewN ?_ _) | (with_reducible refine Below.drew ?_) | (with_reducible refine Below.setCell ?_ ?_ _) | (with_reducible refine below_via (by assumption) ?_ ?_) | (with_reducible refine below_via (later_below _) ?_ ?_) | (with_reducible exact Nat.le_refl _) | omega | (simp; omega) | (simp; done)))

set_option maxHeartbeats 3200000 in
set_option maxRecDepth 100000 in
theorem formx19 (hk : x.k = 19) : Calls Tryz.prog 99 #[x.v, .int .i64 par] w fun e w' => e = .returned (.bool (feB x par)) ∧ Below w.heap.size w w' := by
  have hF : feB x par = (hasB x false false false 1 && (x.args.head?.map multiB).getD false) := by unfold feB; rw [if_neg (by omega)]; rw [if_neg (by omega)]; rw [if_neg (by omega)]; rw [if_neg (by omega)]; rw [if_neg (by omega)]; rw [if_neg (by omega)]; rw [if_neg (by omega)]; rw [if_neg (by omega)]; rw [if_neg (by omega)]; rw [if_neg (by omega)]; rw [if_neg (by omega)]; rw [if_neg (by omega)]; rw [if_neg (by omega)]; rw [if_neg (by omega)]; rw [if_neg (by omega)]; rw [if_neg (by omega)]; rw [if_neg (by omega)]; rw [if_neg (by omega)]; rw [if_pos hk]
  rw [hF]
  clear hF
  have d1 : (x.k == 1) = false := by simp; omega
  have d2 : (x.k == 2) = false := by simp; omega
  have d3 : (x.k == 3) = false := by simp; omega
  have d4 : (x.k == 4) = false := by simp; omega
  have d5 : (x.k == 5) = false := by simp; omega
  have d6 : (x.k == 6) = false := by simp; omega
  have d7 : (x.k == 7) = false := by simp; omega
  have d8 : (x.k == 8) = false := by simp; omega
  have d9 : (x.k == 9) = false := by simp; omega
  have d10 : (x.k == 10) = false := by simp; omega
  have d11 : (x.k == 11) = false := by simp; omega
  have d12 : (x.k == 12) = false := by simp; omega
  have d13 : (x.k == 13) = false := by simp; omega
  have d14 : (x.k == 14) = false := by simp; omega
  have d15 : (x.k == 15) = false := by simp; omega
  have d16 : (x.k == 16) = false := by simp; omega
  have d17 : (x.k == 17) = false := by simp; omega
  have d18 : (x.k == 18) = false := by simp; omega
  have d19 : (x.k == 19) = true := by simpa using hk
  obtain ⟨C, hC⟩ : ∃ c, hasB x false false false (1) = c := ⟨_, rfl⟩
  have HC : Hid (∀ W, Calls Tryz.prog 118 #[x.v, .bool false, .bool false, .bool false, .int .i64 (1)] W fun e W' => e = .returned (.bool C) ∧ Below W.heap.size W W') := fun W => hC ▸ has_any x false false false (1) W
  rw [hC]
  cases C with
  | false =>
    clear hC hin hk
    go_enter Tryz.func99, Tryz.ntmps99
    go_wp2_with (first | (go_at_call 118; (with_reducible refine (HC.out _).mono ?_); rintro e w1 ⟨rfl, hb⟩; (refine mem hb ?_; intro N hN hz hc hf; (try simp at hN); subst hN)))
    go_returns
    refine ⟨rfl, ?_⟩
    (repeat' (first | (with_reducible exact Below.refl _ _) | (with_reducible assumption) | (with_reducible refine Below.alloc ?_ ?_ _) | (with_reducible refine below_drewN ?_ _) | (with_reducible refine Below.drew ?_) | (with_reducible refine Below.setCell ?_ ?_ _) | (with_reducible refine below_via (by assumption) ?_ ?_) | (with_reducible refine below_via (later_below _) ?_ ?_) | (with_reducible exact Nat.le_refl _) | omega | (simp; omega) | (simp; done)))
  | true =>
    have hr1 := has_args hC
    obtain ⟨br, or_, hra, hbr, hcx, -⟩ := hin.xs.at_ (k := 0) (by omega)
    obtain ⟨y, hy⟩ : ∃ y, x.args[0] = y := ⟨_, rfl⟩
    have hf : (x.args.head?.map multiB).getD false = multiB y := by rw [← hy]; exact firstM_at _ _
    rw [hf]
    rw [hy, Nat.zero_mul, Nat.add_zero] at hcx
    obtain ⟨c0, c1, c2, c3, c4, c5, c6, c7⟩ := hcx
    simp only [TX.v, hra, hr1] at HC
    have HM : Hid (∀ W, Calls Tryz.prog 15 #[y.v] W fun e W' => e = .returned (.bool (multiB y)) ∧ Below W.heap.size W W') := fun W => multi_any y W
    obtain ⟨M, hM⟩ : ∃ m, multiB y = m := ⟨_, rfl⟩
    rw [hM] at HM ⊢
    clear hC hin hk hy hf hM
    go_enter Tryz.func99, Tryz.ntmps99
    go_wp2_with (first | (go_at_call 118; (with_reducible refine (HC.out _).mono ?_); rintro e w1 ⟨rfl, hb⟩; (refine mem hb ?_; intro N hN hz hc hf; (try simp at hN); subst hN)) | (go_at_call 15; (with_reducible refine (HM.out _).mono ?_); rintro e w3 ⟨rfl, hb⟩; (refine mem hb ?_; intro N hN hz hc hf; (try simp at hN); subst hN)))
    go_returns
    refine ⟨rfl, ?_⟩
    (repeat' (first | (with_reducible exact Below.refl _ _) | (with_reducible assumption) | (with_reducible refine Below.alloc ?_ ?_ _) | (with_reducible refine below_drewN ?_ _) | (with_reducible refine Below.drew ?_) | (with_reducible refine Below.setCell ?_ ?_ _) | (with_reducible refine below_via (by assumption) ?_ ?_) | (with_reducible refine below_via (later_below _) ?_ ?_) | (with_reducible exact Nat.le_refl _) | omega | (simp; omega) | (simp; done)))

omit hin in
set_option maxHeartbeats 3200000 in
set_option maxRecDepth 100000 in
theorem formx_out (hk : x.k < 1 ∨ 19 < x.k) : Calls Tryz.prog 99 #[x.v, .int .i64 par] w fun e w' => e = .returned (.bool (feB x par)) ∧ Below w.heap.size w w' := by
  have hF : feB x par = false := by unfold feB; repeat (rw [if_neg (by omega)])
  rw [hF]
  clear hF
  have d1 : (x.k == 1) = false := by simp; omega
  have d2 : (x.k == 2) = false := by simp; omega
  have d3 : (x.k == 3) = false := by simp; omega
  have d4 : (x.k == 4) = false := by simp; omega
  have d5 : (x.k == 5) = false := by simp; omega
  have d6 : (x.k == 6) = false := by simp; omega
  have d7 : (x.k == 7) = false := by simp; omega
  have d8 : (x.k == 8) = false := by simp; omega
  have d9 : (x.k == 9) = false := by simp; omega
  have d10 : (x.k == 10) = false := by simp; omega
  have d11 : (x.k == 11) = false := by simp; omega
  have d12 : (x.k == 12) = false := by simp; omega
  have d13 : (x.k == 13) = false := by simp; omega
  have d14 : (x.k == 14) = false := by simp; omega
  have d15 : (x.k == 15) = false := by simp; omega
  have d16 : (x.k == 16) = false := by simp; omega
  have d17 : (x.k == 17) = false := by simp; omega
  have d18 : (x.k == 18) = false := by simp; omega
  have d19 : (x.k == 19) = false := by simp; omega
  clear hk
  go_enter Tryz.func99, Tryz.ntmps99
  go_wp2_with fail
  go_returns
  exact ⟨rfl, by (repeat' (first | (with_reducible exact Below.refl _ _) | (with_reducible assumption) | (with_reducible refine Below.alloc ?_ ?_ _) | (with_reducible refine below_drewN ?_ _) | (with_reducible refine Below.drew ?_) | (with_reducible refine Below.setCell ?_ ?_ _) | (with_reducible refine below_via (by assumption) ?_ ?_) | (with_reducible refine below_via (later_below _) ?_ ?_) | (with_reducible exact Nat.le_refl _) | omega | (simp; omega) | (simp; done)))⟩
theorem formExpr_any : Calls Tryz.prog 99 #[x.v, .int .i64 par] w fun e w' => e = .returned (.bool (feB x par)) ∧ Below w.heap.size w w' := by
  by_cases h : x.k < 1 ∨ 19 < x.k
  · exact formx_out x par w h
  by_cases h1 : x.k = 1
  · exact formx1 x par w h1
  by_cases h2 : x.k = 2
  · exact formx2 x par w h2
  by_cases h3 : x.k = 3
  · exact formx3 x par w h3
  by_cases h4 : x.k = 4
  · exact formx4 x par w hin h4
  by_cases h5 : x.k = 5
  · exact formx5 x par w h5
  by_cases h6 : x.k = 6
  · exact formx6 x par w h6
  by_cases h7 : x.k = 7
  · exact formx7 x par w h7
  by_cases h8 : x.k = 8
  · exact formx8 x par w hin h8
  by_cases h9 : x.k = 9
  · exact formx9 x par w hin h9
  by_cases h10 : x.k = 10
  · exact formx10 x par w hin h10
  by_cases h11 : x.k = 11
  · exact formx11 x par w h11
  by_cases h12 : x.k = 12
  · exact formx12 x par w hin h12
  by_cases h13 : x.k = 13
  · exact formx13 x par w h13
  by_cases h14 : x.k = 14
  · exact formx14 x par w h14
  by_cases h15 : x.k = 15
  · exact formx15 x par w h15
  by_cases h16 : x.k = 16
  · exact formx16 x par w h16
  by_cases h17 : x.k = 17
  · exact formx17 x par w h17
  by_cases h18 : x.k = 18
  · exact formx18 x par w h18
  by_cases h19 : x.k = 19
  · exact formx19 x par w hin h19
  omega
end
end Go.Proofs.YtplphejillkdeaaGreatDoor
