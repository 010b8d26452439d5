/- The reference's form, kind by kind. -/
import Derived.Test.YthkpggpnbdedjaaGreatMTrRb
namespace Go.Proofs.YthkpggpnbdedjaaGreat
open Go.RowKit Go.Instr
set_option linter.unusedVariables false

/-- An expression that has nothing but what is given. -/
abbrev wantX (op p q : Int) (s : ByteArray) (aA : Option Addr) (aC : Nat) (args : List TX) (fA : Option Addr) (fC : Nat) (funcs : List TF) : TX := ⟨0, op, 0, p, q, s, aA, aC, args, fA, fC, funcs⟩
theorem only_arg {x : TX} {op p q : Int} {s : ByteArray} {a1 fA : Option Addr} {c1 fC : Nat} {args : List TX} {funcs : List TF} (h : onlyB x (wantX op p q s a1 c1 args fA fC funcs) = true) : x.args.length = args.length := by
  unfold onlyB at h
  simp only [Bool.and_eq_true, beq_iff_eq] at h
  omega
section
variable (x : TX) (inn : Bool) (an : Option Addr) (cn : Nat) (names : List ByteArray) (N : Nat) (w : World) (hin : InX w w.heap.size x)
  (hsn : Slc an names.length cn) (hn : PsAt w N an names) (hN : N ≤ w.heap.size) (hz : ∀ s ∈ names, s.size ≤ 9223372036854775807)
include hin

set_option maxHeartbeats 3200000 in
set_option maxRecDepth 100000 in
theorem rfm1 (hk : x.k = 1) (hl : 0 ≤ x.ln) : Calls Tryz.prog 76 #[x.v, .bool inn, .slice an names.length cn] w fun e w' => e = .returned (.bool (onlyB x (wantX 0 0 0 ⟨#[]⟩ none 0 [] none 0 []))) ∧ Below w.heap.size w w' := by
  have dl : decide (x.ln < 0) = false := decide_eq_false (by omega)
  have d2 : (x.k == 2) = false := by simp; omega
  have d3 : (x.k == 3) = false := by simp; omega
  have d4 : (x.k == 4) = false := by simp; omega
  have d5 : (x.k == 5) = false := by simp; omega
  have d6 : (x.k == 6) = false := by simp; omega
  have d7 : (x.k == 7) = false := by simp; omega
  have d8 : (x.k == 8) = false := by simp; omega
  have d9 : (x.k == 9) = false := by simp; omega
  have d10 : (x.k == 10) = false := by simp; omega
  have d11 : (x.k == 11) = false := by simp; omega
  have d12 : (x.k == 12) = false := by simp; omega
  have d13 : (x.k == 13) = false := by simp; omega
  have d14 : (x.k == 14) = false := by simp; omega
  have d15 : (x.k == 15) = false := by simp; omega
  have d16 : (x.k == 16) = false := by simp; omega
  have d17 : (x.k == 17) = false := by simp; omega
  have d18 : (x.k == 18) = false := by simp; omega
  have d19 : (x.k == 19) = false := by simp; omega
  have d1 : (x.k == 1) = true := by simpa using hk
  have h0 := ((inX_iff x).1 hin).1
  have g1 := h0.ai.1
  have g2 := h0.ai.2.1
  have g3 := h0.fi.1
  have g4 := h0.fi.2.1
  have g5 : (x.args.length : Int) ≤ 9223372036854775807 := by omega
  have g6 : (x.funcs.length : Int) ≤ 9223372036854775807 := by omega
  clear g1 g2 g3 g4
  obtain ⟨C, hC⟩ : ∃ c, onlyB x (wantX 0 0 0 ⟨#[]⟩ none 0 [] none 0 []) = c := ⟨_, rfl⟩
  have HC : Hid (∀ W, Calls Tryz.prog 98 #[x.v, .agg #[.int .i64 0, .int .i64 0, .int .i64 0, .int .i64 0, .int .i64 0, .string ⟨#[]⟩, .slice none 0 0, .slice none 0 0]] W fun e W' => e = .returned (.bool C) ∧ Below W.heap.size W W') := fun W => hC ▸ ronly_any x (wantX 0 0 0 ⟨#[]⟩ none 0 [] none 0 []) W
  rw [hC]
  clear hC hk hl h0
  clear hin
  cases C with
  | false =>
    go_enter Tryz.func76, Tryz.ntmps76
    go_wp2_with (first | (go_at_call 98; (with_reducible refine (HC.out _).mono ?_); rintro e w1 ⟨rfl, hb⟩; (refine mem hb ?_; intro N hN hz hc hf; (try simp at hN); subst hN)))
    go_returns
    refine ⟨rfl, ?_⟩
    (repeat' (first | (with_reducible exact Below.refl _ _) | (with_reducible assumption) | (with_reducible refine Below.alloc ?_ ?_ _) | (with_reducible refine below_drewN ?_ _) | (with_reducible refine Below.drew ?_) | (with_reducible refine Below.setCell ?_ ?_ _) | (with_reducible refine below_via (by assumption) ?_ ?_) | (with_reducible refine below_via (later_below _) ?_ ?_) | (with_reducible exact Nat.le_refl _) | omega | (simp; omega) | (simp; done)))
  | true =>
    go_enter Tryz.func76, Tryz.ntmps76
    go_wp2_with (first | (go_at_call 98; (with_reducible refine (HC.out _).mono ?_); rintro e w1 ⟨rfl, hb⟩; (refine mem hb ?_; intro N hN hz hc hf; (try simp at hN); subst hN)))
    go_returns
    refine ⟨rfl, ?_⟩
    (repeat' (first | (with_reducible exact Below.refl _ _) | (with_reducible assumption) | (with_reducible refine Below.alloc ?_ ?_ _) | (with_reducible refine below_drewN ?_ _) | (with_reducible refine Below.drew ?_) | (with_reducible refine Below.setCell ?_ ?_ _) | (with_reducible refine below_via (by assumption) ?_ ?_) | (with_reducible refine below_via (later_below _) ?_ ?_) | (with_reducible exact Nat.le_refl _) | omega | (simp; omega) | (simp; done)))

set_option maxHeartbeats 3200000 in
set_option maxRecDepth 100000 in
theorem rfm2 (hk : x.k = 2) (hl : 0 ≤ x.ln) : Calls Tryz.prog 76 #[x.v, .bool inn, .slice an names.length cn] w fun e w' => e = .returned (.bool (onlyB x (wantX 0 0 0 ⟨#[]⟩ none 0 [] none 0 []))) ∧ Below w.heap.size w w' := by
  have dl : decide (x.ln < 0) = false := decide_eq_false (by omega)
  have d1 : (x.k == 1) = false := by simp; omega
  have d3 : (x.k == 3) = false := by simp; omega
  have d4 : (x.k == 4) = false := by simp; omega
  have d5 : (x.k == 5) = false := by simp; omega
  have d6 : (x.k == 6) = false := by simp; omega
  have d7 : (x.k == 7) = false := by simp; omega
  have d8 : (x.k == 8) = false := by simp; omega
  have d9 : (x.k == 9) = false := by simp; omega
  have d10 : (x.k == 10) = false := by simp; omega
  have d11 : (x.k == 11) = false := by simp; omega
  have d12 : (x.k == 12) = false := by simp; omega
  have d13 : (x.k == 13) = false := by simp; omega
  have d14 : (x.k == 14) = false := by simp; omega
  have d15 : (x.k == 15) = false := by simp; omega
  have d16 : (x.k == 16) = false := by simp; omega
  have d17 : (x.k == 17) = false := by simp; omega
  have d18 : (x.k == 18) = false := by simp; omega
  have d19 : (x.k == 19) = false := by simp; omega
  have d2 : (x.k == 2) = true := by simpa using hk
  have h0 := ((inX_iff x).1 hin).1
  have g1 := h0.ai.1
  have g2 := h0.ai.2.1
  have g3 := h0.fi.1
  have g4 := h0.fi.2.1
  have g5 : (x.args.length : Int) ≤ 9223372036854775807 := by omega
  have g6 : (x.funcs.length : Int) ≤ 9223372036854775807 := by omega
  clear g1 g2 g3 g4
  obtain ⟨C, hC⟩ : ∃ c, onlyB x (wantX 0 0 0 ⟨#[]⟩ none 0 [] none 0 []) = c := ⟨_, rfl⟩
  have HC : Hid (∀ W, Calls Tryz.prog 98 #[x.v, .agg #[.int .i64 0, .int .i64 0, .int .i64 0, .int .i64 0, .int .i64 0, .string ⟨#[]⟩, .slice none 0 0, .slice none 0 0]] W fun e W' => e = .returned (.bool C) ∧ Below W.heap.size W W') := fun W => hC ▸ ronly_any x (wantX 0 0 0 ⟨#[]⟩ none 0 [] none 0 []) W
  rw [hC]
  clear hC hk hl h0
  clear hin
  cases C with
  | false =>
    go_enter Tryz.func76, Tryz.ntmps76
    go_wp2_with (first | (go_at_call 98; (with_reducible refine (HC.out _).mono ?_); rintro e w1 ⟨rfl, hb⟩; (refine mem hb ?_; intro N hN hz hc hf; (try simp at hN); subst hN)))
    go_returns
    refine ⟨rfl, ?_⟩
    (repeat' (first | (with_reducible exact Below.refl _ _) | (with_reducible assumption) | (with_reducible refine Below.alloc ?_ ?_ _) | (with_reducible refine below_drewN ?_ _) | (with_reducible refine Below.drew ?_) | (with_reducible refine Below.setCell ?_ ?_ _) | (with_reducible refine below_via (by assumption) ?_ ?_) | (with_reducible refine below_via (later_below _) ?_ ?_) | (with_reducible exact Nat.le_refl _) | omega | (simp; omega) | (simp; done)))
  | true =>
    go_enter Tryz.func76, Tryz.ntmps76
    go_wp2_with (first | (go_at_call 98; (with_reducible refine (HC.out _).mono ?_); rintro e w1 ⟨rfl, hb⟩; (refine mem hb ?_; intro N hN hz hc hf; (try simp at hN); subst hN)))
    go_returns
    refine ⟨rfl, ?_⟩
    (repeat' (first | (with_reducible exact Below.refl _ _) | (with_reducible assumption) | (with_reducible refine Below.alloc ?_ ?_ _) | (with_reducible refine below_drewN ?_ _) | (with_reducible refine Below.drew ?_) | (with_reducible refine Below.setCell ?_ ?_ _) | (with_reducible refine below_via (by assumption) ?_ ?_) | (with_reducible refine below_via (later_below _) ?_ ?_) | (with_reducible exact Nat.le_refl _) | omega | (simp; omega) | (simp; done)))

set_option maxHeartbeats 3200000 in
set_option maxRecDepth 100000 in
theorem rfm3 (hk : x.k = 3) (hl : 0 ≤ x.ln) : Calls Tryz.prog 76 #[x.v, .bool inn, .slice an names.length cn] w fun e w' => e = .returned (.bool (onlyB x (wantX 0 0 0 ⟨#[]⟩ none 0 [] none 0 []))) ∧ Below w.heap.size w w' := by
  have dl : decide (x.ln < 0) = false := decide_eq_false (by omega)
  have d1 : (x.k == 1) = false := by simp; omega
  have d2 : (x.k == 2) = false := by simp; omega
  have d4 : (x.k == 4) = false := by simp; omega
  have d5 : (x.k == 5) = false := by simp; omega
  have d6 : (x.k == 6) = false := by simp; omega
  have d7 : (x.k == 7) = false := by simp; omega
  have d8 : (x.k == 8) = false := by simp; omega
  have d9 : (x.k == 9) = false := by simp; omega
  have d10 : (x.k == 10) = false := by simp; omega
  have d11 : (x.k == 11) = false := by simp; omega
  have d12 : (x.k == 12) = false := by simp; omega
  have d13 : (x.k == 13) = false := by simp; omega
  have d14 : (x.k == 14) = false := by simp; omega
  have d15 : (x.k == 15) = false := by simp; omega
  have d16 : (x.k == 16) = false := by simp; omega
  have d17 : (x.k == 17) = false := by simp; omega
  have d18 : (x.k == 18) = false := by simp; omega
  have d19 : (x.k == 19) = false := by simp; omega
  have d3 : (x.k == 3) = true := by simpa using hk
  have h0 := ((inX_iff x).1 hin).1
  have g1 := h0.ai.1
  have g2 := h0.ai.2.1
  have g3 := h0.fi.1
  have g4 := h0.fi.2.1
  have g5 : (x.args.length : Int) ≤ 9223372036854775807 := by omega
  have g6 : (x.funcs.length : Int) ≤ 9223372036854775807 := by omega
  clear g1 g2 g3 g4
  obtain ⟨C, hC⟩ : ∃ c, onlyB x (wantX 0 0 0 ⟨#[]⟩ none 0 [] none 0 []) = c := ⟨_, rfl⟩
  have HC : Hid (∀ W, Calls Tryz.prog 98 #[x.v, .agg #[.int .i64 0, .int .i64 0, .int .i64 0, .int .i64 0, .int .i64 0, .string ⟨#[]⟩, .slice none 0 0, .slice none 0 0]] W fun e W' => e = .returned (.bool C) ∧ Below W.heap.size W W') := fun W => hC ▸ ronly_any x (wantX 0 0 0 ⟨#[]⟩ none 0 [] none 0 []) W
  rw [hC]
  clear hC hk hl h0
  clear hin
  cases C with
  | false =>
    go_enter Tryz.func76, Tryz.ntmps76
    go_wp2_with (first | (go_at_call 98; (with_reducible refine (HC.out _).mono ?_); rintro e w1 ⟨rfl, hb⟩; (refine mem hb ?_; intro N hN hz hc hf; (try simp at hN); subst hN)))
    go_returns
    refine ⟨rfl, ?_⟩
    (repeat' (first | (with_reducible exact Below.refl _ _) | (with_reducible assumption) | (with_reducible refine Below.alloc ?_ ?_ _) | (with_reducible refine below_drewN ?_ _) | (with_reducible refine Below.drew ?_) | (with_reducible refine Below.setCell ?_ ?_ _) | (with_reducible refine below_via (by assumption) ?_ ?_) | (with_reducible refine below_via (later_below _) ?_ ?_) | (with_reducible exact Nat.le_refl _) | omega | (simp; omega) | (simp; done)))
  | true =>
    go_enter Tryz.func76, Tryz.ntmps76
    go_wp2_with (first | (go_at_call 98; (with_reducible refine (HC.out _).mono ?_); rintro e w1 ⟨rfl, hb⟩; (refine mem hb ?_; intro N hN hz hc hf; (try simp at hN); subst hN)))
    go_returns
    refine ⟨rfl, ?_⟩
    (repeat' (first | (with_reducible exact Below.refl _ _) | (with_reducible assumption) | (with_reducible refine Below.alloc ?_ ?_ _) | (with_reducible refine below_drewN ?_ _) | (with_reducible refine Below.drew ?_) | (with_reducible refine Below.setCell ?_ ?_ _) | (with_reducible refine below_via (by assumption) ?_ ?_) | (with_reducible refine below_via (later_below _) ?_ ?_) | (with_reducible exact Nat.le_refl _) | omega | (simp; omega) | (simp; done)))

set_option maxHeartbeats 3200000 in
set_option maxRecDepth 100000 in
theorem rfm4 (hk : x.k = 4) (hl : 0 ≤ x.ln) : Calls Tryz.prog 76 #[x.v, .bool inn, .slice an names.length cn] w fun e w' => e = .returned (.bool (onlyB x (wantX 0 x.p x.q ⟨#[]⟩ none 0 [] none 0 []) && numbB x.p x.q)) ∧ Below w.heap.size w w' := by
  have dl : decide (x.ln < 0) = false := decide_eq_false (by omega)
  have d1 : (x.k == 1) = false := by simp; omega
  have d2 : (x.k == 2) = false := by simp; omega
  have d3 : (x.k == 3) = false := by simp; omega
  have d5 : (x.k == 5) = false := by simp; omega
  have d6 : (x.k == 6) = false := by simp; omega
  have d7 : (x.k == 7) = false := by simp; omega
  have d8 : (x.k == 8) = false := by simp; omega
  have d9 : (x.k == 9) = false := by simp; omega
  have d10 : (x.k == 10) = false := by simp; omega
  have d11 : (x.k == 11) = false := by simp; omega
  have d12 : (x.k == 12) = false := by simp; omega
  have d13 : (x.k == 13) = false := by simp; omega
  have d14 : (x.k == 14) = false := by simp; omega
  have d15 : (x.k == 15) = false := by simp; omega
  have d16 : (x.k == 16) = false := by simp; omega
  have d17 : (x.k == 17) = false := by simp; omega
  have d18 : (x.k == 18) = false := by simp; omega
  have d19 : (x.k == 19) = false := by simp; omega
  have d4 : (x.k == 4) = true := by simpa using hk
  have h0 := ((inX_iff x).1 hin).1
  have g1 := h0.ai.1
  have g2 := h0.ai.2.1
  have g3 := h0.fi.1
  have g4 := h0.fi.2.1
  have g5 : (x.args.length : Int) ≤ 9223372036854775807 := by omega
  have g6 : (x.funcs.length : Int) ≤ 9223372036854775807 := by omega
  clear g1 g2 g3 g4
  obtain ⟨C, hC⟩ : ∃ c, onlyB x (wantX 0 x.p x.q ⟨#[]⟩ none 0 [] none 0 []) = c := ⟨_, rfl⟩
  have HC : Hid (∀ W, Calls Tryz.prog 98 #[x.v, .agg #[.int .i64 0, .int .i64 0, .int .i64 0, .int .i64 x.p, .int .i64 x.q, .string ⟨#[]⟩, .slice none 0 0, .slice none 0 0]] W fun e W' => e = .returned (.bool C) ∧ Below W.heap.size W W') := fun W => hC ▸ ronly_any x (wantX 0 x.p x.q ⟨#[]⟩ none 0 [] none 0 []) W
  rw [hC]
  have HP : Hid (∀ W, Below w.heap.size w W → Calls Tryz.prog 99 #[.agg #[.int .i64 x.p, .int .i64 x.q]] W fun e W' => e = .returned (.bool (numbB x.p x.q)) ∧ Below W.heap.size W W') := fun W _ => rnumber_any x.p x.q W h0.pi h0.qi
  obtain ⟨Q, hQ⟩ : ∃ q, numbB x.p x.q = q := ⟨_, rfl⟩
  rw [hQ] at HP ⊢
  clear hC hQ hk hl h0
  clear hin
  cases C with
  | false =>
    go_enter Tryz.func76, Tryz.ntmps76
    go_wp2_with (first | (go_at_call 98; (with_reducible refine (HC.out _).mono ?_); rintro e w1 ⟨rfl, hb⟩; (refine mem hb ?_; intro N hN hz hc hf; (try simp at hN); subst hN)))
    go_returns
    refine ⟨rfl, ?_⟩
    (repeat' (first | (with_reducible exact Below.refl _ _) | (with_reducible assumption) | (with_reducible refine Below.alloc ?_ ?_ _) | (with_reducible refine below_drewN ?_ _) | (with_reducible refine Below.drew ?_) | (with_reducible refine Below.setCell ?_ ?_ _) | (with_reducible refine below_via (by assumption) ?_ ?_) | (with_reducible refine below_via (later_below _) ?_ ?_) | (with_reducible exact Nat.le_refl _) | omega | (simp; omega) | (simp; done)))
  | true =>
    go_enter Tryz.func76, Tryz.ntmps76
    go_wp2_with (first | (go_at_call 98; (with_reducible refine (HC.out _).mono ?_); rintro e w1 ⟨rfl, hb⟩; (refine mem hb ?_; intro N hN hz hc hf; (try simp at hN); subst hN)) | (go_at_call 99; (with_reducible refine (HP.out _ ?_).mono ?_); (focus ((repeat' (first | (with_reducible exact Below.refl _ _) | (with_reducible assumption) | (with_reducible refine Below.alloc ?_ ?_ _) | (with_reducible refine below_drewN ?_ _) | (with_reducible refine Below.drew ?_) | (with_reducible refine Below.setCell ?_ ?_ _) | (with_reducible refine below_via (by assumption) ?_ ?_) | (with_reducible refine below_via (later_below _) ?_ ?_) | (with_reducible exact Nat.le_refl _) | omega | (simp; omega) | (simp; done))))); rintro e w3 ⟨rfl, hb⟩; (refine mem hb ?_; intro N hN hz hc hf; (try simp at hN); subst hN)))
    go_returns
    refine ⟨rfl, ?_⟩
    (repeat' (first | (with_reducible exact Below.refl _ _) | (with_reducible assumption) | (with_reducible refine Below.alloc ?_ ?_ _) | (with_reducible refine below_drewN ?_ _) | (with_reducible refine Below.drew ?_) | (with_reducible refine Below.setCell ?_ ?_ _) | (with_reducible refine below_via (by assumption) ?_ ?_) | (with_reducible refine below_via (later_below _) ?_ ?_) | (with_reducible exact Nat.le_refl _) | omega | (simp; omega) | (simp; done)))

set_option maxHeartbeats 3200000 in
set_option maxRecDepth 100000 in
theorem rfm5 (hk : x.k = 5) (hl : 0 ≤ x.ln) : Calls Tryz.prog 76 #[x.v, .bool inn, .slice an names.length cn] w fun e w' => e = .returned (.bool (onlyB x (wantX 0 0 0 x.s none 0 [] none 0 []))) ∧ Below w.heap.size w w' := by
  have dl : decide (x.ln < 0) = false := decide_eq_false (by omega)
  have d1 : (x.k == 1) = false := by simp; omega
  have d2 : (x.k == 2) = false := by simp; omega
  have d3 : (x.k == 3) = false := by simp; omega
  have d4 : (x.k == 4) = false := by simp; omega
  have d6 : (x.k == 6) = false := by simp; omega
  have d7 : (x.k == 7) = false := by simp; omega
  have d8 : (x.k == 8) = false := by simp; omega
  have d9 : (x.k == 9) = false := by simp; omega
  have d10 : (x.k == 10) = false := by simp; omega
  have d11 : (x.k == 11) = false := by simp; omega
  have d12 : (x.k == 12) = false := by simp; omega
  have d13 : (x.k == 13) = false := by simp; omega
  have d14 : (x.k == 14) = false := by simp; omega
  have d15 : (x.k == 15) = false := by simp; omega
  have d16 : (x.k == 16) = false := by simp; omega
  have d17 : (x.k == 17) = false := by simp; omega
  have d18 : (x.k == 18) = false := by simp; omega
  have d19 : (x.k == 19) = false := by simp; omega
  have d5 : (x.k == 5) = true := by simpa using hk
  have h0 := ((inX_iff x).1 hin).1
  have g1 := h0.ai.1
  have g2 := h0.ai.2.1
  have g3 := h0.fi.1
  have g4 := h0.fi.2.1
  have g5 : (x.args.length : Int) ≤ 9223372036854775807 := by omega
  have g6 : (x.funcs.length : Int) ≤ 9223372036854775807 := by omega
  clear g1 g2 g3 g4
  obtain ⟨C, hC⟩ : ∃ c, onlyB x (wantX 0 0 0 x.s none 0 [] none 0 []) = c := ⟨_, rfl⟩
  have HC : Hid (∀ W, Calls Tryz.prog 98 #[x.v, .agg #[.int .i64 0, .int .i64 0, .int .i64 0, .int .i64 0, .int .i64 0, .string x.s, .slice none 0 0, .slice none 0 0]] W fun e W' => e = .returned (.bool C) ∧ Below W.heap.size W W') := fun W => hC ▸ ronly_any x (wantX 0 0 0 x.s none 0 [] none 0 []) W
  rw [hC]
  clear hC hk hl h0
  clear hin
  cases C with
  | false =>
    go_enter Tryz.func76, Tryz.ntmps76
    go_wp2_with (first | (go_at_call 98; (with_reducible refine (HC.out _).mono ?_); rintro e w1 ⟨rfl, hb⟩; (refine mem hb ?_; intro N hN hz hc hf; (try simp at hN); subst hN)))
    go_returns
    refine ⟨rfl, ?_⟩
    (repeat' (first | (with_reducible exact Below.refl _ _) | (with_reducible assumption) | (with_reducible refine Below.alloc ?_ ?_ _) | (with_reducible refine below_drewN ?_ _) | (with_reducible refine Below.drew ?_) | (with_reducible refine Below.setCell ?_ ?_ _) | (with_reducible refine below_via (by assumption) ?_ ?_) | (with_reducible refine below_via (later_below _) ?_ ?_) | (with_reducible exact Nat.le_refl _) | omega | (simp; omega) | (simp; done)))
  | true =>
    go_enter Tryz.func76, Tryz.ntmps76
    go_wp2_with (first | (go_at_call 98; (with_reducible refine (HC.out _).mono ?_); rintro e w1 ⟨rfl, hb⟩; (refine mem hb ?_; intro N hN hz hc hf; (try simp at hN); subst hN)))
    go_returns
    refine ⟨rfl, ?_⟩
    (repeat' (first | (with_reducible exact Below.refl _ _) | (with_reducible assumption) | (with_reducible refine Below.alloc ?_ ?_ _) | (with_reducible refine below_drewN ?_ _) | (with_reducible refine Below.drew ?_) | (with_reducible refine Below.setCell ?_ ?_ _) | (with_reducible refine below_via (by assumption) ?_ ?_) | (with_reducible refine below_via (later_below _) ?_ ?_) | (with_reducible exact Nat.le_refl _) | omega | (simp; omega) | (simp; done)))

set_option maxHeartbeats 3200000 in
set_option maxRecDepth 100000 in
theorem rfm6 (hk : x.k = 6) (hl : 0 ≤ x.ln) : Calls Tryz.prog 76 #[x.v, .bool inn, .slice an names.length cn] w fun e w' => e = .returned (.bool (onlyB x (wantX 0 0 0 ⟨#[]⟩ none 0 [] none 0 []))) ∧ Below w.heap.size w w' := by
  have dl : decide (x.ln < 0) = false := decide_eq_false (by omega)
  have d1 : (x.k == 1) = false := by simp; omega
  have d2 : (x.k == 2) = false := by simp; omega
  have d3 : (x.k == 3) = false := by simp; omega
  have d4 : (x.k == 4) = false := by simp; omega
  have d5 : (x.k == 5) = false := by simp; omega
  have d7 : (x.k == 7) = false := by simp; omega
  have d8 : (x.k == 8) = false := by simp; omega
  have d9 : (x.k == 9) = false := by simp; omega
  have d10 : (x.k == 10) = false := by simp; omega
  have d11 : (x.k == 11) = false := by simp; omega
  have d12 : (x.k == 12) = false := by simp; omega
  have d13 : (x.k == 13) = false := by simp; omega
  have d14 : (x.k == 14) = false := by simp; omega
  have d15 : (x.k == 15) = false := by simp; omega
  have d16 : (x.k == 16) = false := by simp; omega
  have d17 : (x.k == 17) = false := by simp; omega
  have d18 : (x.k == 18) = false := by simp; omega
  have d19 : (x.k == 19) = false := by simp; omega
  have d6 : (x.k == 6) = true := by simpa using hk
  have h0 := ((inX_iff x).1 hin).1
  have g1 := h0.ai.1
  have g2 := h0.ai.2.1
  have g3 := h0.fi.1
  have g4 := h0.fi.2.1
  have g5 : (x.args.length : Int) ≤ 9223372036854775807 := by omega
  have g6 : (x.funcs.length : Int) ≤ 9223372036854775807 := by omega
  clear g1 g2 g3 g4
  obtain ⟨C, hC⟩ : ∃ c, onlyB x (wantX 0 0 0 ⟨#[]⟩ none 0 [] none 0 []) = c := ⟨_, rfl⟩
  have HC : Hid (∀ W, Calls Tryz.prog 98 #[x.v, .agg #[.int .i64 0, .int .i64 0, .int .i64 0, .int .i64 0, .int .i64 0, .string ⟨#[]⟩, .slice none 0 0, .slice none 0 0]] W fun e W' => e = .returned (.bool C) ∧ Below W.heap.size W W') := fun W => hC ▸ ronly_any x (wantX 0 0 0 ⟨#[]⟩ none 0 [] none 0 []) W
  rw [hC]
  clear hC hk hl h0
  clear hin
  cases C with
  | false =>
    go_enter Tryz.func76, Tryz.ntmps76
    go_wp2_with (first | (go_at_call 98; (with_reducible refine (HC.out _).mono ?_); rintro e w1 ⟨rfl, hb⟩; (refine mem hb ?_; intro N hN hz hc hf; (try simp at hN); subst hN)))
    go_returns
    refine ⟨rfl, ?_⟩
    (repeat' (first | (with_reducible exact Below.refl _ _) | (with_reducible assumption) | (with_reducible refine Below.alloc ?_ ?_ _) | (with_reducible refine below_drewN ?_ _) | (with_reducible refine Below.drew ?_) | (with_reducible refine Below.setCell ?_ ?_ _) | (with_reducible refine below_via (by assumption) ?_ ?_) | (with_reducible refine below_via (later_below _) ?_ ?_) | (with_reducible exact Nat.le_refl _) | omega | (simp; omega) | (simp; done)))
  | true =>
    go_enter Tryz.func76, Tryz.ntmps76
    go_wp2_with (first | (go_at_call 98; (with_reducible refine (HC.out _).mono ?_); rintro e w1 ⟨rfl, hb⟩; (refine mem hb ?_; intro N hN hz hc hf; (try simp at hN); subst hN)))
    go_returns
    refine ⟨rfl, ?_⟩
    (repeat' (first | (with_reducible exact Below.refl _ _) | (with_reducible assumption) | (with_reducible refine Below.alloc ?_ ?_ _) | (with_reducible refine below_drewN ?_ _) | (with_reducible refine Below.drew ?_) | (with_reducible refine Below.setCell ?_ ?_ _) | (with_reducible refine below_via (by assumption) ?_ ?_) | (with_reducible refine below_via (later_below _) ?_ ?_) | (with_reducible exact Nat.le_refl _) | omega | (simp; omega) | (simp; done)))

set_option maxHeartbeats 3200000 in
set_option maxRecDepth 100000 in
theorem rfm7 (hk : x.k = 7) (hl : 0 ≤ x.ln) : Calls Tryz.prog 76 #[x.v, .bool inn, .slice an names.length cn] w fun e w' => e = .returned (.bool (onlyB x (wantX 0 0 0 x.s none 0 [] none 0 []))) ∧ Below w.heap.size w w' := by
  have dl : decide (x.ln < 0) = false := decide_eq_false (by omega)
  have d1 : (x.k == 1) = false := by simp; omega
  have d2 : (x.k == 2) = false := by simp; omega
  have d3 : (x.k == 3) = false := by simp; omega
  have d4 : (x.k == 4) = false := by simp; omega
  have d5 : (x.k == 5) = false := by simp; omega
  have d6 : (x.k == 6) = false := by simp; omega
  have d8 : (x.k == 8) = false := by simp; omega
  have d9 : (x.k == 9) = false := by simp; omega
  have d10 : (x.k == 10) = false := by simp; omega
  have d11 : (x.k == 11) = false := by simp; omega
  have d12 : (x.k == 12) = false := by simp; omega
  have d13 : (x.k == 13) = false := by simp; omega
  have d14 : (x.k == 14) = false := by simp; omega
  have d15 : (x.k == 15) = false := by simp; omega
  have d16 : (x.k == 16) = false := by simp; omega
  have d17 : (x.k == 17) = false := by simp; omega
  have d18 : (x.k == 18) = false := by simp; omega
  have d19 : (x.k == 19) = false := by simp; omega
  have d7 : (x.k == 7) = true := by simpa using hk
  have h0 := ((inX_iff x).1 hin).1
  have g1 := h0.ai.1
  have g2 := h0.ai.2.1
  have g3 := h0.fi.1
  have g4 := h0.fi.2.1
  have g5 : (x.args.length : Int) ≤ 9223372036854775807 := by omega
  have g6 : (x.funcs.length : Int) ≤ 9223372036854775807 := by omega
  clear g1 g2 g3 g4
  obtain ⟨C, hC⟩ : ∃ c, onlyB x (wantX 0 0 0 x.s none 0 [] none 0 []) = c := ⟨_, rfl⟩
  have HC : Hid (∀ W, Calls Tryz.prog 98 #[x.v, .agg #[.int .i64 0, .int .i64 0, .int .i64 0, .int .i64 0, .int .i64 0, .string x.s, .slice none 0 0, .slice none 0 0]] W fun e W' => e = .returned (.bool C) ∧ Below W.heap.size W W') := fun W => hC ▸ ronly_any x (wantX 0 0 0 x.s none 0 [] none 0 []) W
  rw [hC]
  clear hC hk hl h0
  clear hin
  cases C with
  | false =>
    go_enter Tryz.func76, Tryz.ntmps76
    go_wp2_with (first | (go_at_call 98; (with_reducible refine (HC.out _).mono ?_); rintro e w1 ⟨rfl, hb⟩; (refine mem hb ?_; intro N hN hz hc hf; (try simp at hN); subst hN)))
    go_returns
    refine ⟨rfl, ?_⟩
    (repeat' (first | (with_reducible exact Below.refl _ _) | (with_reducible assumption) | (with_reducible refine Below.alloc ?_ ?_ _) | (with_reducible refine below_drewN ?_ _) | (with_reducible refine Below.drew ?_) | (with_reducible refine Below.setCell ?_ ?_ _) | (with_reducible refine below_via (by assumption) ?_ ?_) | (with_reducible refine below_via (later_below _) ?_ ?_) | (with_reducible exact Nat.le_refl _) | omega | (simp; omega) | (simp; done)))
  | true =>
    go_enter Tryz.func76, Tryz.ntmps76
    go_wp2_with (first | (go_at_call 98; (with_reducible refine (HC.out _).mono ?_); rintro e w1 ⟨rfl, hb⟩; (refine mem hb ?_; intro N hN hz hc hf; (try simp at hN); subst hN)))
    go_returns
    refine ⟨rfl, ?_⟩
    (repeat' (first | (with_reducible exact Below.refl _ _) | (with_reducible assumption) | (with_reducible refine Below.alloc ?_ ?_ _) | (with_reducible refine below_drewN ?_ _) | (with_reducible refine Below.drew ?_) | (with_reducible refine Below.setCell ?_ ?_ _) | (with_reducible refine below_via (by assumption) ?_ ?_) | (with_reducible refine below_via (later_below _) ?_ ?_) | (with_reducible exact Nat.le_refl _) | omega | (simp; omega) | (simp; done)))

set_option maxHeartbeats 3200000 in
set_option maxRecDepth 100000 in
theorem rfm8 (hk : x.k = 8) (hl : 0 ≤ x.ln) : Calls Tryz.prog 76 #[x.v, .bool inn, .slice an names.length cn] w fun e w' => e = .returned (.bool (onlyB x (wantX 0 0 0 ⟨#[]⟩ x.aA x.aC x.args none 0 []) && ((x.args.length : Int) == 2 && subjB x))) ∧ Below w.heap.size w w' := by
  have dl : decide (x.ln < 0) = false := decide_eq_false (by omega)
  have d1 : (x.k == 1) = false := by simp; omega
  have d2 : (x.k == 2) = false := by simp; omega
  have d3 : (x.k == 3) = false := by simp; omega
  have d4 : (x.k == 4) = false := by simp; omega
  have d5 : (x.k == 5) = false := by simp; omega
  have d6 : (x.k == 6) = false := by simp; omega
  have d7 : (x.k == 7) = false := by simp; omega
  have d9 : (x.k == 9) = false := by simp; omega
  have d10 : (x.k == 10) = false := by simp; omega
  have d11 : (x.k == 11) = false := by simp; omega
  have d12 : (x.k == 12) = false := by simp; omega
  have d13 : (x.k == 13) = false := by simp; omega
  have d14 : (x.k == 14) = false := by simp; omega
  have d15 : (x.k == 15) = false := by simp; omega
  have d16 : (x.k == 16) = false := by simp; omega
  have d17 : (x.k == 17) = false := by simp; omega
  have d18 : (x.k == 18) = false := by simp; omega
  have d19 : (x.k == 19) = false := by simp; omega
  have d8 : (x.k == 8) = true := by simpa using hk
  have h0 := ((inX_iff x).1 hin).1
  have g1 := h0.ai.1
  have g2 := h0.ai.2.1
  have g3 := h0.fi.1
  have g4 := h0.fi.2.1
  have g5 : (x.args.length : Int) ≤ 9223372036854775807 := by omega
  have g6 : (x.funcs.length : Int) ≤ 9223372036854775807 := by omega
  clear g1 g2 g3 g4
  obtain ⟨C, hC⟩ : ∃ c, onlyB x (wantX 0 0 0 ⟨#[]⟩ x.aA x.aC x.args none 0 []) = c := ⟨_, rfl⟩
  have HC : Hid (∀ W, Calls Tryz.prog 98 #[x.v, .agg #[.int .i64 0, .int .i64 0, .int .i64 0, .int .i64 0, .int .i64 0, .string ⟨#[]⟩, .slice x.aA x.args.length x.aC, .slice none 0 0]] W fun e W' => e = .returned (.bool C) ∧ Below W.heap.size W W') := fun W => hC ▸ ronly_any x (wantX 0 0 0 ⟨#[]⟩ x.aA x.aC x.args none 0 []) W
  rw [hC]
  have HP : Hid (∀ W, Below w.heap.size w W → Calls Tryz.prog 100 #[x.v] W fun e W' => e = .returned (.bool (subjB x)) ∧ Below W.heap.size W W') := fun W hW => robject_any x W (hin.still (still_of hW (Nat.le_refl _)) hW.size)
  obtain ⟨Q, hQ⟩ : ∃ q, subjB x = q := ⟨_, rfl⟩
  rw [hQ] at HP ⊢
  clear hC hQ hk hl h0
  clear hin
  cases C with
  | false =>
    go_enter Tryz.func76, Tryz.ntmps76
    go_wp2_with (first | (go_at_call 98; (with_reducible refine (HC.out _).mono ?_); rintro e w1 ⟨rfl, hb⟩; (refine mem hb ?_; intro N hN hz hc hf; (try simp at hN); subst hN)))
    go_returns
    refine ⟨rfl, ?_⟩
    (repeat' (first | (with_reducible exact Below.refl _ _) | (with_reducible assumption) | (with_reducible refine Below.alloc ?_ ?_ _) | (with_reducible refine below_drewN ?_ _) | (with_reducible refine Below.drew ?_) | (with_reducible refine Below.setCell ?_ ?_ _) | (with_reducible refine below_via (by assumption) ?_ ?_) | (with_reducible refine below_via (later_below _) ?_ ?_) | (with_reducible exact Nat.le_refl _) | omega | (simp; omega) | (simp; done)))
  | true =>
    cases hE : ((x.args.length : Int) == 2) with
    | false =>
      go_enter Tryz.func76, Tryz.ntmps76
      go_wp2_with (first | (go_at_call 98; (with_reducible refine (HC.out _).mono ?_); rintro e w1 ⟨rfl, hb⟩; (refine mem hb ?_; intro N hN hz hc hf; (try simp at hN); subst hN)))
      go_returns
      refine ⟨rfl, ?_⟩
      (repeat' (first | (with_reducible exact Below.refl _ _) | (with_reducible assumption) | (with_reducible refine Below.alloc ?_ ?_ _) | (with_reducible refine below_drewN ?_ _) | (with_reducible refine Below.drew ?_) | (with_reducible refine Below.setCell ?_ ?_ _) | (with_reducible refine below_via (by assumption) ?_ ?_) | (with_reducible refine below_via (later_below _) ?_ ?_) | (with_reducible exact Nat.le_refl _) | omega | (simp; omega) | (simp; done)))
    | true =>
      go_enter Tryz.func76, Tryz.ntmps76
      go_wp2_with (first | (go_at_call 98; (with_reducible refine (HC.out _).mono ?_); rintro e w1 ⟨rfl, hb⟩; (refine mem hb ?_; intro N hN hz hc hf; (try simp at hN); subst hN)) | (go_at_call 100; (with_reducible refine (HP.out _ ?_).mono ?_); (focus ((repeat' (first | (with_reducible exact Below.refl _ _) | (with_reducible assumption) | (with_reducible refine Below.alloc ?_ ?_ _) | (with_reducible refine below_drewN ?_ _) | (with_reducible refine Below.drew ?_) | (with_reducible refine Below.setCell ?_ ?_ _) | (with_reducible refine below_via (by assumption) ?_ ?_) | (with_reducible refine below_via (later_below _) ?_ ?_) | (with_reducible exact Nat.le_refl _) | omega | (simp; omega) | (simp; done))))); rintro e w3 ⟨rfl, hb⟩; (refine mem hb ?_; intro N hN hz hc hf; (try simp at hN); subst hN)))
      go_returns
      refine ⟨rfl, ?_⟩
      (repeat' (first | (with_reducible exact Below.refl _ _) | (with_reducible assumption) | (with_reducible refine Below.alloc ?_ ?_ _) | (with_reducible refine below_drewN ?_ _) | (with_reducible refine Below.drew ?_) | (with_reducible refine Below.setCell ?_ ?_ _) | (with_reducible refine below_via (by assumption) ?_ ?_) | (with_reducible refine below_via (later_below _) ?_ ?_) | (with_reducible exact Nat.le_refl _) | omega | (simp; omega) | (simp; done)))

set_option maxHeartbeats 3200000 in
set_option maxRecDepth 100000 in
theorem rfm9 (hk : x.k = 9) (hl : 0 ≤ x.ln) : Calls Tryz.prog 76 #[x.v, .bool inn, .slice an names.length cn] w fun e w' => e = .returned (.bool (onlyB x (wantX 0 0 0 ⟨#[]⟩ x.aA x.aC x.args none 0 []) && subjB x)) ∧ Below w.heap.size w w' := by
  have dl : decide (x.ln < 0) = false := decide_eq_false (by omega)
  have d1 : (x.k == 1) = false := by simp; omega
  have d2 : (x.k == 2) = false := by simp; omega
  have d3 : (x.k == 3) = false := by simp; omega
  have d4 : (x.k == 4) = false := by simp; omega
  have d5 : (x.k == 5) = false := by simp; omega
  have d6 : (x.k == 6) = false := by simp; omega
  have d7 : (x.k == 7) = false := by simp; omega
  have d8 : (x.k == 8) = false := by simp; omega
  have d10 : (x.k == 10) = false := by simp; omega
  have d11 : (x.k == 11) = false := by simp; omega
  have d12 : (x.k == 12) = false := by simp; omega
  have d13 : (x.k == 13) = false := by simp; omega
  have d14 : (x.k == 14) = false := by simp; omega
  have d15 : (x.k == 15) = false := by simp; omega
  have d16 : (x.k == 16) = false := by simp; omega
  have d17 : (x.k == 17) = false := by simp; omega
  have d18 : (x.k == 18) = false := by simp; omega
  have d19 : (x.k == 19) = false := by simp; omega
  have d9 : (x.k == 9) = true := by simpa using hk
  have h0 := ((inX_iff x).1 hin).1
  have g1 := h0.ai.1
  have g2 := h0.ai.2.1
  have g3 := h0.fi.1
  have g4 := h0.fi.2.1
  have g5 : (x.args.length : Int) ≤ 9223372036854775807 := by omega
  have g6 : (x.funcs.length : Int) ≤ 9223372036854775807 := by omega
  clear g1 g2 g3 g4
  obtain ⟨C, hC⟩ : ∃ c, onlyB x (wantX 0 0 0 ⟨#[]⟩ x.aA x.aC x.args none 0 []) = c := ⟨_, rfl⟩
  have HC : Hid (∀ W, Calls Tryz.prog 98 #[x.v, .agg #[.int .i64 0, .int .i64 0, .int .i64 0, .int .i64 0, .int .i64 0, .string ⟨#[]⟩, .slice x.aA x.args.length x.aC, .slice none 0 0]] W fun e W' => e = .returned (.bool C) ∧ Below W.heap.size W W') := fun W => hC ▸ ronly_any x (wantX 0 0 0 ⟨#[]⟩ x.aA x.aC x.args none 0 []) W
  rw [hC]
  have HP : Hid (∀ W, Below w.heap.size w W → Calls Tryz.prog 100 #[x.v] W fun e W' => e = .returned (.bool (subjB x)) ∧ Below W.heap.size W W') := fun W hW => robject_any x W (hin.still (still_of hW (Nat.le_refl _)) hW.size)
  obtain ⟨Q, hQ⟩ : ∃ q, subjB x = q := ⟨_, rfl⟩
  rw [hQ] at HP ⊢
  clear hC hQ hk hl h0
  clear hin
  cases C with
  | false =>
    go_enter Tryz.func76, Tryz.ntmps76
    go_wp2_with (first | (go_at_call 98; (with_reducible refine (HC.out _).mono ?_); rintro e w1 ⟨rfl, hb⟩; (refine mem hb ?_; intro N hN hz hc hf; (try simp at hN); subst hN)))
    go_returns
    refine ⟨rfl, ?_⟩
    (repeat' (first | (with_reducible exact Below.refl _ _) | (with_reducible assumption) | (with_reducible refine Below.alloc ?_ ?_ _) | (with_reducible refine below_drewN ?_ _) | (with_reducible refine Below.drew ?_) | (with_reducible refine Below.setCell ?_ ?_ _) | (with_reducible refine below_via (by assumption) ?_ ?_) | (with_reducible refine below_via (later_below _) ?_ ?_) | (with_reducible exact Nat.le_refl _) | omega | (simp; omega) | (simp; done)))
  | true =>
    go_enter Tryz.func76, Tryz.ntmps76
    go_wp2_with (first | (go_at_call 98; (with_reducible refine (HC.out _).mono ?_); rintro e w1 ⟨rfl, hb⟩; (refine mem hb ?_; intro N hN hz hc hf; (try simp at hN); subst hN)) | (go_at_call 100; (with_reducible refine (HP.out _ ?_).mono ?_); (focus ((repeat' (first | (with_reducible exact Below.refl _ _) | (with_reducible assumption) | (with_reducible refine Below.alloc ?_ ?_ _) | (with_reducible refine below_drewN ?_ _) | (with_reducible refine Below.drew ?_) | (with_reducible refine Below.setCell ?_ ?_ _) | (with_reducible refine below_via (by assumption) ?_ ?_) | (with_reducible refine below_via (later_below _) ?_ ?_) | (with_reducible exact Nat.le_refl _) | omega | (simp; omega) | (simp; done))))); rintro e w3 ⟨rfl, hb⟩; (refine mem hb ?_; intro N hN hz hc hf; (try simp at hN); subst hN)))
    go_returns
    refine ⟨rfl, ?_⟩
    (repeat' (first | (with_reducible exact Below.refl _ _) | (with_reducible assumption) | (with_reducible refine Below.alloc ?_ ?_ _) | (with_reducible refine below_drewN ?_ _) | (with_reducible refine Below.drew ?_) | (with_reducible refine Below.setCell ?_ ?_ _) | (with_reducible refine below_via (by assumption) ?_ ?_) | (with_reducible refine below_via (later_below _) ?_ ?_) | (with_reducible exact Nat.le_refl _) | omega | (simp; omega) | (simp; done)))

set_option maxHeartbeats 3200000 in
set_option maxRecDepth 100000 in
theorem rfm10 (hk : x.k = 10) (hl : 0 ≤ x.ln) : Calls Tryz.prog 76 #[x.v, .bool inn, .slice an names.length cn] w fun e w' => e = .returned (.bool (onlyB x (wantX 0 0 0 x.s x.aA x.aC x.args none 0 []) && subjB x)) ∧ Below w.heap.size w w' := by
  have dl : decide (x.ln < 0) = false := decide_eq_false (by omega)
  have d1 : (x.k == 1) = false := by simp; omega
  have d2 : (x.k == 2) = false := by simp; omega
  have d3 : (x.k == 3) = false := by simp; omega
  have d4 : (x.k == 4) = false := by simp; omega
  have d5 : (x.k == 5) = false := by simp; omega
  have d6 : (x.k == 6) = false := by simp; omega
  have d7 : (x.k == 7) = false := by simp; omega
  have d8 : (x.k == 8) = false := by simp; omega
  have d9 : (x.k == 9) = false := by simp; omega
  have d11 : (x.k == 11) = false := by simp; omega
  have d12 : (x.k == 12) = false := by simp; omega
  have d13 : (x.k == 13) = false := by simp; omega
  have d14 : (x.k == 14) = false := by simp; omega
  have d15 : (x.k == 15) = false := by simp; omega
  have d16 : (x.k == 16) = false := by simp; omega
  have d17 : (x.k == 17) = false := by simp; omega
  have d18 : (x.k == 18) = false := by simp; omega
  have d19 : (x.k == 19) = false := by simp; omega
  have d10 : (x.k == 10) = true := by simpa using hk
  have h0 := ((inX_iff x).1 hin).1
  have g1 := h0.ai.1
  have g2 := h0.ai.2.1
  have g3 := h0.fi.1
  have g4 := h0.fi.2.1
  have g5 : (x.args.length : Int) ≤ 9223372036854775807 := by omega
  have g6 : (x.funcs.length : Int) ≤ 9223372036854775807 := by omega
  clear g1 g2 g3 g4
  obtain ⟨C, hC⟩ : ∃ c, onlyB x (wantX 0 0 0 x.s x.aA x.aC x.args none 0 []) = c := ⟨_, rfl⟩
  have HC : Hid (∀ W, Calls Tryz.prog 98 #[x.v, .agg #[.int .i64 0, .int .i64 0, .int .i64 0, .int .i64 0, .int .i64 0, .string x.s, .slice x.aA x.args.length x.aC, .slice none 0 0]] W fun e W' => e = .returned (.bool C) ∧ Below W.heap.size W W') := fun W => hC ▸ ronly_any x (wantX 0 0 0 x.s x.aA x.aC x.args none 0 []) W
  rw [hC]
  have HP : Hid (∀ W, Below w.heap.size w W → Calls Tryz.prog 100 #[x.v] W fun e W' => e = .returned (.bool (subjB x)) ∧ Below W.heap.size W W') := fun W hW => robject_any x W (hin.still (still_of hW (Nat.le_refl _)) hW.size)
  obtain ⟨Q, hQ⟩ : ∃ q, subjB x = q := ⟨_, rfl⟩
  rw [hQ] at HP ⊢
  clear hC hQ hk hl h0
  clear hin
  cases C with
  | false =>
    go_enter Tryz.func76, Tryz.ntmps76
    go_wp2_with (first | (go_at_call 98; (with_reducible refine (HC.out _).mono ?_); rintro e w1 ⟨rfl, hb⟩; (refine mem hb ?_; intro N hN hz hc hf; (try simp at hN); subst hN)))
    go_returns
    refine ⟨rfl, ?_⟩
    (repeat' (first | (with_reducible exact Below.refl _ _) | (with_reducible assumption) | (with_reducible refine Below.alloc ?_ ?_ _) | (with_reducible refine below_drewN ?_ _) | (with_reducible refine Below.drew ?_) | (with_reducible refine Below.setCell ?_ ?_ _) | (with_reducible refine below_via (by assumption) ?_ ?_) | (with_reducible refine below_via (later_below _) ?_ ?_) | (with_reducible exact Nat.le_refl _) | omega | (simp; omega) | (simp; done)))
  | true =>
    go_enter Tryz.func76, Tryz.ntmps76
    go_wp2_with (first | (go_at_call 98; (with_reducible refine (HC.out _).mono ?_); rintro e w1 ⟨rfl, hb⟩; (refine mem hb ?_; intro N hN hz hc hf; (try simp at hN); subst hN)) | (go_at_call 100; (with_reducible refine (HP.out _ ?_).mono ?_); (focus ((repeat' (first | (with_reducible exact Below.refl _ _) | (with_reducible assumption) | (with_reducible refine Below.alloc ?_ ?_ _) | (with_reducible refine below_drewN ?_ _) | (with_reducible refine Below.drew ?_) | (with_reducible refine Below.setCell ?_ ?_ _) | (with_reducible refine below_via (by assumption) ?_ ?_) | (with_reducible refine below_via (later_below _) ?_ ?_) | (with_reducible exact Nat.le_refl _) | omega | (simp; omega) | (simp; done))))); rintro e w3 ⟨rfl, hb⟩; (refine mem hb ?_; intro N hN hz hc hf; (try simp at hN); subst hN)))
    go_returns
    refine ⟨rfl, ?_⟩
    (repeat' (first | (with_reducible exact Below.refl _ _) | (with_reducible assumption) | (with_reducible refine Below.alloc ?_ ?_ _) | (with_reducible refine below_drewN ?_ _) | (with_reducible refine Below.drew ?_) | (with_reducible refine Below.setCell ?_ ?_ _) | (with_reducible refine below_via (by assumption) ?_ ?_) | (with_reducible refine below_via (later_below _) ?_ ?_) | (with_reducible exact Nat.le_refl _) | omega | (simp; omega) | (simp; done)))

set_option maxHeartbeats 3200000 in
set_option maxRecDepth 100000 in
include hsn hn hN hz in
theorem rfm11 (hk : x.k = 11) (hl : 0 ≤ x.ln) : Calls Tryz.prog 76 #[x.v, .bool inn, .slice an names.length cn] w fun e w' => e = .returned (.bool (onlyB x (wantX 0 0 0 ⟨#[]⟩ none 0 [] x.fA x.fC x.funcs) && ((x.funcs.length : Int) == 1 && x.funcs.all (nmF names)))) ∧ Below w.heap.size w w' := by
  have dl : decide (x.ln < 0) = false := decide_eq_false (by omega)
  have d1 : (x.k == 1) = false := by simp; omega
  have d2 : (x.k == 2) = false := by simp; omega
  have d3 : (x.k == 3) = false := by simp; omega
  have d4 : (x.k == 4) = false := by simp; omega
  have d5 : (x.k == 5) = false := by simp; omega
  have d6 : (x.k == 6) = false := by simp; omega
  have d7 : (x.k == 7) = false := by simp; omega
  have d8 : (x.k == 8) = false := by simp; omega
  have d9 : (x.k == 9) = false := by simp; omega
  have d10 : (x.k == 10) = false := by simp; omega
  have d12 : (x.k == 12) = false := by simp; omega
  have d13 : (x.k == 13) = false := by simp; omega
  have d14 : (x.k == 14) = false := by simp; omega
  have d15 : (x.k == 15) = false := by simp; omega
  have d16 : (x.k == 16) = false := by simp; omega
  have d17 : (x.k == 17) = false := by simp; omega
  have d18 : (x.k == 18) = false := by simp; omega
  have d19 : (x.k == 19) = false := by simp; omega
  have d11 : (x.k == 11) = true := by simpa using hk
  have h0 := ((inX_iff x).1 hin).1
  have g1 := h0.ai.1
  have g2 := h0.ai.2.1
  have g3 := h0.fi.1
  have g4 := h0.fi.2.1
  have g5 : (x.args.length : Int) ≤ 9223372036854775807 := by omega
  have g6 : (x.funcs.length : Int) ≤ 9223372036854775807 := by omega
  clear g1 g2 g3 g4
  obtain ⟨C, hC⟩ : ∃ c, onlyB x (wantX 0 0 0 ⟨#[]⟩ none 0 [] x.fA x.fC x.funcs) = c := ⟨_, rfl⟩
  have HC : Hid (∀ W, Calls Tryz.prog 98 #[x.v, .agg #[.int .i64 0, .int .i64 0, .int .i64 0, .int .i64 0, .int .i64 0, .string ⟨#[]⟩, .slice none 0 0, .slice x.fA x.funcs.length x.fC]] W fun e W' => e = .returned (.bool C) ∧ Below W.heap.size W W') := fun W => hC ▸ ronly_any x (wantX 0 0 0 ⟨#[]⟩ none 0 [] x.fA x.fC x.funcs) W
  rw [hC]
  have HP : Hid (∀ W, Below w.heap.size w W → Calls Tryz.prog 101 #[.slice x.fA x.funcs.length x.fC, .slice an names.length cn] W fun e W' => e = .returned (.bool (x.funcs.all (nmF names))) ∧ ∃ m, W' = W.drewN m) := fun W hW => rnameless_any x.funcs x.fA x.fC names an cn W.heap.size W.heap.size W h0.fi ((h0.still (still_of hW (Nat.le_refl _)) hW.size).fAt) ((inFs_iff _).1 ((inX_iff x).1 (hin.still (still_of hW (Nat.le_refl _)) hW.size)).2.2) hsn (hn.still (p1_still (still_of hW hN)) (Nat.le_trans hN hW.size)) hz
  obtain ⟨Q, hQ⟩ : ∃ q, x.funcs.all (nmF names) = q := ⟨_, rfl⟩
  rw [hQ] at HP ⊢
  clear hC hQ hk hl h0
  clear hin hsn hn hN hz
  cases C with
  | false =>
    go_enter Tryz.func76, Tryz.ntmps76
    go_wp2_with (first | (go_at_call 98; (with_reducible refine (HC.out _).mono ?_); rintro e w1 ⟨rfl, hb⟩; (refine mem hb ?_; intro N hN hz hc hf; (try simp at hN); subst hN)))
    go_returns
    refine ⟨rfl, ?_⟩
    (repeat' (first | (with_reducible exact Below.refl _ _) | (with_reducible assumption) | (with_reducible refine Below.alloc ?_ ?_ _) | (with_reducible refine below_drewN ?_ _) | (with_reducible refine Below.drew ?_) | (with_reducible refine Below.setCell ?_ ?_ _) | (with_reducible refine below_via (by assumption) ?_ ?_) | (with_reducible refine below_via (later_below _) ?_ ?_) | (with_reducible exact Nat.le_refl _) | omega | (simp; omega) | (simp; done)))
  | true =>
    cases hE : ((x.funcs.length : Int) == 1) with
    | false =>
      go_enter Tryz.func76, Tryz.ntmps76
      go_wp2_with (first | (go_at_call 98; (with_reducible refine (HC.out _).mono ?_); rintro e w1 ⟨rfl, hb⟩; (refine mem hb ?_; intro N hN hz hc hf; (try simp at hN); subst hN)))
      go_returns
      refine ⟨rfl, ?_⟩
      (repeat' (first | (with_reducible exact Below.refl _ _) | (with_reducible assumption) | (with_reducible refine Below.alloc ?_ ?_ _) | (with_reducible refine below_drewN ?_ _) | (with_reducible refine Below.drew ?_) | (with_reducible refine Below.setCell ?_ ?_ _) | (with_reducible refine below_via (by assumption) ?_ ?_) | (with_reducible refine below_via (later_below _) ?_ ?_) | (with_reducible exact Nat.le_refl _) | omega | (simp; omega) | (simp; done)))
    | true =>
      go_enter Tryz.func76, Tryz.ntmps76
      go_wp2_with (first | (go_at_call 98; (with_reducible refine (HC.out _).mono ?_); rintro e w1 ⟨rfl, hb⟩; (refine mem hb ?_; intro N hN hz hc hf; (try simp at hN); subst hN)) | (go_at_call 101; (with_reducible refine (HP.out _ ?_).mono ?_); (focus ((repeat' (first | (with_reducible exact Below.refl _ _) | (with_reducible assumption) | (with_reducible refine Below.alloc ?_ ?_ _) | (with_reducible refine below_drewN ?_ _) | (with_reducible refine Below.drew ?_) | (with_reducible refine Below.setCell ?_ ?_ _) | (with_reducible refine below_via (by assumption) ?_ ?_) | (with_reducible refine below_via (later_below _) ?_ ?_) | (with_reducible exact Nat.le_refl _) | omega | (simp; omega) | (simp; done))))); rintro e w3 ⟨rfl, m3, rfl⟩; (refine mem hb ?_; intro N hN hz hc hf; (try simp at hN); subst hN)))
      go_returns
      refine ⟨rfl, ?_⟩
      (repeat' (first | (with_reducible exact Below.refl _ _) | (with_reducible assumption) | (with_reducible refine Below.alloc ?_ ?_ _) | (with_reducible refine below_drewN ?_ _) | (with_reducible refine Below.drew ?_) | (with_reducible refine Below.setCell ?_ ?_ _) | (with_reducible refine below_via (by assumption) ?_ ?_) | (with_reducible refine below_via (later_below _) ?_ ?_) | (with_reducible exact Nat.le_refl _) | omega | (simp; omega) | (simp; done)))

set_option maxHeartbeats 3200000 in
set_option maxRecDepth 100000 in
theorem rfm12 (hk : x.k = 12) (hl : 0 ≤ x.ln) : Calls Tryz.prog 76 #[x.v, .bool inn, .slice an names.length cn] w fun e w' => e = .returned (.bool (onlyB x (wantX 0 0 0 ⟨#[]⟩ x.aA x.aC x.args none 0 []) && x.args.all (fun y => y.k == 13 || y.k == 14))) ∧ Below w.heap.size w w' := by
  have dl : decide (x.ln < 0) = false := decide_eq_false (by omega)
  have d1 : (x.k == 1) = false := by simp; omega
  have d2 : (x.k == 2) = false := by simp; omega
  have d3 : (x.k == 3) = false := by simp; omega
  have d4 : (x.k == 4) = false := by simp; omega
  have d5 : (x.k == 5) = false := by simp; omega
  have d6 : (x.k == 6) = false := by simp; omega
  have d7 : (x.k == 7) = false := by simp; omega
  have d8 : (x.k == 8) = false := by simp; omega
  have d9 : (x.k == 9) = false := by simp; omega
  have d10 : (x.k == 10) = false := by simp; omega
  have d11 : (x.k == 11) = false := by simp; omega
  have d13 : (x.k == 13) = false := by simp; omega
  have d14 : (x.k == 14) = false := by simp; omega
  have d15 : (x.k == 15) = false := by simp; omega
  have d16 : (x.k == 16) = false := by simp; omega
  have d17 : (x.k == 17) = false := by simp; omega
  have d18 : (x.k == 18) = false := by simp; omega
  have d19 : (x.k == 19) = false := by simp; omega
  have d12 : (x.k == 12) = true := by simpa using hk
  have h0 := ((inX_iff x).1 hin).1
  have g1 := h0.ai.1
  have g2 := h0.ai.2.1
  have g3 := h0.fi.1
  have g4 := h0.fi.2.1
  have g5 : (x.args.length : Int) ≤ 9223372036854775807 := by omega
  have g6 : (x.funcs.length : Int) ≤ 9223372036854775807 := by omega
  clear g1 g2 g3 g4
  obtain ⟨C, hC⟩ : ∃ c, onlyB x (wantX 0 0 0 ⟨#[]⟩ x.aA x.aC x.args none 0 []) = c := ⟨_, rfl⟩
  have HC : Hid (∀ W, Calls Tryz.prog 98 #[x.v, .agg #[.int .i64 0, .int .i64 0, .int .i64 0, .int .i64 0, .int .i64 0, .string ⟨#[]⟩, .slice x.aA x.args.length x.aC, .slice none 0 0]] W fun e W' => e = .returned (.bool C) ∧ Below W.heap.size W W') := fun W => hC ▸ ronly_any x (wantX 0 0 0 ⟨#[]⟩ x.aA x.aC x.args none 0 []) W
  rw [hC]
  have HP : Hid (∀ W, Below w.heap.size w W → Calls Tryz.prog 102 #[.slice x.aA x.args.length x.aC] W fun e W' => e = .returned (.bool (x.args.all (fun y => y.k == 13 || y.k == 14))) ∧ ∃ m, W' = W.drewN m) := fun W hW => ritems_any x.args x.aA x.aC W.heap.size W h0.ai ((h0.still (still_of hW (Nat.le_refl _)) hW.size).aAt)
  obtain ⟨Q, hQ⟩ : ∃ q, x.args.all (fun y => y.k == 13 || y.k == 14) = q := ⟨_, rfl⟩
  rw [hQ] at HP ⊢
  clear hC hQ hk hl h0
  clear hin
  cases C with
  | false =>
    go_enter Tryz.func76, Tryz.ntmps76
    go_wp2_with (first | (go_at_call 98; (with_reducible refine (HC.out _).mono ?_); rintro e w1 ⟨rfl, hb⟩; (refine mem hb ?_; intro N hN hz hc hf; (try simp at hN); subst hN)))
    go_returns
    refine ⟨rfl, ?_⟩
    (repeat' (first | (with_reducible exact Below.refl _ _) | (with_reducible assumption) | (with_reducible refine Below.alloc ?_ ?_ _) | (with_reducible refine below_drewN ?_ _) | (with_reducible refine Below.drew ?_) | (with_reducible refine Below.setCell ?_ ?_ _) | (with_reducible refine below_via (by assumption) ?_ ?_) | (with_reducible refine below_via (later_below _) ?_ ?_) | (with_reducible exact Nat.le_refl _) | omega | (simp; omega) | (simp; done)))
  | true =>
    go_enter Tryz.func76, Tryz.ntmps76
    go_wp2_with (first | (go_at_call 98; (with_reducible refine (HC.out _).mono ?_); rintro e w1 ⟨rfl, hb⟩; (refine mem hb ?_; intro N hN hz hc hf; (try simp at hN); subst hN)) | (go_at_call 102; (with_reducible refine (HP.out _ ?_).mono ?_); (focus ((repeat' (first | (with_reducible exact Below.refl _ _) | (with_reducible assumption) | (with_reducible refine Below.alloc ?_ ?_ _) | (with_reducible refine below_drewN ?_ _) | (with_reducible refine Below.drew ?_) | (with_reducible refine Below.setCell ?_ ?_ _) | (with_reducible refine below_via (by assumption) ?_ ?_) | (with_reducible refine below_via (later_below _) ?_ ?_) | (with_reducible exact Nat.le_refl _) | omega | (simp; omega) | (simp; done))))); rintro e w3 ⟨rfl, m3, rfl⟩; (refine mem hb ?_; intro N hN hz hc hf; (try simp at hN); subst hN)))
    go_returns
    refine ⟨rfl, ?_⟩
    (repeat' (first | (with_reducible exact Below.refl _ _) | (with_reducible assumption) | (with_reducible refine Below.alloc ?_ ?_ _) | (with_reducible refine below_drewN ?_ _) | (with_reducible refine Below.drew ?_) | (with_reducible refine Below.setCell ?_ ?_ _) | (with_reducible refine below_via (by assumption) ?_ ?_) | (with_reducible refine below_via (later_below _) ?_ ?_) | (with_reducible exact Nat.le_refl _) | omega | (simp; omega) | (simp; done)))

set_option maxHeartbeats 3200000 in
set_option maxRecDepth 100000 in
theorem rfm13 (hk : x.k = 13) (hl : 0 ≤ x.ln) : Calls Tryz.prog 76 #[x.v, .bool inn, .slice an names.length cn] w fun e w' => e = .returned (.bool (onlyB x (wantX 0 0 0 ⟨#[]⟩ x.aA x.aC x.args none 0 []) && ((x.args.length : Int) == 1 && inn))) ∧ Below w.heap.size w w' := by
  have dl : decide (x.ln < 0) = false := decide_eq_false (by omega)
  have d1 : (x.k == 1) = false := by simp; omega
  have d2 : (x.k == 2) = false := by simp; omega
  have d3 : (x.k == 3) = false := by simp; omega
  have d4 : (x.k == 4) = false := by simp; omega
  have d5 : (x.k == 5) = false := by simp; omega
  have d6 : (x.k == 6) = false := by simp; omega
  have d7 : (x.k == 7) = false := by simp; omega
  have d8 : (x.k == 8) = false := by simp; omega
  have d9 : (x.k == 9) = false := by simp; omega
  have d10 : (x.k == 10) = false := by simp; omega
  have d11 : (x.k == 11) = false := by simp; omega
  have d12 : (x.k == 12) = false := by simp; omega
  have d14 : (x.k == 14) = false := by simp; omega
  have d15 : (x.k == 15) = false := by simp; omega
  have d16 : (x.k == 16) = false := by simp; omega
  have d17 : (x.k == 17) = false := by simp; omega
  have d18 : (x.k == 18) = false := by simp; omega
  have d19 : (x.k == 19) = false := by simp; omega
  have d13 : (x.k == 13) = true := by simpa using hk
  have h0 := ((inX_iff x).1 hin).1
  have g1 := h0.ai.1
  have g2 := h0.ai.2.1
  have g3 := h0.fi.1
  have g4 := h0.fi.2.1
  have g5 : (x.args.length : Int) ≤ 9223372036854775807 := by omega
  have g6 : (x.funcs.length : Int) ≤ 9223372036854775807 := by omega
  clear g1 g2 g3 g4
  obtain ⟨C, hC⟩ : ∃ c, onlyB x (wantX 0 0 0 ⟨#[]⟩ x.aA x.aC x.args none 0 []) = c := ⟨_, rfl⟩
  have HC : Hid (∀ W, Calls Tryz.prog 98 #[x.v, .agg #[.int .i64 0, .int .i64 0, .int .i64 0, .int .i64 0, .int .i64 0, .string ⟨#[]⟩, .slice x.aA x.args.length x.aC, .slice none 0 0]] W fun e W' => e = .returned (.bool C) ∧ Below W.heap.size W W') := fun W => hC ▸ ronly_any x (wantX 0 0 0 ⟨#[]⟩ x.aA x.aC x.args none 0 []) W
  rw [hC]
  clear hC hk hl h0
  clear hin
  cases C with
  | false =>
    go_enter Tryz.func76, Tryz.ntmps76
    go_wp2_with (first | (go_at_call 98; (with_reducible refine (HC.out _).mono ?_); rintro e w1 ⟨rfl, hb⟩; (refine mem hb ?_; intro N hN hz hc hf; (try simp at hN); subst hN)))
    go_returns
    refine ⟨rfl, ?_⟩
    (repeat' (first | (with_reducible exact Below.refl _ _) | (with_reducible assumption) | (with_reducible refine Below.alloc ?_ ?_ _) | (with_reducible refine below_drewN ?_ _) | (with_reducible refine Below.drew ?_) | (with_reducible refine Below.setCell ?_ ?_ _) | (with_reducible refine below_via (by assumption) ?_ ?_) | (with_reducible refine below_via (later_below _) ?_ ?_) | (with_reducible exact Nat.le_refl _) | omega | (simp; omega) | (simp; done)))
  | true =>
    cases hE : ((x.args.length : Int) == 1) with
    | false =>
      go_enter Tryz.func76, Tryz.ntmps76
      go_wp2_with (first | (go_at_call 98; (with_reducible refine (HC.out _).mono ?_); rintro e w1 ⟨rfl, hb⟩; (refine mem hb ?_; intro N hN hz hc hf; (try simp at hN); subst hN)))
      go_returns
      refine ⟨rfl, ?_⟩
      (repeat' (first | (with_reducible exact Below.refl _ _) | (with_reducible assumption) | (with_reducible refine Below.alloc ?_ ?_ _) | (with_reducible refine below_drewN ?_ _) | (with_reducible refine Below.drew ?_) | (with_reducible refine Below.setCell ?_ ?_ _) | (with_reducible refine below_via (by assumption) ?_ ?_) | (with_reducible refine below_via (later_below _) ?_ ?_) | (with_reducible exact Nat.le_refl _) | omega | (simp; omega) | (simp; done)))
    | true =>
      go_enter Tryz.func76, Tryz.ntmps76
      go_wp2_with (first | (go_at_call 98; (with_reducible refine (HC.out _).mono ?_); rintro e w1 ⟨rfl, hb⟩; (refine mem hb ?_; intro N hN hz hc hf; (try simp at hN); subst hN)))
      go_returns
      refine ⟨rfl, ?_⟩
      (repeat' (first | (with_reducible exact Below.refl _ _) | (with_reducible assumption) | (with_reducible refine Below.alloc ?_ ?_ _) | (with_reducible refine below_drewN ?_ _) | (with_reducible refine Below.drew ?_) | (with_reducible refine Below.setCell ?_ ?_ _) | (with_reducible refine below_via (by assumption) ?_ ?_) | (with_reducible refine below_via (later_below _) ?_ ?_) | (with_reducible exact Nat.le_refl _) | omega | (simp; omega) | (simp; done)))

set_option maxHeartbeats 3200000 in
set_option maxRecDepth 100000 in
theorem rfm14 (hk : x.k = 14) (hl : 0 ≤ x.ln) : Calls Tryz.prog 76 #[x.v, .bool inn, .slice an names.length cn] w fun e w' => e = .returned (.bool (onlyB x (wantX 0 0 0 ⟨#[]⟩ x.aA x.aC x.args none 0 []) && ((x.args.length : Int) == 2 && inn))) ∧ Below w.heap.size w w' := by
  have dl : decide (x.ln < 0) = false := decide_eq_false (by omega)
  have d1 : (x.k == 1) = false := by simp; omega
  have d2 : (x.k == 2) = false := by simp; omega
  have d3 : (x.k == 3) = false := by simp; omega
  have d4 : (x.k == 4) = false := by simp; omega
  have d5 : (x.k == 5) = false := by simp; omega
  have d6 : (x.k == 6) = false := by simp; omega
  have d7 : (x.k == 7) = false := by simp; omega
  have d8 : (x.k == 8) = false := by simp; omega
  have d9 : (x.k == 9) = false := by simp; omega
  have d10 : (x.k == 10) = false := by simp; omega
  have d11 : (x.k == 11) = false := by simp; omega
  have d12 : (x.k == 12) = false := by simp; omega
  have d13 : (x.k == 13) = false := by simp; omega
  have d15 : (x.k == 15) = false := by simp; omega
  have d16 : (x.k == 16) = false := by simp; omega
  have d17 : (x.k == 17) = false := by simp; omega
  have d18 : (x.k == 18) = false := by simp; omega
  have d19 : (x.k == 19) = false := by simp; omega
  have d14 : (x.k == 14) = true := by simpa using hk
  have h0 := ((inX_iff x).1 hin).1
  have g1 := h0.ai.1
  have g2 := h0.ai.2.1
  have g3 := h0.fi.1
  have g4 := h0.fi.2.1
  have g5 : (x.args.length : Int) ≤ 9223372036854775807 := by omega
  have g6 : (x.funcs.length : Int) ≤ 9223372036854775807 := by omega
  clear g1 g2 g3 g4
  obtain ⟨C, hC⟩ : ∃ c, onlyB x (wantX 0 0 0 ⟨#[]⟩ x.aA x.aC x.args none 0 []) = c := ⟨_, rfl⟩
  have HC : Hid (∀ W, Calls Tryz.prog 98 #[x.v, .agg #[.int .i64 0, .int .i64 0, .int .i64 0, .int .i64 0, .int .i64 0, .string ⟨#[]⟩, .slice x.aA x.args.length x.aC, .slice none 0 0]] W fun e W' => e = .returned (.bool C) ∧ Below W.heap.size W W') := fun W => hC ▸ ronly_any x (wantX 0 0 0 ⟨#[]⟩ x.aA x.aC x.args none 0 []) W
  rw [hC]
  clear hC hk hl h0
  clear hin
  cases C with
  | false =>
    go_enter Tryz.func76, Tryz.ntmps76
    go_wp2_with (first | (go_at_call 98; (with_reducible refine (HC.out _).mono ?_); rintro e w1 ⟨rfl, hb⟩; (refine mem hb ?_; intro N hN hz hc hf; (try simp at hN); subst hN)))
    go_returns
    refine ⟨rfl, ?_⟩
    (repeat' (first | (with_reducible exact Below.refl _ _) | (with_reducible assumption) | (with_reducible refine Below.alloc ?_ ?_ _) | (with_reducible refine below_drewN ?_ _) | (with_reducible refine Below.drew ?_) | (with_reducible refine Below.setCell ?_ ?_ _) | (with_reducible refine below_via (by assumption) ?_ ?_) | (with_reducible refine below_via (later_below _) ?_ ?_) | (with_reducible exact Nat.le_refl _) | omega | (simp; omega) | (simp; done)))
  | true =>
    cases hE : ((x.args.length : Int) == 2) with
    | false =>
      go_enter Tryz.func76, Tryz.ntmps76
      go_wp2_with (first | (go_at_call 98; (with_reducible refine (HC.out _).mono ?_); rintro e w1 ⟨rfl, hb⟩; (refine mem hb ?_; intro N hN hz hc hf; (try simp at hN); subst hN)))
      go_returns
      refine ⟨rfl, ?_⟩
      (repeat' (first | (with_reducible exact Below.refl _ _) | (with_reducible assumption) | (with_reducible refine Below.alloc ?_ ?_ _) | (with_reducible refine below_drewN ?_ _) | (with_reducible refine Below.drew ?_) | (with_reducible refine Below.setCell ?_ ?_ _) | (with_reducible refine below_via (by assumption) ?_ ?_) | (with_reducible refine below_via (later_below _) ?_ ?_) | (with_reducible exact Nat.le_refl _) | omega | (simp; omega) | (simp; done)))
    | true =>
      go_enter Tryz.func76, Tryz.ntmps76
      go_wp2_with (first | (go_at_call 98; (with_reducible refine (HC.out _).mono ?_); rintro e w1 ⟨rfl, hb⟩; (refine mem hb ?_; intro N hN hz hc hf; (try simp at hN); subst hN)))
      go_returns
      refine ⟨rfl, ?_⟩
      (repeat' (first | (with_reducible exact Below.refl _ _) | (with_reducible assumption) | (with_reducible refine Below.alloc ?_ ?_ _) | (with_reducible refine below_drewN ?_ _) | (with_reducible refine Below.drew ?_) | (with_reducible refine Below.setCell ?_ ?_ _) | (with_reducible refine below_via (by assumption) ?_ ?_) | (with_reducible refine below_via (later_below _) ?_ ?_) | (with_reducible exact Nat.le_refl _) | omega | (simp; omega) | (simp; done)))

set_option maxHeartbeats 3200000 in
set_option maxRecDepth 100000 in
theorem rfm15 (hk : x.k = 15) (hl : 0 ≤ x.ln) : Calls Tryz.prog 76 #[x.v, .bool inn, .slice an names.length cn] w fun e w' => e = .returned (.bool (onlyB x (wantX x.op 0 0 ⟨#[]⟩ x.aA x.aC x.args none 0 []) && ((x.args.length : Int) == 1 && (decide (20 ≤ x.op) && decide (x.op ≤ 23))))) ∧ Below w.heap.size w w' := by
  have dl : decide (x.ln < 0) = false := decide_eq_false (by omega)
  have d1 : (x.k == 1) = false := by simp; omega
  have d2 : (x.k == 2) = false := by simp; omega
  have d3 : (x.k == 3) = false := by simp; omega
  have d4 : (x.k == 4) = false := by simp; omega
  have d5 : (x.k == 5) = false := by simp; omega
  have d6 : (x.k == 6) = false := by simp; omega
  have d7 : (x.k == 7) = false := by simp; omega
  have d8 : (x.k == 8) = false := by simp; omega
  have d9 : (x.k == 9) = false := by simp; omega
  have d10 : (x.k == 10) = false := by simp; omega
  have d11 : (x.k == 11) = false := by simp; omega
  have d12 : (x.k == 12) = false := by simp; omega
  have d13 : (x.k == 13) = false := by simp; omega
  have d14 : (x.k == 14) = false := by simp; omega
  have d16 : (x.k == 16) = false := by simp; omega
  have d17 : (x.k == 17) = false := by simp; omega
  have d18 : (x.k == 18) = false := by simp; omega
  have d19 : (x.k == 19) = false := by simp; omega
  have d15 : (x.k == 15) = true := by simpa using hk
  have h0 := ((inX_iff x).1 hin).1
  have g1 := h0.ai.1
  have g2 := h0.ai.2.1
  have g3 := h0.fi.1
  have g4 := h0.fi.2.1
  have g5 : (x.args.length : Int) ≤ 9223372036854775807 := by omega
  have g6 : (x.funcs.length : Int) ≤ 9223372036854775807 := by omega
  clear g1 g2 g3 g4
  obtain ⟨C, hC⟩ : ∃ c, onlyB x (wantX x.op 0 0 ⟨#[]⟩ x.aA x.aC x.args none 0 []) = c := ⟨_, rfl⟩
  have HC : Hid (∀ W, Calls Tryz.prog 98 #[x.v, .agg #[.int .i64 0, .int .i64 x.op, .int .i64 0, .int .i64 0, .int .i64 0, .string ⟨#[]⟩, .slice x.aA x.args.length x.aC, .slice none 0 0]] W fun e W' => e = .returned (.bool C) ∧ Below W.heap.size W W') := fun W => hC ▸ ronly_any x (wantX x.op 0 0 ⟨#[]⟩ x.aA x.aC x.args none 0 []) W
  rw [hC]
  clear hC hk hl h0
  clear hin
  cases C with
  | false =>
    go_enter Tryz.func76, Tryz.ntmps76
    go_wp2_with (first | (go_at_call 98; (with_reducible refine (HC.out _).mono ?_); rintro e w1 ⟨rfl, hb⟩; (refine mem hb ?_; intro N hN hz hc hf; (try simp at hN); subst hN)))
    go_returns
    refine ⟨rfl, ?_⟩
    (repeat' (first | (with_reducible exact Below.refl _ _) | (with_reducible assumption) | (with_reducible refine Below.alloc ?_ ?_ _) | (with_reducible refine below_drewN ?_ _) | (with_reducible refine Below.drew ?_) | (with_reducible refine Below.setCell ?_ ?_ _) | (with_reducible refine below_via (by assumption) ?_ ?_) | (with_reducible refine below_via (later_below _) ?_ ?_) | (with_reducible exact Nat.le_refl _) | omega | (simp; omega) | (simp; done)))
  | true =>
    cases hE : ((x.args.length : Int) == 1) with
    | false =>
      go_enter Tryz.func76, Tryz.ntmps76
      go_wp2_with (first | (go_at_call 98; (with_reducible refine (HC.out _).mono ?_); rintro e w1 ⟨rfl, hb⟩; (refine mem hb ?_; intro N hN hz hc hf; (try simp at hN); subst hN)))
      go_returns
      refine ⟨rfl, ?_⟩
      (repeat' (first | (with_reducible exact Below.refl _ _) | (with_reducible assumption) | (with_reducible refine Below.alloc ?_ ?_ _) | (with_reducible refine below_drewN ?_ _) | (with_reducible refine Below.drew ?_) | (with_reducible refine Below.setCell ?_ ?_ _) | (with_reducible refine below_via (by assumption) ?_ ?_) | (with_reducible refine below_via (later_below _) ?_ ?_) | (with_reducible exact Nat.le_refl _) | omega | (simp; omega) | (simp; done)))
    | true =>
      cases hG : decide (20 ≤ x.op) with
      | false =>
        go_enter Tryz.func76, Tryz.ntmps76
        go_wp2_with (first | (go_at_call 98; (with_reducible refine (HC.out _).mono ?_); rintro e w1 ⟨rfl, hb⟩; (refine mem hb ?_; intro N hN hz hc hf; (try simp at hN); subst hN)))
        go_returns
        refine ⟨rfl, ?_⟩
        (repeat' (first | (with_reducible exact Below.refl _ _) | (with_reducible assumption) | (with_reducible refine Below.alloc ?_ ?_ _) | (with_reducible refine below_drewN ?_ _) | (with_reducible refine Below.drew ?_) | (with_reducible refine Below.setCell ?_ ?_ _) | (with_reducible refine below_via (by assumption) ?_ ?_) | (with_reducible refine below_via (later_below _) ?_ ?_) | (with_reducible exact Nat.le_refl _) | omega | (simp; omega) | (simp; done)))
      | true =>
        go_enter Tryz.func76, Tryz.ntmps76
        go_wp2_with (first | (go_at_call 98; (with_reducible refine (HC.out _).mono ?_); rintro e w1 ⟨rfl, hb⟩; (refine mem hb ?_; intro N hN hz hc hf; (try simp at hN); subst hN)))
        go_returns
        refine ⟨rfl, ?_⟩
        (repeat' (first | (with_reducible exact Below.refl _ _) | (with_reducible assumption) | (with_reducible refine Below.alloc ?_ ?_ _) | (with_reducible refine below_drewN ?_ _) | (with_reducible refine Below.drew ?_) | (with_reducible refine Below.setCell ?_ ?_ _) | (with_reducible refine below_via (by assumption) ?_ ?_) | (with_reducible refine below_via (later_below _) ?_ ?_) | (with_reducible exact Nat.le_refl _) | omega | (simp; omega) | (simp; done)))

set_option maxHeartbeats 3200000 in
set_option maxRecDepth 100000 in
theorem rfm16 (hk : x.k = 16) (hl : 0 ≤ x.ln) : Calls Tryz.prog 76 #[x.v, .bool inn, .slice an names.length cn] w fun e w' => e = .returned (.bool (onlyB x (wantX x.op 0 0 ⟨#[]⟩ x.aA x.aC x.args none 0 []) && ((x.args.length : Int) == 2 && (decide (1 ≤ x.op) && decide (x.op ≤ 19))))) ∧ Below w.heap.size w w' := by
  have dl : decide (x.ln < 0) = false := decide_eq_false (by omega)
  have d1 : (x.k == 1) = false := by simp; omega
  have d2 : (x.k == 2) = false := by simp; omega
  have d3 : (x.k == 3) = false := by simp; omega
  have d4 : (x.k == 4) = false := by simp; omega
  have d5 : (x.k == 5) = false := by simp; omega
  have d6 : (x.k == 6) = false := by simp; omega
  have d7 : (x.k == 7) = false := by simp; omega
  have d8 : (x.k == 8) = false := by simp; omega
  have d9 : (x.k == 9) = false := by simp; omega
  have d10 : (x.k == 10) = false := by simp; omega
  have d11 : (x.k == 11) = false := by simp; omega
  have d12 : (x.k == 12) = false := by simp; omega
  have d13 : (x.k == 13) = false := by simp; omega
  have d14 : (x.k == 14) = false := by simp; omega
  have d15 : (x.k == 15) = false := by simp; omega
  have d17 : (x.k == 17) = false := by simp; omega
  have d18 : (x.k == 18) = false := by simp; omega
  have d19 : (x.k == 19) = false := by simp; omega
  have d16 : (x.k == 16) = true := by simpa using hk
  have h0 := ((inX_iff x).1 hin).1
  have g1 := h0.ai.1
  have g2 := h0.ai.2.1
  have g3 := h0.fi.1
  have g4 := h0.fi.2.1
  have g5 : (x.args.length : Int) ≤ 9223372036854775807 := by omega
  have g6 : (x.funcs.length : Int) ≤ 9223372036854775807 := by omega
  clear g1 g2 g3 g4
  obtain ⟨C, hC⟩ : ∃ c, onlyB x (wantX x.op 0 0 ⟨#[]⟩ x.aA x.aC x.args none 0 []) = c := ⟨_, rfl⟩
  have HC : Hid (∀ W, Calls Tryz.prog 98 #[x.v, .agg #[.int .i64 0, .int .i64 x.op, .int .i64 0, .int .i64 0, .int .i64 0, .string ⟨#[]⟩, .slice x.aA x.args.length x.aC, .slice none 0 0]] W fun e W' => e = .returned (.bool C) ∧ Below W.heap.size W W') := fun W => hC ▸ ronly_any x (wantX x.op 0 0 ⟨#[]⟩ x.aA x.aC x.args none 0 []) W
  rw [hC]
  clear hC hk hl h0
  clear hin
  cases C with
  | false =>
    go_enter Tryz.func76, Tryz.ntmps76
    go_wp2_with (first | (go_at_call 98; (with_reducible refine (HC.out _).mono ?_); rintro e w1 ⟨rfl, hb⟩; (refine mem hb ?_; intro N hN hz hc hf; (try simp at hN); subst hN)))
    go_returns
    refine ⟨rfl, ?_⟩
    (repeat' (first | (with_reducible exact Below.refl _ _) | (with_reducible assumption) | (with_reducible refine Below.alloc ?_ ?_ _) | (with_reducible refine below_drewN ?_ _) | (with_reducible refine Below.drew ?_) | (with_reducible refine Below.setCell ?_ ?_ _) | (with_reducible refine below_via (by assumption) ?_ ?_) | (with_reducible refine below_via (later_below _) ?_ ?_) | (with_reducible exact Nat.le_refl _) | omega | (simp; omega) | (simp; done)))
  | true =>
    cases hE : ((x.args.length : Int) == 2) with
    | false =>
      go_enter Tryz.func76, Tryz.ntmps76
      go_wp2_with (first | (go_at_call 98; (with_reducible refine (HC.out _).mono ?_); rintro e w1 ⟨rfl, hb⟩; (refine mem hb ?_; intro N hN hz hc hf; (try simp at hN); subst hN)))
      go_returns
      refine ⟨rfl, ?_⟩
      (repeat' (first | (with_reducible exact Below.refl _ _) | (with_reducible assumption) | (with_reducible refine Below.alloc ?_ ?_ _) | (with_reducible refine below_drewN ?_ _) | (with_reducible refine Below.drew ?_) | (with_reducible refine Below.setCell ?_ ?_ _) | (with_reducible refine below_via (by assumption) ?_ ?_) | (with_reducible refine below_via (later_below _) ?_ ?_) | (with_reducible exact Nat.le_refl _) | omega | (simp; omega) | (simp; done)))
    | true =>
      cases hG : decide (1 ≤ x.op) with
      | false =>
        go_enter Tryz.func76, Tryz.ntmps76
        go_wp2_with (first | (go_at_call 98; (with_reducible refine (HC.out _).mono ?_); rintro e w1 ⟨rfl, hb⟩; (refine mem hb ?_; intro N hN hz hc hf; (try simp at hN); subst hN)))
        go_returns
        refine ⟨rfl, ?_⟩
        (repeat' (first | (with_reducible exact Below.refl _ _) | (with_reducible assumption) | (with_reducible refine Below.alloc ?_ ?_ _) | (with_reducible refine below_drewN ?_ _) | (with_reducible refine Below.drew ?_) | (with_reducible refine Below.setCell ?_ ?_ _) | (with_reducible refine below_via (by assumption) ?_ ?_) | (with_reducible refine below_via (later_below _) ?_ ?_) | (with_reducible exact Nat.le_refl _) | omega | (simp; omega) | (simp; done)))
      | true =>
        go_enter Tryz.func76, Tryz.ntmps76
        go_wp2_with (first | (go_at_call 98; (with_reducible refine (HC.out _).mono ?_); rintro e w1 ⟨rfl, hb⟩; (refine mem hb ?_; intro N hN hz hc hf; (try simp at hN); subst hN)))
        go_returns
        refine ⟨rfl, ?_⟩
        (repeat' (first | (with_reducible exact Below.refl _ _) | (with_reducible assumption) | (with_reducible refine Below.alloc ?_ ?_ _) | (with_reducible refine below_drewN ?_ _) | (with_reducible refine Below.drew ?_) | (with_reducible refine Below.setCell ?_ ?_ _) | (with_reducible refine below_via (by assumption) ?_ ?_) | (with_reducible refine below_via (later_below _) ?_ ?_) | (with_reducible exact Nat.le_refl _) | omega | (simp; omega) | (simp; done)))

set_option maxHeartbeats 3200000 in
set_option maxRecDepth 100000 in
theorem rfm17 (hk : x.k = 17) (hl : 0 ≤ x.ln) : Calls Tryz.prog 76 #[x.v, .bool inn, .slice an names.length cn] w fun e w' => e = .returned (.bool (onlyB x (wantX 0 0 0 ⟨#[]⟩ x.aA x.aC x.args none 0 []) && ((x.args.length : Int) == 2))) ∧ Below w.heap.size w w' := by
  have dl : decide (x.ln < 0) = false := decide_eq_false (by omega)
  have d1 : (x.k == 1) = false := by simp; omega
  have d2 : (x.k == 2) = false := by simp; omega
  have d3 : (x.k == 3) = false := by simp; omega
  have d4 : (x.k == 4) = false := by simp; omega
  have d5 : (x.k == 5) = false := by simp; omega
  have d6 : (x.k == 6) = false := by simp; omega
  have d7 : (x.k == 7) = false := by simp; omega
  have d8 : (x.k == 8) = false := by simp; omega
  have d9 : (x.k == 9) = false := by simp; omega
  have d10 : (x.k == 10) = false := by simp; omega
  have d11 : (x.k == 11) = false := by simp; omega
  have d12 : (x.k == 12) = false := by simp; omega
  have d13 : (x.k == 13) = false := by simp; omega
  have d14 : (x.k == 14) = false := by simp; omega
  have d15 : (x.k == 15) = false := by simp; omega
  have d16 : (x.k == 16) = false := by simp; omega
  have d18 : (x.k == 18) = false := by simp; omega
  have d19 : (x.k == 19) = false := by simp; omega
  have d17 : (x.k == 17) = true := by simpa using hk
  have h0 := ((inX_iff x).1 hin).1
  have g1 := h0.ai.1
  have g2 := h0.ai.2.1
  have g3 := h0.fi.1
  have g4 := h0.fi.2.1
  have g5 : (x.args.length : Int) ≤ 9223372036854775807 := by omega
  have g6 : (x.funcs.length : Int) ≤ 9223372036854775807 := by omega
  clear g1 g2 g3 g4
  obtain ⟨C, hC⟩ : ∃ c, onlyB x (wantX 0 0 0 ⟨#[]⟩ x.aA x.aC x.args none 0 []) = c := ⟨_, rfl⟩
  have HC : Hid (∀ W, Calls Tryz.prog 98 #[x.v, .agg #[.int .i64 0, .int .i64 0, .int .i64 0, .int .i64 0, .int .i64 0, .string ⟨#[]⟩, .slice x.aA x.args.length x.aC, .slice none 0 0]] W fun e W' => e = .returned (.bool C) ∧ Below W.heap.size W W') := fun W => hC ▸ ronly_any x (wantX 0 0 0 ⟨#[]⟩ x.aA x.aC x.args none 0 []) W
  rw [hC]
  clear hC hk hl h0
  clear hin
  cases C with
  | false =>
    go_enter Tryz.func76, Tryz.ntmps76
    go_wp2_with (first | (go_at_call 98; (with_reducible refine (HC.out _).mono ?_); rintro e w1 ⟨rfl, hb⟩; (refine mem hb ?_; intro N hN hz hc hf; (try simp at hN); subst hN)))
    go_returns
    refine ⟨rfl, ?_⟩
    (repeat' (first | (with_reducible exact Below.refl _ _) | (with_reducible assumption) | (with_reducible refine Below.alloc ?_ ?_ _) | (with_reducible refine below_drewN ?_ _) | (with_reducible refine Below.drew ?_) | (with_reducible refine Below.setCell ?_ ?_ _) | (with_reducible refine below_via (by assumption) ?_ ?_) | (with_reducible refine below_via (later_below _) ?_ ?_) | (with_reducible exact Nat.le_refl _) | omega | (simp; omega) | (simp; done)))
  | true =>
    cases hE : ((x.args.length : Int) == 2) with
    | false =>
      go_enter Tryz.func76, Tryz.ntmps76
      go_wp2_with (first | (go_at_call 98; (with_reducible refine (HC.out _).mono ?_); rintro e w1 ⟨rfl, hb⟩; (refine mem hb ?_; intro N hN hz hc hf; (try simp at hN); subst hN)))
      go_returns
      refine ⟨rfl, ?_⟩
      (repeat' (first | (with_reducible exact Below.refl _ _) | (with_reducible assumption) | (with_reducible refine Below.alloc ?_ ?_ _) | (with_reducible refine below_drewN ?_ _) | (with_reducible refine Below.drew ?_) | (with_reducible refine Below.setCell ?_ ?_ _) | (with_reducible refine below_via (by assumption) ?_ ?_) | (with_reducible refine below_via (later_below _) ?_ ?_) | (with_reducible exact Nat.le_refl _) | omega | (simp; omega) | (simp; done)))
    | true =>
      go_enter Tryz.func76, Tryz.ntmps76
      go_wp2_with (first | (go_at_call 98; (with_reducible refine (HC.out _).mono ?_); rintro e w1 ⟨rfl, hb⟩; (refine mem hb ?_; intro N hN hz hc hf; (try simp at hN); subst hN)))
      go_returns
      refine ⟨rfl, ?_⟩
      (repeat' (first | (with_reducible exact Below.refl _ _) | (with_reducible assumption) | (with_reducible refine Below.alloc ?_ ?_ _) | (with_reducible refine below_drewN ?_ _) | (with_reducible refine Below.drew ?_) | (with_reducible refine Below.setCell ?_ ?_ _) | (with_reducible refine below_via (by assumption) ?_ ?_) | (with_reducible refine below_via (later_below _) ?_ ?_) | (with_reducible exact Nat.le_refl _) | omega | (simp; omega) | (simp; done)))

set_option maxHeartbeats 3200000 in
set_option maxRecDepth 100000 in
theorem rfm18 (hk : x.k = 18) (hl : 0 ≤ x.ln) : Calls Tryz.prog 76 #[x.v, .bool inn, .slice an names.length cn] w fun e w' => e = .returned (.bool (onlyB x (wantX 0 0 0 ⟨#[]⟩ x.aA x.aC x.args none 0 []) && ((x.args.length : Int) == 2))) ∧ Below w.heap.size w w' := by
  have dl : decide (x.ln < 0) = false := decide_eq_false (by omega)
  have d1 : (x.k == 1) = false := by simp; omega
  have d2 : (x.k == 2) = false := by simp; omega
  have d3 : (x.k == 3) = false := by simp; omega
  have d4 : (x.k == 4) = false := by simp; omega
  have d5 : (x.k == 5) = false := by simp; omega
  have d6 : (x.k == 6) = false := by simp; omega
  have d7 : (x.k == 7) = false := by simp; omega
  have d8 : (x.k == 8) = false := by simp; omega
  have d9 : (x.k == 9) = false := by simp; omega
  have d10 : (x.k == 10) = false := by simp; omega
  have d11 : (x.k == 11) = false := by simp; omega
  have d12 : (x.k == 12) = false := by simp; omega
  have d13 : (x.k == 13) = false := by simp; omega
  have d14 : (x.k == 14) = false := by simp; omega
  have d15 : (x.k == 15) = false := by simp; omega
  have d16 : (x.k == 16) = false := by simp; omega
  have d17 : (x.k == 17) = false := by simp; omega
  have d19 : (x.k == 19) = false := by simp; omega
  have d18 : (x.k == 18) = true := by simpa using hk
  have h0 := ((inX_iff x).1 hin).1
  have g1 := h0.ai.1
  have g2 := h0.ai.2.1
  have g3 := h0.fi.1
  have g4 := h0.fi.2.1
  have g5 : (x.args.length : Int) ≤ 9223372036854775807 := by omega
  have g6 : (x.funcs.length : Int) ≤ 9223372036854775807 := by omega
  clear g1 g2 g3 g4
  obtain ⟨C, hC⟩ : ∃ c, onlyB x (wantX 0 0 0 ⟨#[]⟩ x.aA x.aC x.args none 0 []) = c := ⟨_, rfl⟩
  have HC : Hid (∀ W, Calls Tryz.prog 98 #[x.v, .agg #[.int .i64 0, .int .i64 0, .int .i64 0, .int .i64 0, .int .i64 0, .string ⟨#[]⟩, .slice x.aA x.args.length x.aC, .slice none 0 0]] W fun e W' => e = .returned (.bool C) ∧ Below W.heap.size W W') := fun W => hC ▸ ronly_any x (wantX 0 0 0 ⟨#[]⟩ x.aA x.aC x.args none 0 []) W
  rw [hC]
  clear hC hk hl h0
  clear hin
  cases C with
  | false =>
    go_enter Tryz.func76, Tryz.ntmps76
    go_wp2_with (first | (go_at_call 98; (with_reducible refine (HC.out _).mono ?_); rintro e w1 ⟨rfl, hb⟩; (refine mem hb ?_; intro N hN hz hc hf; (try simp at hN); subst hN)))
    go_returns
    refine ⟨rfl, ?_⟩
    (repeat' (first | (with_reducible exact Below.refl _ _) | (with_reducible assumption) | (with_reducible refine Below.alloc ?_ ?_ _) | (with_reducible refine below_drewN ?_ _) | (with_reducible refine Below.drew ?_) | (with_reducible refine Below.setCell ?_ ?_ _) | (with_reducible refine below_via (by assumption) ?_ ?_) | (with_reducible refine below_via (later_below _) ?_ ?_) | (with_reducible exact Nat.le_refl _) | omega | (simp; omega) | (simp; done)))
  | true =>
    cases hE : ((x.args.length : Int) == 2) with
    | false =>
      go_enter Tryz.func76, Tryz.ntmps76
      go_wp2_with (first | (go_at_call 98; (with_reducible refine (HC.out _).mono ?_); rintro e w1 ⟨rfl, hb⟩; (refine mem hb ?_; intro N hN hz hc hf; (try simp at hN); subst hN)))
      go_returns
      refine ⟨rfl, ?_⟩
      (repeat' (first | (with_reducible exact Below.refl _ _) | (with_reducible assumption) | (with_reducible refine Below.alloc ?_ ?_ _) | (with_reducible refine below_drewN ?_ _) | (with_reducible refine Below.drew ?_) | (with_reducible refine Below.setCell ?_ ?_ _) | (with_reducible refine below_via (by assumption) ?_ ?_) | (with_reducible refine below_via (later_below _) ?_ ?_) | (with_reducible exact Nat.le_refl _) | omega | (simp; omega) | (simp; done)))
    | true =>
      go_enter Tryz.func76, Tryz.ntmps76
      go_wp2_with (first | (go_at_call 98; (with_reducible refine (HC.out _).mono ?_); rintro e w1 ⟨rfl, hb⟩; (refine mem hb ?_; intro N hN hz hc hf; (try simp at hN); subst hN)))
      go_returns
      refine ⟨rfl, ?_⟩
      (repeat' (first | (with_reducible exact Below.refl _ _) | (with_reducible assumption) | (with_reducible refine Below.alloc ?_ ?_ _) | (with_reducible refine below_drewN ?_ _) | (with_reducible refine Below.drew ?_) | (with_reducible refine Below.setCell ?_ ?_ _) | (with_reducible refine below_via (by assumption) ?_ ?_) | (with_reducible refine below_via (later_below _) ?_ ?_) | (with_reducible exact Nat.le_refl _) | omega | (simp; omega) | (simp; done)))

set_option maxHeartbeats 3200000 in
set_option maxRecDepth 100000 in
theorem rfm19 (hk : x.k = 19) (hl : 0 ≤ x.ln) : Calls Tryz.prog 76 #[x.v, .bool inn, .slice an names.length cn] w fun e w' => e = .returned (.bool (onlyB x (wantX 0 0 0 ⟨#[]⟩ x.aA x.aC x.args none 0 []) && ((x.args.length : Int) == 1 && (x.args.head?.map multiB).getD false))) ∧ Below w.heap.size w w' := by
  have dl : decide (x.ln < 0) = false := decide_eq_false (by omega)
  have d1 : (x.k == 1) = false := by simp; omega
  have d2 : (x.k == 2) = false := by simp; omega
  have d3 : (x.k == 3) = false := by simp; omega
  have d4 : (x.k == 4) = false := by simp; omega
  have d5 : (x.k == 5) = false := by simp; omega
  have d6 : (x.k == 6) = false := by simp; omega
  have d7 : (x.k == 7) = false := by simp; omega
  have d8 : (x.k == 8) = false := by simp; omega
  have d9 : (x.k == 9) = false := by simp; omega
  have d10 : (x.k == 10) = false := by simp; omega
  have d11 : (x.k == 11) = false := by simp; omega
  have d12 : (x.k == 12) = false := by simp; omega
  have d13 : (x.k == 13) = false := by simp; omega
  have d14 : (x.k == 14) = false := by simp; omega
  have d15 : (x.k == 15) = false := by simp; omega
  have d16 : (x.k == 16) = false := by simp; omega
  have d17 : (x.k == 17) = false := by simp; omega
  have d18 : (x.k == 18) = false := by simp; omega
  have d19 : (x.k == 19) = true := by simpa using hk
  have h0 := ((inX_iff x).1 hin).1
  have g1 := h0.ai.1
  have g2 := h0.ai.2.1
  have g3 := h0.fi.1
  have g4 := h0.fi.2.1
  have g5 : (x.args.length : Int) ≤ 9223372036854775807 := by omega
  have g6 : (x.funcs.length : Int) ≤ 9223372036854775807 := by omega
  clear g1 g2 g3 g4
  obtain ⟨C, hC⟩ : ∃ c, onlyB x (wantX 0 0 0 ⟨#[]⟩ x.aA x.aC x.args none 0 []) = c := ⟨_, rfl⟩
  have HC : Hid (∀ W, Calls Tryz.prog 98 #[x.v, .agg #[.int .i64 0, .int .i64 0, .int .i64 0, .int .i64 0, .int .i64 0, .string ⟨#[]⟩, .slice x.aA x.args.length x.aC, .slice none 0 0]] W fun e W' => e = .returned (.bool C) ∧ Below W.heap.size W W') := fun W => hC ▸ ronly_any x (wantX 0 0 0 ⟨#[]⟩ x.aA x.aC x.args none 0 []) W
  rw [hC]
  cases C with
  | false =>
    clear hC hk hl h0
    clear hin
    go_enter Tryz.func76, Tryz.ntmps76
    go_wp2_with (first | (go_at_call 98; (with_reducible refine (HC.out _).mono ?_); rintro e w1 ⟨rfl, hb⟩; (refine mem hb ?_; intro N hN hz hc hf; (try simp at hN); subst hN)))
    go_returns
    refine ⟨rfl, ?_⟩
    (repeat' (first | (with_reducible exact Below.refl _ _) | (with_reducible assumption) | (with_reducible refine Below.alloc ?_ ?_ _) | (with_reducible refine below_drewN ?_ _) | (with_reducible refine Below.drew ?_) | (with_reducible refine Below.setCell ?_ ?_ _) | (with_reducible refine below_via (by assumption) ?_ ?_) | (with_reducible refine below_via (later_below _) ?_ ?_) | (with_reducible exact Nat.le_refl _) | omega | (simp; omega) | (simp; done)))
  | true =>
    cases hE : ((x.args.length : Int) == 1) with
    | false =>
      clear hC hk hl h0
      clear hin
      go_enter Tryz.func76, Tryz.ntmps76
      go_wp2_with (first | (go_at_call 98; (with_reducible refine (HC.out _).mono ?_); rintro e w1 ⟨rfl, hb⟩; (refine mem hb ?_; intro N hN hz hc hf; (try simp at hN); subst hN)))
      go_returns
      refine ⟨rfl, ?_⟩
      (repeat' (first | (with_reducible exact Below.refl _ _) | (with_reducible assumption) | (with_reducible refine Below.alloc ?_ ?_ _) | (with_reducible refine below_drewN ?_ _) | (with_reducible refine Below.drew ?_) | (with_reducible refine Below.setCell ?_ ?_ _) | (with_reducible refine below_via (by assumption) ?_ ?_) | (with_reducible refine below_via (later_below _) ?_ ?_) | (with_reducible exact Nat.le_refl _) | omega | (simp; omega) | (simp; done)))
    | true =>
      have hr1 : x.args.length = 1 := by have := hE; simp only [beq_iff_eq] at this; omega
      obtain ⟨br, or_, hra, hbr, hcx, -⟩ := hin.xs.at_ (k := 0) (by omega)
      obtain ⟨y, hy⟩ : ∃ y, x.args[0] = y := ⟨_, rfl⟩
      have hf : (x.args.head?.map multiB).getD false = multiB y := by rw [← hy]; exact firstM_at _ _
      rw [hf]
      rw [hy, Nat.zero_mul, Nat.add_zero] at hcx
      obtain ⟨c0, c1, c2, c3, c4, c5, c6, c7⟩ := hcx
      simp only [TX.v, hra, hr1] at HC
      have HP : Hid (∀ W, Below w.heap.size w W → Calls Tryz.prog 103 #[y.v] W fun e W' => e = .returned (.bool (multiB y)) ∧ Below W.heap.size W W') := fun W _ => r5multi_any y W
      obtain ⟨Q, hQ⟩ : ∃ q, multiB y = q := ⟨_, rfl⟩
      rw [hQ] at HP ⊢
      clear hC hQ hk hl h0 hy hf
      clear hin
      go_enter Tryz.func76, Tryz.ntmps76
      go_wp2_with (first | (go_at_call 98; (with_reducible refine (HC.out _).mono ?_); rintro e w1 ⟨rfl, hb⟩; (refine mem hb ?_; intro N hN hz hc hf; (try simp at hN); subst hN)) | (go_at_call 103; (with_reducible refine (HP.out _ ?_).mono ?_); (focus ((repeat' (first | (with_reducible exact Below.refl _ _) | (with_reducible assumption) | (with_reducible refine Below.alloc ?_ ?_ _) | (with_reducible refine below_drewN ?_ _) | (with_reducible refine Below.drew ?_) | (with_reducible refine Below.setCell ?_ ?_ _) | (with_reducible refine below_via (by assumption) ?_ ?_) | (with_reducible refine below_via (later_below _) ?_ ?_) | (with_reducible exact Nat.le_refl _) | omega | (simp; omega) | (simp; done))))); rintro e w3 ⟨rfl, hb⟩; (refine mem hb ?_; intro N hN hz hc hf; (try simp at hN); subst hN)))
      go_returns
      refine ⟨rfl, ?_⟩
      (repeat' (first | (with_reducible exact Below.refl _ _) | (with_reducible assumption) | (with_reducible refine Below.alloc ?_ ?_ _) | (with_reducible refine below_drewN ?_ _) | (with_reducible refine Below.drew ?_) | (with_reducible refine Below.setCell ?_ ?_ _) | (with_reducible refine below_via (by assumption) ?_ ?_) | (with_reducible refine below_via (later_below _) ?_ ?_) | (with_reducible exact Nat.le_refl _) | omega | (simp; omega) | (simp; done)))

set_option maxHeartbeats 3200000 in
set_option maxRecDepth 100000 in
theorem rfm0 (hk : x.k < 1 ∨ 19 < x.k) (hl : 0 ≤ x.ln) : Calls Tryz.prog 76 #[x.v, .bool inn, .slice an names.length cn] w fun e w' => e = .returned (.bool false) ∧ Below w.heap.size w w' := by
  have dl : decide (x.ln < 0) = false := decide_eq_false (by omega)
  have d1 : (x.k == 1) = false := by simp; omega
  have d2 : (x.k == 2) = false := by simp; omega
  have d3 : (x.k == 3) = false := by simp; omega
  have d4 : (x.k == 4) = false := by simp; omega
  have d5 : (x.k == 5) = false := by simp; omega
  have d6 : (x.k == 6) = false := by simp; omega
  have d7 : (x.k == 7) = false := by simp; omega
  have d8 : (x.k == 8) = false := by simp; omega
  have d9 : (x.k == 9) = false := by simp; omega
  have d10 : (x.k == 10) = false := by simp; omega
  have d11 : (x.k == 11) = false := by simp; omega
  have d12 : (x.k == 12) = false := by simp; omega
  have d13 : (x.k == 13) = false := by simp; omega
  have d14 : (x.k == 14) = false := by simp; omega
  have d15 : (x.k == 15) = false := by simp; omega
  have d16 : (x.k == 16) = false := by simp; omega
  have d17 : (x.k == 17) = false := by simp; omega
  have d18 : (x.k == 18) = false := by simp; omega
  have d19 : (x.k == 19) = false := by simp; omega
  have h0 := ((inX_iff x).1 hin).1
  have g1 := h0.ai.1
  have g2 := h0.ai.2.1
  have g5 : (x.args.length : Int) ≤ 9223372036854775807 := by omega
  clear hk hl h0 g1 g2
  clear hin
  go_enter Tryz.func76, Tryz.ntmps76
  go_wp2_with fail
  go_returns
  refine ⟨rfl, ?_⟩
  (repeat' (first | (with_reducible exact Below.refl _ _) | (with_reducible assumption) | (with_reducible refine Below.alloc ?_ ?_ _) | (with_reducible refine below_drewN ?_ _) | (with_reducible refine Below.drew ?_) | (with_reducible refine Below.setCell ?_ ?_ _) | (with_reducible refine below_via (by assumption) ?_ ?_) | (with_reducible refine below_via (later_below _) ?_ ?_) | (with_reducible exact Nat.le_refl _) | omega | (simp; omega) | (simp; done)))

set_option maxHeartbeats 3200000 in
set_option maxRecDepth 100000 in
omit hin in
theorem rfmL (hl : x.ln < 0) : Calls Tryz.prog 76 #[x.v, .bool inn, .slice an names.length cn] w fun e w' => e = .returned (.bool false) ∧ Below w.heap.size w w' := by
  have dl : decide (x.ln < 0) = true := decide_eq_true hl
  go_enter Tryz.func76, Tryz.ntmps76
  go_wp2_with fail
  go_returns
  exact ⟨rfl, by (repeat' (first | (with_reducible exact Below.refl _ _) | (with_reducible assumption) | (with_reducible refine Below.alloc ?_ ?_ _) | (with_reducible refine below_drewN ?_ _) | (with_reducible refine Below.drew ?_) | (with_reducible refine Below.setCell ?_ ?_ _) | (with_reducible refine below_via (by assumption) ?_ ?_) | (with_reducible refine below_via (later_below _) ?_ ?_) | (with_reducible exact Nat.le_refl _) | omega | (simp; omega) | (simp; done)))⟩
end
end Go.Proofs.YthkpggpnbdedjaaGreat

/- The reference's form: what the kinds say. -/
namespace Go.Proofs.YthkpggpnbdedjaaGreat
open Go.RowKit Go.Instr
set_option linter.unusedVariables false

/-- What form answers. -/
def foB (x : TX) (inn : Bool) (names : List ByteArray) : Bool := decide (0 ≤ x.ln) && (feB x (if inn then 12 else 0) && (x.k != 11 || x.funcs.all (nmF names)))
theorem nil_list : (ByteArray.mk #[]).toList = [] := by rw [Lib.toList_data]
theorem all_items (l : List TX) : l.all (fun y => y.k == 13 || y.k == 14) = !(l.any fun x => x.k != 13 && x.k != 14) := by
  rw [Bool.eq_iff_iff]
  simp only [List.all_eq_true, Bool.not_eq_true', List.any_eq_false]
  refine forall_congr' fun x => forall_congr' fun _ => ?_
  simp; omega
section
variable (x : TX) (inn : Bool) (an : Option Addr) (cn : Nat) (names : List ByteArray) (N : Nat) (w : World) (hin : InX w w.heap.size x)
  (hsn : Slc an names.length cn) (hn : PsAt w N an names) (hN : N ≤ w.heap.size) (hz : ∀ s ∈ names, s.size ≤ 9223372036854775807)
include hin hsn hn hN hz
theorem rform_any : Calls Tryz.prog 76 #[x.v, .bool inn, .slice an names.length cn] w fun e w' => e = .returned (.bool (foB x inn names)) ∧ Below w.heap.size w w' := by
  unfold foB
  by_cases hl : 0 ≤ x.ln
  · rw [decide_eq_true hl, Bool.true_and]
    have hpar : ((if inn then (12 : Int) else 0) == 12) = inn := by cases inn <;> rfl
    by_cases hk : x.k < 1 ∨ 19 < x.k
    · have e : feB x (if inn then 12 else 0) = false := by unfold feB; rw [if_neg (by omega)]; rw [if_neg (by omega)]; rw [if_neg (by omega)]; rw [if_neg (by omega)]; rw [if_neg (by omega)]; rw [if_neg (by omega)]; rw [if_neg (by omega)]; rw [if_neg (by omega)]; rw [if_neg (by omega)]; rw [if_neg (by omega)]; rw [if_neg (by omega)]; rw [if_neg (by omega)]; rw [if_neg (by omega)]; rw [if_neg (by omega)]; rw [if_neg (by omega)]; rw [if_neg (by omega)]; rw [if_neg (by omega)]; rw [if_neg (by omega)]; rw [if_neg (by omega)]
      rw [e]
      exact rfm0 x inn an cn names w hin hk hl
    by_cases h1 : x.k = 1
    · have e : (feB x (if inn then 12 else 0) && (x.k != 11 || x.funcs.all (nmF names))) = (onlyB x (wantX 0 0 0 ⟨#[]⟩ none 0 [] none 0 [])) := by
        have HH : feB x (if inn then 12 else 0) = feB x (if inn then 12 else 0) := rfl
        conv at HH => rhs; unfold feB; rw [if_pos h1]
        rw [HH]
        unfold hasB onlyB
        rw [show (x.k != 11) = true by rw [h1]; rfl, show (x.k == 11) = false by rw [h1]; rfl]
        simp only []
        try rw [nil_list]
        skip
        all_goals
          generalize hl1 : x.args.length = n1
          generalize hl2 : x.funcs.length = n2
          generalize x.s.toList = Z
          rw [Bool.eq_iff_iff]
          cases Z
          all_goals
            first
            | (simp; done)
            | (simp; omega)
            | (simp [hl1, hl2]; omega)
      rw [e]
      exact rfm1 x inn an cn names w hin h1 hl
    by_cases h2 : x.k = 2
    · have e : (feB x (if inn then 12 else 0) && (x.k != 11 || x.funcs.all (nmF names))) = (onlyB x (wantX 0 0 0 ⟨#[]⟩ none 0 [] none 0 [])) := by
        have HH : feB x (if inn then 12 else 0) = feB x (if inn then 12 else 0) := rfl
        conv at HH => rhs; unfold feB; rw [if_neg (by omega)]; rw [if_pos h2]
        rw [HH]
        unfold hasB onlyB
        rw [show (x.k != 11) = true by rw [h2]; rfl, show (x.k == 11) = false by rw [h2]; rfl]
        simp only []
        try rw [nil_list]
        skip
        all_goals
          generalize hl1 : x.args.length = n1
          generalize hl2 : x.funcs.length = n2
          generalize x.s.toList = Z
          rw [Bool.eq_iff_iff]
          cases Z
          all_goals
            first
            | (simp; done)
            | (simp; omega)
            | (simp [hl1, hl2]; omega)
      rw [e]
      exact rfm2 x inn an cn names w hin h2 hl
    by_cases h3 : x.k = 3
    · have e : (feB x (if inn then 12 else 0) && (x.k != 11 || x.funcs.all (nmF names))) = (onlyB x (wantX 0 0 0 ⟨#[]⟩ none 0 [] none 0 [])) := by
        have HH : feB x (if inn then 12 else 0) = feB x (if inn then 12 else 0) := rfl
        conv at HH => rhs; unfold feB; rw [if_neg (by omega)]; rw [if_neg (by omega)]; rw [if_pos h3]
        rw [HH]
        unfold hasB onlyB
        rw [show (x.k != 11) = true by rw [h3]; rfl, show (x.k == 11) = false by rw [h3]; rfl]
        simp only []
        try rw [nil_list]
        skip
        all_goals
          generalize hl1 : x.args.length = n1
          generalize hl2 : x.funcs.length = n2
          generalize x.s.toList = Z
          rw [Bool.eq_iff_iff]
          cases Z
          all_goals
            first
            | (simp; done)
            | (simp; omega)
            | (simp [hl1, hl2]; omega)
      rw [e]
      exact rfm3 x inn an cn names w hin h3 hl
    by_cases h4 : x.k = 4
    · have e : (feB x (if inn then 12 else 0) && (x.k != 11 || x.funcs.all (nmF names))) = (onlyB x (wantX 0 x.p x.q ⟨#[]⟩ none 0 [] none 0 []) && numbB x.p x.q) := by
        have HH : feB x (if inn then 12 else 0) = feB x (if inn then 12 else 0) := rfl
        conv at HH => rhs; unfold feB; rw [if_neg (by omega)]; rw [if_neg (by omega)]; rw [if_neg (by omega)]; rw [if_pos h4]
        rw [HH]
        unfold hasB onlyB numbB
        rw [show (x.k != 11) = true by rw [h4]; rfl, show (x.k == 11) = false by rw [h4]; rfl]
        simp only [beq_self_eq_true]
        try rw [nil_list]
        generalize (decide (0 ≤ x.p) && (1000000000 : Int) % x.q == 0) = Q1; generalize vldB x.p x.q = Q2; cases Q1 <;> cases Q2
        all_goals
          generalize hl1 : x.args.length = n1
          generalize hl2 : x.funcs.length = n2
          generalize x.s.toList = Z
          rw [Bool.eq_iff_iff]
          cases Z
          all_goals
            first
            | (simp; done)
            | (simp; omega)
            | (simp [hl1, hl2]; omega)
      rw [e]
      exact rfm4 x inn an cn names w hin h4 hl
    by_cases h5 : x.k = 5
    · have e : (feB x (if inn then 12 else 0) && (x.k != 11 || x.funcs.all (nmF names))) = (onlyB x (wantX 0 0 0 x.s none 0 [] none 0 [])) := by
        have HH : feB x (if inn then 12 else 0) = feB x (if inn then 12 else 0) := rfl
        conv at HH => rhs; unfold feB; rw [if_neg (by omega)]; rw [if_neg (by omega)]; rw [if_neg (by omega)]; rw [if_neg (by omega)]; rw [if_pos h5]
        rw [HH]
        unfold hasB onlyB
        rw [show (x.k != 11) = true by rw [h5]; rfl, show (x.k == 11) = false by rw [h5]; rfl]
        simp only [beq_self_eq_true]
        try rw [nil_list]
        skip
        all_goals
          generalize hl1 : x.args.length = n1
          generalize hl2 : x.funcs.length = n2
          generalize x.s.toList = Z
          rw [Bool.eq_iff_iff]
          cases Z
          all_goals
            first
            | (simp; done)
            | (simp; omega)
            | (simp [hl1, hl2]; omega)
      rw [e]
      exact rfm5 x inn an cn names w hin h5 hl
    by_cases h6 : x.k = 6
    · have e : (feB x (if inn then 12 else 0) && (x.k != 11 || x.funcs.all (nmF names))) = (onlyB x (wantX 0 0 0 ⟨#[]⟩ none 0 [] none 0 [])) := by
        have HH : feB x (if inn then 12 else 0) = feB x (if inn then 12 else 0) := rfl
        conv at HH => rhs; unfold feB; rw [if_neg (by omega)]; rw [if_neg (by omega)]; rw [if_neg (by omega)]; rw [if_neg (by omega)]; rw [if_neg (by omega)]; rw [if_pos h6]
        rw [HH]
        unfold hasB onlyB
        rw [show (x.k != 11) = true by rw [h6]; rfl, show (x.k == 11) = false by rw [h6]; rfl]
        simp only []
        try rw [nil_list]
        skip
        all_goals
          generalize hl1 : x.args.length = n1
          generalize hl2 : x.funcs.length = n2
          generalize x.s.toList = Z
          rw [Bool.eq_iff_iff]
          cases Z
          all_goals
            first
            | (simp; done)
            | (simp; omega)
            | (simp [hl1, hl2]; omega)
      rw [e]
      exact rfm6 x inn an cn names w hin h6 hl
    by_cases h7 : x.k = 7
    · have e : (feB x (if inn then 12 else 0) && (x.k != 11 || x.funcs.all (nmF names))) = (onlyB x (wantX 0 0 0 x.s none 0 [] none 0 [])) := by
        have HH : feB x (if inn then 12 else 0) = feB x (if inn then 12 else 0) := rfl
        conv at HH => rhs; unfold feB; rw [if_neg (by omega)]; rw [if_neg (by omega)]; rw [if_neg (by omega)]; rw [if_neg (by omega)]; rw [if_neg (by omega)]; rw [if_neg (by omega)]; rw [if_pos h7]
        rw [HH]
        unfold hasB onlyB
        rw [show (x.k != 11) = true by rw [h7]; rfl, show (x.k == 11) = false by rw [h7]; rfl]
        simp only [beq_self_eq_true]
        try rw [nil_list]
        skip
        all_goals
          generalize hl1 : x.args.length = n1
          generalize hl2 : x.funcs.length = n2
          generalize x.s.toList = Z
          rw [Bool.eq_iff_iff]
          cases Z
          all_goals
            first
            | (simp; done)
            | (simp; omega)
            | (simp [hl1, hl2]; omega)
      rw [e]
      exact rfm7 x inn an cn names w hin h7 hl
    by_cases h8 : x.k = 8
    · have e : (feB x (if inn then 12 else 0) && (x.k != 11 || x.funcs.all (nmF names))) = (onlyB x (wantX 0 0 0 ⟨#[]⟩ x.aA x.aC x.args none 0 []) && ((x.args.length : Int) == 2 && subjB x)) := by
        have HH : feB x (if inn then 12 else 0) = feB x (if inn then 12 else 0) := rfl
        conv at HH => rhs; unfold feB; rw [if_neg (by omega)]; rw [if_neg (by omega)]; rw [if_neg (by omega)]; rw [if_neg (by omega)]; rw [if_neg (by omega)]; rw [if_neg (by omega)]; rw [if_neg (by omega)]; rw [if_pos h8]
        rw [HH]
        unfold hasB onlyB
        rw [show (x.k != 11) = true by rw [h8]; rfl, show (x.k == 11) = false by rw [h8]; rfl]
        simp only [beq_self_eq_true]
        try rw [nil_list]
        generalize subjB x = Q; cases Q
        all_goals
          generalize hl1 : x.args.length = n1
          generalize hl2 : x.funcs.length = n2
          generalize x.s.toList = Z
          rw [Bool.eq_iff_iff]
          cases Z
          all_goals
            first
            | (simp; done)
            | (simp; omega)
            | (simp [hl1, hl2]; omega)
      rw [e]
      exact rfm8 x inn an cn names w hin h8 hl
    by_cases h9 : x.k = 9
    · have e : (feB x (if inn then 12 else 0) && (x.k != 11 || x.funcs.all (nmF names))) = (onlyB x (wantX 0 0 0 ⟨#[]⟩ x.aA x.aC x.args none 0 []) && subjB x) := by
        have HH : feB x (if inn then 12 else 0) = feB x (if inn then 12 else 0) := rfl
        conv at HH => rhs; unfold feB; rw [if_neg (by omega)]; rw [if_neg (by omega)]; rw [if_neg (by omega)]; rw [if_neg (by omega)]; rw [if_neg (by omega)]; rw [if_neg (by omega)]; rw [if_neg (by omega)]; rw [if_neg (by omega)]; rw [if_pos h9]
        rw [HH]
        unfold hasB onlyB
        rw [show (x.k != 11) = true by rw [h9]; rfl, show (x.k == 11) = false by rw [h9]; rfl]
        simp only [beq_self_eq_true]
        try rw [nil_list]
        generalize subjB x = Q; cases Q
        all_goals
          generalize hl1 : x.args.length = n1
          generalize hl2 : x.funcs.length = n2
          generalize x.s.toList = Z
          rw [Bool.eq_iff_iff]
          cases Z
          all_goals
            first
            | (simp; done)
            | (simp; omega)
            | (simp [hl1, hl2]; omega)
      rw [e]
      exact rfm9 x inn an cn names w hin h9 hl
    by_cases h10 : x.k = 10
    · have e : (feB x (if inn then 12 else 0) && (x.k != 11 || x.funcs.all (nmF names))) = (onlyB x (wantX 0 0 0 x.s x.aA x.aC x.args none 0 []) && subjB x) := by
        have HH : feB x (if inn then 12 else 0) = feB x (if inn then 12 else 0) := rfl
        conv at HH => rhs; unfold feB; rw [if_neg (by omega)]; rw [if_neg (by omega)]; rw [if_neg (by omega)]; rw [if_neg (by omega)]; rw [if_neg (by omega)]; rw [if_neg (by omega)]; rw [if_neg (by omega)]; rw [if_neg (by omega)]; rw [if_neg (by omega)]; rw [if_pos h10]
        rw [HH]
        unfold hasB onlyB
        rw [show (x.k != 11) = true by rw [h10]; rfl, show (x.k == 11) = false by rw [h10]; rfl]
        simp only [beq_self_eq_true]
        try rw [nil_list]
        generalize subjB x = Q; cases Q
        all_goals
          generalize hl1 : x.args.length = n1
          generalize hl2 : x.funcs.length = n2
          generalize x.s.toList = Z
          rw [Bool.eq_iff_iff]
          cases Z
          all_goals
            first
            | (simp; done)
            | (simp; omega)
            | (simp [hl1, hl2]; omega)
      rw [e]
      exact rfm10 x inn an cn names w hin h10 hl
    by_cases h11 : x.k = 11
    · have e : (feB x (if inn then 12 else 0) && (x.k != 11 || x.funcs.all (nmF names))) = (onlyB x (wantX 0 0 0 ⟨#[]⟩ none 0 [] x.fA x.fC x.funcs) && ((x.funcs.length : Int) == 1 && x.funcs.all (nmF names))) := by
        have HH : feB x (if inn then 12 else 0) = feB x (if inn then 12 else 0) := rfl
        conv at HH => rhs; unfold feB; rw [if_neg (by omega)]; rw [if_neg (by omega)]; rw [if_neg (by omega)]; rw [if_neg (by omega)]; rw [if_neg (by omega)]; rw [if_neg (by omega)]; rw [if_neg (by omega)]; rw [if_neg (by omega)]; rw [if_neg (by omega)]; rw [if_neg (by omega)]; rw [if_pos h11]
        rw [HH]
        unfold hasB onlyB
        rw [show (x.k != 11) = false by rw [h11]; rfl, show (x.k == 11) = true by rw [h11]; rfl]
        simp only [beq_self_eq_true]
        try rw [nil_list]
        generalize x.funcs.all (nmF names) = Q; cases Q
        all_goals
          generalize hl1 : x.args.length = n1
          generalize hl2 : x.funcs.length = n2
          generalize x.s.toList = Z
          rw [Bool.eq_iff_iff]
          cases Z
          all_goals
            first
            | (simp; done)
            | (simp; omega)
            | (simp [hl1, hl2]; omega)
      rw [e]
      exact rfm11 x inn an cn names N w hin hsn hn hN hz h11 hl
    by_cases h12 : x.k = 12
    · have e : (feB x (if inn then 12 else 0) && (x.k != 11 || x.funcs.all (nmF names))) = (onlyB x (wantX 0 0 0 ⟨#[]⟩ x.aA x.aC x.args none 0 []) && x.args.all (fun y => y.k == 13 || y.k == 14)) := by
        have HH : feB x (if inn then 12 else 0) = feB x (if inn then 12 else 0) := rfl
        conv at HH => rhs; unfold feB; rw [if_neg (by omega)]; rw [if_neg (by omega)]; rw [if_neg (by omega)]; rw [if_neg (by omega)]; rw [if_neg (by omega)]; rw [if_neg (by omega)]; rw [if_neg (by omega)]; rw [if_neg (by omega)]; rw [if_neg (by omega)]; rw [if_neg (by omega)]; rw [if_neg (by omega)]; rw [if_pos h12]
        rw [HH]
        unfold hasB onlyB
        rw [show (x.k != 11) = true by rw [h12]; rfl, show (x.k == 11) = false by rw [h12]; rfl]
        simp only [beq_self_eq_true]
        try rw [nil_list]
        rw [all_items]; generalize (x.args.any fun x => x.k != 13 && x.k != 14) = Q; cases Q
        all_goals
          generalize hl1 : x.args.length = n1
          generalize hl2 : x.funcs.length = n2
          generalize x.s.toList = Z
          rw [Bool.eq_iff_iff]
          cases Z
          all_goals
            first
            | (simp; done)
            | (simp; omega)
            | (simp [hl1, hl2]; omega)
      rw [e]
      exact rfm12 x inn an cn names w hin h12 hl
    by_cases h13 : x.k = 13
    · have e : (feB x (if inn then 12 else 0) && (x.k != 11 || x.funcs.all (nmF names))) = (onlyB x (wantX 0 0 0 ⟨#[]⟩ x.aA x.aC x.args none 0 []) && ((x.args.length : Int) == 1 && inn)) := by
        have HH : feB x (if inn then 12 else 0) = feB x (if inn then 12 else 0) := rfl
        conv at HH => rhs; unfold feB; rw [if_neg (by omega)]; rw [if_neg (by omega)]; rw [if_neg (by omega)]; rw [if_neg (by omega)]; rw [if_neg (by omega)]; rw [if_neg (by omega)]; rw [if_neg (by omega)]; rw [if_neg (by omega)]; rw [if_neg (by omega)]; rw [if_neg (by omega)]; rw [if_neg (by omega)]; rw [if_neg (by omega)]; rw [if_pos h13]
        rw [HH]
        unfold hasB onlyB
        rw [show (x.k != 11) = true by rw [h13]; rfl, show (x.k == 11) = false by rw [h13]; rfl]
        simp only [beq_self_eq_true]
        try rw [nil_list]
        rw [hpar]; cases inn
        all_goals
          generalize hl1 : x.args.length = n1
          generalize hl2 : x.funcs.length = n2
          generalize x.s.toList = Z
          rw [Bool.eq_iff_iff]
          cases Z
          all_goals
            first
            | (simp; done)
            | (simp; omega)
            | (simp [hl1, hl2]; omega)
      rw [e]
      exact rfm13 x inn an cn names w hin h13 hl
    by_cases h14 : x.k = 14
    · have e : (feB x (if inn then 12 else 0) && (x.k != 11 || x.funcs.all (nmF names))) = (onlyB x (wantX 0 0 0 ⟨#[]⟩ x.aA x.aC x.args none 0 []) && ((x.args.length : Int) == 2 && inn)) := by
        have HH : feB x (if inn then 12 else 0) = feB x (if inn then 12 else 0) := rfl
        conv at HH => rhs; unfold feB; rw [if_neg (by omega)]; rw [if_neg (by omega)]; rw [if_neg (by omega)]; rw [if_neg (by omega)]; rw [if_neg (by omega)]; rw [if_neg (by omega)]; rw [if_neg (by omega)]; rw [if_neg (by omega)]; rw [if_neg (by omega)]; rw [if_neg (by omega)]; rw [if_neg (by omega)]; rw [if_neg (by omega)]; rw [if_neg (by omega)]; rw [if_pos h14]
        rw [HH]
        unfold hasB onlyB
        rw [show (x.k != 11) = true by rw [h14]; rfl, show (x.k == 11) = false by rw [h14]; rfl]
        simp only [beq_self_eq_true]
        try rw [nil_list]
        rw [hpar]; cases inn
        all_goals
          generalize hl1 : x.args.length = n1
          generalize hl2 : x.funcs.length = n2
          generalize x.s.toList = Z
          rw [Bool.eq_iff_iff]
          cases Z
          all_goals
            first
            | (simp; done)
            | (simp; omega)
            | (simp [hl1, hl2]; omega)
      rw [e]
      exact rfm14 x inn an cn names w hin h14 hl
    by_cases h15 : x.k = 15
    · have e : (feB x (if inn then 12 else 0) && (x.k != 11 || x.funcs.all (nmF names))) = (onlyB x (wantX x.op 0 0 ⟨#[]⟩ x.aA x.aC x.args none 0 []) && ((x.args.length : Int) == 1 && (decide (20 ≤ x.op) && decide (x.op ≤ 23)))) := by
        have HH : feB x (if inn then 12 else 0) = feB x (if inn then 12 else 0) := rfl
        conv at HH => rhs; unfold feB; rw [if_neg (by omega)]; rw [if_neg (by omega)]; rw [if_neg (by omega)]; rw [if_neg (by omega)]; rw [if_neg (by omega)]; rw [if_neg (by omega)]; rw [if_neg (by omega)]; rw [if_neg (by omega)]; rw [if_neg (by omega)]; rw [if_neg (by omega)]; rw [if_neg (by omega)]; rw [if_neg (by omega)]; rw [if_neg (by omega)]; rw [if_neg (by omega)]; rw [if_pos h15]
        rw [HH]
        unfold hasB onlyB
        rw [show (x.k != 11) = true by rw [h15]; rfl, show (x.k == 11) = false by rw [h15]; rfl]
        simp only [beq_self_eq_true]
        try rw [nil_list]
        skip
        all_goals
          generalize hl1 : x.args.length = n1
          generalize hl2 : x.funcs.length = n2
          generalize x.s.toList = Z
          rw [Bool.eq_iff_iff]
          cases Z
          all_goals
            first
            | (simp; done)
            | (simp; omega)
            | (simp [hl1, hl2]; omega)
      rw [e]
      exact rfm15 x inn an cn names w hin h15 hl
    by_cases h16 : x.k = 16
    · have e : (feB x (if inn then 12 else 0) && (x.k != 11 || x.funcs.all (nmF names))) = (onlyB x (wantX x.op 0 0 ⟨#[]⟩ x.aA x.aC x.args none 0 []) && ((x.args.length : Int) == 2 && (decide (1 ≤ x.op) && decide (x.op ≤ 19)))) := by
        have HH : feB x (if inn then 12 else 0) = feB x (if inn then 12 else 0) := rfl
        conv at HH => rhs; unfold feB; rw [if_neg (by omega)]; rw [if_neg (by omega)]; rw [if_neg (by omega)]; rw [if_neg (by omega)]; rw [if_neg (by omega)]; rw [if_neg (by omega)]; rw [if_neg (by omega)]; rw [if_neg (by omega)]; rw [if_neg (by omega)]; rw [if_neg (by omega)]; rw [if_neg (by omega)]; rw [if_neg (by omega)]; rw [if_neg (by omega)]; rw [if_neg (by omega)]; rw [if_neg (by omega)]; rw [if_pos h16]
        rw [HH]
        unfold hasB onlyB
        rw [show (x.k != 11) = true by rw [h16]; rfl, show (x.k == 11) = false by rw [h16]; rfl]
        simp only [beq_self_eq_true]
        try rw [nil_list]
        skip
        all_goals
          generalize hl1 : x.args.length = n1
          generalize hl2 : x.funcs.length = n2
          generalize x.s.toList = Z
          rw [Bool.eq_iff_iff]
          cases Z
          all_goals
            first
            | (simp; done)
            | (simp; omega)
            | (simp [hl1, hl2]; omega)
      rw [e]
      exact rfm16 x inn an cn names w hin h16 hl
    by_cases h17 : x.k = 17
    · have e : (feB x (if inn then 12 else 0) && (x.k != 11 || x.funcs.all (nmF names))) = (onlyB x (wantX 0 0 0 ⟨#[]⟩ x.aA x.aC x.args none 0 []) && ((x.args.length : Int) == 2)) := by
        have HH : feB x (if inn then 12 else 0) = feB x (if inn then 12 else 0) := rfl
        conv at HH => rhs; unfold feB; rw [if_neg (by omega)]; rw [if_neg (by omega)]; rw [if_neg (by omega)]; rw [if_neg (by omega)]; rw [if_neg (by omega)]; rw [if_neg (by omega)]; rw [if_neg (by omega)]; rw [if_neg (by omega)]; rw [if_neg (by omega)]; rw [if_neg (by omega)]; rw [if_neg (by omega)]; rw [if_neg (by omega)]; rw [if_neg (by omega)]; rw [if_neg (by omega)]; rw [if_neg (by omega)]; rw [if_neg (by omega)]; rw [if_pos h17]
        rw [HH]
        unfold hasB onlyB
        rw [show (x.k != 11) = true by rw [h17]; rfl, show (x.k == 11) = false by rw [h17]; rfl]
        simp only [beq_self_eq_true]
        try rw [nil_list]
        skip
        all_goals
          generalize hl1 : x.args.length = n1
          generalize hl2 : x.funcs.length = n2
          generalize x.s.toList = Z
          rw [Bool.eq_iff_iff]
          cases Z
          all_goals
            first
            | (simp; done)
            | (simp; omega)
            | (simp [hl1, hl2]; omega)
      rw [e]
      exact rfm17 x inn an cn names w hin h17 hl
    by_cases h18 : x.k = 18
    · have e : (feB x (if inn then 12 else 0) && (x.k != 11 || x.funcs.all (nmF names))) = (onlyB x (wantX 0 0 0 ⟨#[]⟩ x.aA x.aC x.args none 0 []) && ((x.args.length : Int) == 2)) := by
        have HH : feB x (if inn then 12 else 0) = feB x (if inn then 12 else 0) := rfl
        conv at HH => rhs; unfold feB; rw [if_neg (by omega)]; rw [if_neg (by omega)]; rw [if_neg (by omega)]; rw [if_neg (by omega)]; rw [if_neg (by omega)]; rw [if_neg (by omega)]; rw [if_neg (by omega)]; rw [if_neg (by omega)]; rw [if_neg (by omega)]; rw [if_neg (by omega)]; rw [if_neg (by omega)]; rw [if_neg (by omega)]; rw [if_neg (by omega)]; rw [if_neg (by omega)]; rw [if_neg (by omega)]; rw [if_neg (by omega)]; rw [if_neg (by omega)]; rw [if_pos h18]
        rw [HH]
        unfold hasB onlyB
        rw [show (x.k != 11) = true by rw [h18]; rfl, show (x.k == 11) = false by rw [h18]; rfl]
        simp only [beq_self_eq_true]
        try rw [nil_list]
        skip
        all_goals
          generalize hl1 : x.args.length = n1
          generalize hl2 : x.funcs.length = n2
          generalize x.s.toList = Z
          rw [Bool.eq_iff_iff]
          cases Z
          all_goals
            first
            | (simp; done)
            | (simp; omega)
            | (simp [hl1, hl2]; omega)
      rw [e]
      exact rfm18 x inn an cn names w hin h18 hl
    by_cases h19 : x.k = 19
    · have e : (feB x (if inn then 12 else 0) && (x.k != 11 || x.funcs.all (nmF names))) = (onlyB x (wantX 0 0 0 ⟨#[]⟩ x.aA x.aC x.args none 0 []) && ((x.args.length : Int) == 1 && (x.args.head?.map multiB).getD false)) := by
        have HH : feB x (if inn then 12 else 0) = feB x (if inn then 12 else 0) := rfl
        conv at HH => rhs; unfold feB; rw [if_neg (by omega)]; rw [if_neg (by omega)]; rw [if_neg (by omega)]; rw [if_neg (by omega)]; rw [if_neg (by omega)]; rw [if_neg (by omega)]; rw [if_neg (by omega)]; rw [if_neg (by omega)]; rw [if_neg (by omega)]; rw [if_neg (by omega)]; rw [if_neg (by omega)]; rw [if_neg (by omega)]; rw [if_neg (by omega)]; rw [if_neg (by omega)]; rw [if_neg (by omega)]; rw [if_neg (by omega)]; rw [if_neg (by omega)]; rw [if_neg (by omega)]; rw [if_pos h19]
        rw [HH]
        unfold hasB onlyB
        rw [show (x.k != 11) = true by rw [h19]; rfl, show (x.k == 11) = false by rw [h19]; rfl]
        simp only [beq_self_eq_true]
        try rw [nil_list]
        generalize (x.args.head?.map multiB).getD false = Q; cases Q
        all_goals
          generalize hl1 : x.args.length = n1
          generalize hl2 : x.funcs.length = n2
          generalize x.s.toList = Z
          rw [Bool.eq_iff_iff]
          cases Z
          all_goals
            first
            | (simp; done)
            | (simp; omega)
            | (simp [hl1, hl2]; omega)
      rw [e]
      exact rfm19 x inn an cn names w hin h19 hl
    omega
  · rw [decide_eq_false hl, Bool.false_and]
    exact rfmL x inn an cn names w (by omega)
end
end Go.Proofs.YthkpggpnbdedjaaGreat
