/- Package value's other functions, and the reference's: what each call returns. -/
import Derived.Test.YtpahemohpaaeoaaDoorValW1
import Derived.Test.YtpahemohpaaeoaaDoorRatR2
import Derived.Test.YtpahemohpaaeoaaDoorRatR3
import Derived.Test.YtpahemohpaaeoaaDoorNumW13
import Derived.Test.YtpahemohpaaeoaaDoorNumW12
namespace Go.Proofs.YtpahemohpaaeoaaDoor
open Go.RowKit Go.Instr
set_option linter.unusedVariables false

def trueV (k r : Int) : Bool := !(k == 0) && !(k == 1 && r == 0)
set_option maxHeartbeats 1000000 in
set_option maxRecDepth 100000 in
theorem true_v (k p q : Int) (s : ByteArray) (r : Int) (w : World) : Calls Tryd.prog 13 #[vV k p q s r] w fun e w' => e = .returned (.bool (trueV k r)) ∧ Below w.heap.size w w' := by
  have hc : k = 0 ∨ k = 1 ∧ r = 0 ∨ k = 1 ∧ ¬ r = 0 ∨ ¬ k = 0 ∧ ¬ k = 1 := by omega
  rcases hc with rfl | ⟨rfl, rfl⟩ | ⟨rfl, h⟩ | ⟨h, h2⟩
  all_goals
    try have hb := Bool.eq_false_iff.2 (fun e : (r == 0) = true => h (by simpa using e))
    go_enter Tryd.func13, Tryd.ntmps13
    go_wp2_with fail
    all_goals ((try simp only [Exit.inBlock, Exit.then]); refine bodyPost_ret (by first | (simp [results, Tryd.results13, go_sem, *]; done) | (simp [results, Tryd.results13, go_sem, *]; rfl) | (simp [results, Tryd.results13, go_sem, ↓IntWalk.iteOmega, *]; try rfl)) rfl ?_)
    all_goals refine ⟨?_, ?_⟩
    any_goals (focus ((repeat' (first | (with_reducible exact Below.refl _ _) | (with_reducible assumption) | (with_reducible refine Below.alloc ?_ ?_ _) | (with_reducible refine below_drewN ?_ _) | (with_reducible refine Below.drew ?_) | (with_reducible refine Below.setCell ?_ ?_ _) | (with_reducible refine below_via (by assumption) ?_ ?_) | (with_reducible refine below_via (later_below _) ?_ ?_) | (with_reducible exact Nat.le_refl _) | omega | (simp; omega) | (simp; done))); done))
    all_goals (first | rfl | (simp [trueV, *]; done) | (simp only [trueV]; have e0 : (k == 0) = false := (by simpa using h); have e1 : (k == 1) = false := (by simpa using h2); simp [*]; done) | (simp [trueV]; omega))
set_option maxHeartbeats 1000000 in
set_option maxRecDepth 100000 in
theorem rtrue_v (k p q : Int) (s : ByteArray) (r : Int) (w : World) : Calls Tryd.prog 14 #[vV k p q s r] w fun e w' => e = .returned (.bool (trueV k r)) ∧ Below w.heap.size w w' := by
  have hc : k = 0 ∨ k = 1 ∧ r = 0 ∨ k = 1 ∧ ¬ r = 0 ∨ ¬ k = 0 ∧ ¬ k = 1 := by omega
  rcases hc with rfl | ⟨rfl, rfl⟩ | ⟨rfl, h⟩ | ⟨h, h2⟩
  all_goals
    try have hb := Bool.eq_false_iff.2 (fun e : (r == 0) = true => h (by simpa using e))
    go_enter Tryd.func14, Tryd.ntmps14
    go_wp2_with fail
    all_goals ((try simp only [Exit.inBlock, Exit.then]); refine bodyPost_ret (by first | (simp [results, Tryd.results14, go_sem, *]; done) | (simp [results, Tryd.results14, go_sem, *]; rfl) | (simp [results, Tryd.results14, go_sem, ↓IntWalk.iteOmega, *]; try rfl)) rfl ?_)
    all_goals refine ⟨?_, ?_⟩
    any_goals (focus ((repeat' (first | (with_reducible exact Below.refl _ _) | (with_reducible assumption) | (with_reducible refine Below.alloc ?_ ?_ _) | (with_reducible refine below_drewN ?_ _) | (with_reducible refine Below.drew ?_) | (with_reducible refine Below.setCell ?_ ?_ _) | (with_reducible refine below_via (by assumption) ?_ ?_) | (with_reducible refine below_via (later_below _) ?_ ?_) | (with_reducible exact Nat.le_refl _) | omega | (simp; omega) | (simp; done))); done))
    all_goals (first | rfl | (simp [trueV, *]; done) | (simp only [trueV]; have e0 : (k == 0) = false := (by simpa using h); have e1 : (k == 1) = false := (by simpa using h2); simp [*]; done) | (simp [trueV]; omega))

set_option maxHeartbeats 1000000 in
set_option maxRecDepth 100000 in
theorem rtype_v (k p q : Int) (s : ByteArray) (r : Int) (w : World) : Calls Tryd.prog 16 #[vV k p q s r] w fun e w' => e = .returned (.string (typeN k)) ∧ Below w.heap.size w w' := by
  rcases kinds k with rfl | rfl | rfl | rfl | rfl | rfl | rfl | rfl | rfl | h
  case inr.inr.inr.inr.inr.inr.inr.inr.inr =>
    have e : typeN k = ⟨#[]⟩ := by
      unfold typeN
      rw [if_neg (by omega), if_neg (by omega), if_neg (by omega), if_neg (by omega), if_neg (by omega), if_neg (by omega), if_neg (by omega), if_neg (by omega), if_neg (by omega)]
    rw [e]
    have hk : ∀ j : Int, 0 ≤ j → j ≤ 8 → (k == j) = false := fun j h1 h2 => by simp; omega
    have hk0 := hk 0 (by omega) (by omega)
    have hk1 := hk 1 (by omega) (by omega)
    have hk2 := hk 2 (by omega) (by omega)
    have hk3 := hk 3 (by omega) (by omega)
    have hk4 := hk 4 (by omega) (by omega)
    have hk5 := hk 5 (by omega) (by omega)
    have hk6 := hk 6 (by omega) (by omega)
    have hk7 := hk 7 (by omega) (by omega)
    have hk8 := hk 8 (by omega) (by omega)
    clear hk e
    go_enter Tryd.func16, Tryd.ntmps16
    go_wp2_with fail
    ((try simp only [Exit.inBlock, Exit.then]); refine bodyPost_ret (by first | (simp [results, Tryd.results16, go_sem, *]; done) | (simp [results, Tryd.results16, go_sem, *]; rfl) | (simp [results, Tryd.results16, go_sem, ↓IntWalk.iteOmega, *]; try rfl)) rfl ?_)
    refine ⟨rfl, ?_⟩
    (repeat' (first | (with_reducible exact Below.refl _ _) | (with_reducible assumption) | (with_reducible refine Below.alloc ?_ ?_ _) | (with_reducible refine below_drewN ?_ _) | (with_reducible refine Below.drew ?_) | (with_reducible refine Below.setCell ?_ ?_ _) | (with_reducible refine below_via (by assumption) ?_ ?_) | (with_reducible refine below_via (later_below _) ?_ ?_) | (with_reducible exact Nat.le_refl _) | omega | (simp; omega) | (simp; done)))
  all_goals
    go_enter Tryd.func16, Tryd.ntmps16
    go_wp2_with fail
    ((try simp only [Exit.inBlock, Exit.then]); refine bodyPost_ret (by first | (simp [results, Tryd.results16, go_sem, *]; done) | (simp [results, Tryd.results16, go_sem, *]; rfl) | (simp [results, Tryd.results16, go_sem, ↓IntWalk.iteOmega, *]; try rfl)) rfl ?_)
    refine ⟨rfl, ?_⟩
    (repeat' (first | (with_reducible exact Below.refl _ _) | (with_reducible assumption) | (with_reducible refine Below.alloc ?_ ?_ _) | (with_reducible refine below_drewN ?_ _) | (with_reducible refine Below.drew ?_) | (with_reducible refine Below.setCell ?_ ?_ _) | (with_reducible refine below_via (by assumption) ?_ ?_) | (with_reducible refine below_via (later_below _) ?_ ?_) | (with_reducible exact Nat.le_refl _) | omega | (simp; omega) | (simp; done)))

def sameV (k p q : Int) (s : ByteArray) (r k' p' q' : Int) (s' : ByteArray) (r' : Int) : Bool := k == k' && (p == p' && (q == q' && (s.toList == s'.toList && r == r')))
set_option maxHeartbeats 1000000 in
set_option maxRecDepth 100000 in
theorem same_v (k p q : Int) (s : ByteArray) (r k' p' q' : Int) (s' : ByteArray) (r' : Int) (w : World) : Calls Tryd.prog 21 #[vV k p q s r, vV k' p' q' s' r'] w fun e w' => e = .returned (.bool (sameV k p q s r k' p' q' s' r')) ∧ Below w.heap.size w w' := by
  go_enter Tryd.func21, Tryd.ntmps21
  go_wp2_with fail
  all_goals ((try simp only [Exit.inBlock, Exit.then]); refine bodyPost_ret (by first | (simp [results, Tryd.results21, go_sem, *]; done) | (simp [results, Tryd.results21, go_sem, *]; rfl) | (simp [results, Tryd.results21, go_sem, ↓IntWalk.iteOmega, *]; try rfl)) rfl ?_)
  all_goals refine ⟨?_, ?_⟩
  any_goals (focus ((repeat' (first | (with_reducible exact Below.refl _ _) | (with_reducible assumption) | (with_reducible refine Below.alloc ?_ ?_ _) | (with_reducible refine below_drewN ?_ _) | (with_reducible refine Below.drew ?_) | (with_reducible refine Below.setCell ?_ ?_ _) | (with_reducible refine below_via (by assumption) ?_ ?_) | (with_reducible refine below_via (later_below _) ?_ ?_) | (with_reducible exact Nat.le_refl _) | omega | (simp; omega) | (simp; done))); done))
  all_goals (first | rfl | (simp [sameV, *]; done) | (simp [sameV, *]; omega))
set_option maxHeartbeats 1000000 in
set_option maxRecDepth 100000 in
theorem rsame_v (k p q : Int) (s : ByteArray) (r k' p' q' : Int) (s' : ByteArray) (r' : Int) (w : World) : Calls Tryd.prog 22 #[vV k p q s r, vV k' p' q' s' r'] w fun e w' => e = .returned (.bool (sameV k p q s r k' p' q' s' r')) ∧ Below w.heap.size w w' := by
  go_enter Tryd.func22, Tryd.ntmps22
  go_wp2_with fail
  all_goals ((try simp only [Exit.inBlock, Exit.then]); refine bodyPost_ret (by first | (simp [results, Tryd.results22, go_sem, *]; done) | (simp [results, Tryd.results22, go_sem, *]; rfl) | (simp [results, Tryd.results22, go_sem, ↓IntWalk.iteOmega, *]; try rfl)) rfl ?_)
  all_goals refine ⟨?_, ?_⟩
  any_goals (focus ((repeat' (first | (with_reducible exact Below.refl _ _) | (with_reducible assumption) | (with_reducible refine Below.alloc ?_ ?_ _) | (with_reducible refine below_drewN ?_ _) | (with_reducible refine Below.drew ?_) | (with_reducible refine Below.setCell ?_ ?_ _) | (with_reducible refine below_via (by assumption) ?_ ?_) | (with_reducible refine below_via (later_below _) ?_ ?_) | (with_reducible exact Nat.le_refl _) | omega | (simp; omega) | (simp; done))); done))
  all_goals (first | rfl | (simp [sameV, *]; done) | (simp [sameV, *]; omega))

/-! ### the makers -/
def boolI (b : Bool) : Int := if b then 1 else 0
theorem ofbool_v (b : Bool) (w : World) : Calls Tryd.prog 30 #[.bool b] w fun e w' => e = .returned (vV 1 0 0 ⟨#[]⟩ (boolI b)) ∧ Below w.heap.size w w' := by
  cases b
  all_goals
    go_enter Tryd.func30, Tryd.ntmps30
    go_wp2_with fail
    ((try simp only [Exit.inBlock, Exit.then]); refine bodyPost_ret (by first | (simp [results, Tryd.results30, go_sem, *]; done) | (simp [results, Tryd.results30, go_sem, *]; rfl) | (simp [results, Tryd.results30, go_sem, ↓IntWalk.iteOmega, *]; try rfl)) rfl ?_)
    refine ⟨rfl, ?_⟩
    (repeat' (first | (with_reducible exact Below.refl _ _) | (with_reducible assumption) | (with_reducible refine Below.alloc ?_ ?_ _) | (with_reducible refine below_drewN ?_ _) | (with_reducible refine Below.drew ?_) | (with_reducible refine Below.setCell ?_ ?_ _) | (with_reducible refine below_via (by assumption) ?_ ?_) | (with_reducible refine below_via (later_below _) ?_ ?_) | (with_reducible exact Nat.le_refl _) | omega | (simp; omega) | (simp; done)))
theorem rofbool_v (b : Bool) (w : World) : Calls Tryd.prog 31 #[.bool b] w fun e w' => e = .returned (vV 1 0 0 ⟨#[]⟩ (boolI b)) ∧ Below w.heap.size w w' := by
  cases b
  all_goals
    go_enter Tryd.func31, Tryd.ntmps31
    go_wp2_with fail
    ((try simp only [Exit.inBlock, Exit.then]); refine bodyPost_ret (by first | (simp [results, Tryd.results31, go_sem, *]; done) | (simp [results, Tryd.results31, go_sem, *]; rfl) | (simp [results, Tryd.results31, go_sem, ↓IntWalk.iteOmega, *]; try rfl)) rfl ?_)
    refine ⟨rfl, ?_⟩
    (repeat' (first | (with_reducible exact Below.refl _ _) | (with_reducible assumption) | (with_reducible refine Below.alloc ?_ ?_ _) | (with_reducible refine below_drewN ?_ _) | (with_reducible refine Below.drew ?_) | (with_reducible refine Below.setCell ?_ ?_ _) | (with_reducible refine below_via (by assumption) ?_ ?_) | (with_reducible refine below_via (later_below _) ?_ ?_) | (with_reducible exact Nat.le_refl _) | omega | (simp; omega) | (simp; done)))
def inB (n : Int) : Bool := decide (-2147483647 ≤ n) && decide (n ≤ 2147483647)
def ofInt (n : Int) : Value := if inB n then vV 2 n 1 ⟨#[]⟩ 0 else vV 0 0 0 ⟨#[]⟩ 0
theorem ofint_v (n : Int) (w : World) : Calls Tryd.prog 32 #[.int .i64 n] w fun e w' => e = .returned (ofInt n) ∧ Below w.heap.size w w' := by
  have hc : n < -2147483647 ∨ (-2147483647 ≤ n ∧ 2147483647 < n) ∨ (-2147483647 ≤ n ∧ n ≤ 2147483647) := by omega
  rcases hc with h | ⟨h, h2⟩ | ⟨h, h2⟩
  · have e : ofInt n = vV 0 0 0 ⟨#[]⟩ 0 := by unfold ofInt inB; rw [if_neg (by simp; omega)]
    rw [e]; clear e
    go_enter Tryd.func32, Tryd.ntmps32
    go_wp2_with fail
    ((try simp only [Exit.inBlock, Exit.then]); refine bodyPost_ret (by first | (simp [results, Tryd.results32, go_sem, *]; done) | (simp [results, Tryd.results32, go_sem, *]; rfl) | (simp [results, Tryd.results32, go_sem, ↓IntWalk.iteOmega, *]; try rfl)) rfl ?_)
    refine ⟨rfl, ?_⟩
    (repeat' (first | (with_reducible exact Below.refl _ _) | (with_reducible assumption) | (with_reducible refine Below.alloc ?_ ?_ _) | (with_reducible refine below_drewN ?_ _) | (with_reducible refine Below.drew ?_) | (with_reducible refine Below.setCell ?_ ?_ _) | (with_reducible refine below_via (by assumption) ?_ ?_) | (with_reducible refine below_via (later_below _) ?_ ?_) | (with_reducible exact Nat.le_refl _) | omega | (simp; omega) | (simp; done)))
  · have e : ofInt n = vV 0 0 0 ⟨#[]⟩ 0 := by unfold ofInt inB; rw [if_neg (by simp; omega)]
    rw [e]; clear e
    go_enter Tryd.func32, Tryd.ntmps32
    go_wp2_with fail
    ((try simp only [Exit.inBlock, Exit.then]); refine bodyPost_ret (by first | (simp [results, Tryd.results32, go_sem, *]; done) | (simp [results, Tryd.results32, go_sem, *]; rfl) | (simp [results, Tryd.results32, go_sem, ↓IntWalk.iteOmega, *]; try rfl)) rfl ?_)
    refine ⟨rfl, ?_⟩
    (repeat' (first | (with_reducible exact Below.refl _ _) | (with_reducible assumption) | (with_reducible refine Below.alloc ?_ ?_ _) | (with_reducible refine below_drewN ?_ _) | (with_reducible refine Below.drew ?_) | (with_reducible refine Below.setCell ?_ ?_ _) | (with_reducible refine below_via (by assumption) ?_ ?_) | (with_reducible refine below_via (later_below _) ?_ ?_) | (with_reducible exact Nat.le_refl _) | omega | (simp; omega) | (simp; done)))
  · have e : ofInt n = vV 2 n 1 ⟨#[]⟩ 0 := by unfold ofInt inB; rw [if_pos (by simp; omega)]
    rw [e]; clear e
    go_enter Tryd.func32, Tryd.ntmps32
    go_wp2_with fail
    ((try simp only [Exit.inBlock, Exit.then]); refine bodyPost_ret (by first | (simp [results, Tryd.results32, go_sem, *]; done) | (simp [results, Tryd.results32, go_sem, *]; rfl) | (simp [results, Tryd.results32, go_sem, ↓IntWalk.iteOmega, *]; try rfl)) rfl ?_)
    refine ⟨rfl, ?_⟩
    (repeat' (first | (with_reducible exact Below.refl _ _) | (with_reducible assumption) | (with_reducible refine Below.alloc ?_ ?_ _) | (with_reducible refine below_drewN ?_ _) | (with_reducible refine Below.drew ?_) | (with_reducible refine Below.setCell ?_ ?_ _) | (with_reducible refine below_via (by assumption) ?_ ?_) | (with_reducible refine below_via (later_below _) ?_ ?_) | (with_reducible exact Nat.le_refl _) | omega | (simp; omega) | (simp; done)))
theorem rofint_v (n : Int) (w : World) : Calls Tryd.prog 33 #[.int .i64 n] w fun e w' => e = .returned (ofInt n) ∧ Below w.heap.size w w' := by
  have hc : n < -2147483647 ∨ (-2147483647 ≤ n ∧ 2147483647 < n) ∨ (-2147483647 ≤ n ∧ n ≤ 2147483647) := by omega
  rcases hc with h | ⟨h, h2⟩ | ⟨h, h2⟩
  · have e : ofInt n = vV 0 0 0 ⟨#[]⟩ 0 := by unfold ofInt inB; rw [if_neg (by simp; omega)]
    rw [e]; clear e
    go_enter Tryd.func33, Tryd.ntmps33
    go_wp2_with fail
    ((try simp only [Exit.inBlock, Exit.then]); refine bodyPost_ret (by first | (simp [results, Tryd.results33, go_sem, *]; done) | (simp [results, Tryd.results33, go_sem, *]; rfl) | (simp [results, Tryd.results33, go_sem, ↓IntWalk.iteOmega, *]; try rfl)) rfl ?_)
    refine ⟨rfl, ?_⟩
    (repeat' (first | (with_reducible exact Below.refl _ _) | (with_reducible assumption) | (with_reducible refine Below.alloc ?_ ?_ _) | (with_reducible refine below_drewN ?_ _) | (with_reducible refine Below.drew ?_) | (with_reducible refine Below.setCell ?_ ?_ _) | (with_reducible refine below_via (by assumption) ?_ ?_) | (with_reducible refine below_via (later_below _) ?_ ?_) | (with_reducible exact Nat.le_refl _) | omega | (simp; omega) | (simp; done)))
  · have e : ofInt n = vV 0 0 0 ⟨#[]⟩ 0 := by unfold ofInt inB; rw [if_neg (by simp; omega)]
    rw [e]; clear e
    go_enter Tryd.func33, Tryd.ntmps33
    go_wp2_with fail
    ((try simp only [Exit.inBlock, Exit.then]); refine bodyPost_ret (by first | (simp [results, Tryd.results33, go_sem, *]; done) | (simp [results, Tryd.results33, go_sem, *]; rfl) | (simp [results, Tryd.results33, go_sem, ↓IntWalk.iteOmega, *]; try rfl)) rfl ?_)
    refine ⟨rfl, ?_⟩
    (repeat' (first | (with_reducible exact Below.refl _ _) | (with_reducible assumption) | (with_reducible refine Below.alloc ?_ ?_ _) | (with_reducible refine below_drewN ?_ _) | (with_reducible refine Below.drew ?_) | (with_reducible refine Below.setCell ?_ ?_ _) | (with_reducible refine below_via (by assumption) ?_ ?_) | (with_reducible refine below_via (later_below _) ?_ ?_) | (with_reducible exact Nat.le_refl _) | omega | (simp; omega) | (simp; done)))
  · have e : ofInt n = vV 2 n 1 ⟨#[]⟩ 0 := by unfold ofInt inB; rw [if_pos (by simp; omega)]
    rw [e]; clear e
    go_enter Tryd.func33, Tryd.ntmps33
    go_wp2_with fail
    ((try simp only [Exit.inBlock, Exit.then]); refine bodyPost_ret (by first | (simp [results, Tryd.results33, go_sem, *]; done) | (simp [results, Tryd.results33, go_sem, *]; rfl) | (simp [results, Tryd.results33, go_sem, ↓IntWalk.iteOmega, *]; try rfl)) rfl ?_)
    refine ⟨rfl, ?_⟩
    (repeat' (first | (with_reducible exact Below.refl _ _) | (with_reducible assumption) | (with_reducible refine Below.alloc ?_ ?_ _) | (with_reducible refine below_drewN ?_ _) | (with_reducible refine Below.drew ?_) | (with_reducible refine Below.setCell ?_ ?_ _) | (with_reducible refine below_via (by assumption) ?_ ?_) | (with_reducible refine below_via (later_below _) ?_ ?_) | (with_reducible exact Nat.le_refl _) | omega | (simp; omega) | (simp; done)))
def ofNumV (p q : Int) : Value := if vldB p q then vV 2 p q ⟨#[]⟩ 0 else vV 0 0 0 ⟨#[]⟩ 0
set_option maxRecDepth 100000 in
theorem ofnum_v (p q : Int) (w : World) (hp : -9223372036854775808 ≤ p) (hp' : p ≤ 9223372036854775807) : Calls Tryd.prog 24 #[.agg #[.int .i64 p, .int .i64 q]] w fun e w' => e = .returned (ofNumV p q) ∧ Below w.heap.size w w' := by
  unfold ofNumV
  cases hv : vldB p q
  all_goals
    simp only [Bool.false_eq_true, if_true, if_false]
    go_enter Tryd.func24, Tryd.ntmps24
    go_wp2_with (first | (go_at_call 37; refine (valid_any _ _ _ (by omega) (by omega)).mono ?_; rintro e w1 ⟨rfl, hb⟩; (refine mem hb ?_; intro N hN hz hc hf; (try simp at hN); subst hN)))
    ((try simp only [Exit.inBlock, Exit.then]); refine bodyPost_ret (by first | (simp [results, Tryd.results24, go_sem, *]; done) | (simp [results, Tryd.results24, go_sem, *]; rfl) | (simp [results, Tryd.results24, go_sem, ↓IntWalk.iteOmega, *]; try rfl)) rfl ?_)
    refine ⟨rfl, ?_⟩
    (repeat' (first | (with_reducible exact Below.refl _ _) | (with_reducible assumption) | (with_reducible refine Below.alloc ?_ ?_ _) | (with_reducible refine below_drewN ?_ _) | (with_reducible refine Below.drew ?_) | (with_reducible refine Below.setCell ?_ ?_ _) | (with_reducible refine below_via (by assumption) ?_ ?_) | (with_reducible refine below_via (later_below _) ?_ ?_) | (with_reducible exact Nat.le_refl _) | omega | (simp; omega) | (simp; done)))
set_option maxRecDepth 100000 in
theorem rofnum_v (p q : Int) (w : World) (hp : -9223372036854775808 ≤ p) (hp' : p ≤ 9223372036854775807) : Calls Tryd.prog 34 #[.agg #[.int .i64 p, .int .i64 q]] w fun e w' => e = .returned (ofNumV p q) ∧ Below w.heap.size w w' := by
  unfold ofNumV
  cases hv : vldB p q
  all_goals
    simp only [Bool.false_eq_true, if_true, if_false]
    go_enter Tryd.func34, Tryd.ntmps34
    go_wp2_with (first | (go_at_call 25; refine (rvalid_any _ _ _ (by omega) (by omega)).mono ?_; rintro e w1 ⟨rfl, hb⟩; (refine mem hb ?_; intro N hN hz hc hf; (try simp at hN); subst hN)))
    ((try simp only [Exit.inBlock, Exit.then]); refine bodyPost_ret (by first | (simp [results, Tryd.results34, go_sem, *]; done) | (simp [results, Tryd.results34, go_sem, *]; rfl) | (simp [results, Tryd.results34, go_sem, ↓IntWalk.iteOmega, *]; try rfl)) rfl ?_)
    refine ⟨rfl, ?_⟩
    (repeat' (first | (with_reducible exact Below.refl _ _) | (with_reducible assumption) | (with_reducible refine Below.alloc ?_ ?_ _) | (with_reducible refine below_drewN ?_ _) | (with_reducible refine Below.drew ?_) | (with_reducible refine Below.setCell ?_ ?_ _) | (with_reducible refine below_via (by assumption) ?_ ?_) | (with_reducible refine below_via (later_below _) ?_ ?_) | (with_reducible exact Nat.le_refl _) | omega | (simp; omega) | (simp; done)))
theorem ofstr_v (s : ByteArray) (w : World) : Calls Tryd.prog 27 #[.string s] w fun e w' => e = .returned (vV 3 0 0 s 0) ∧ Below w.heap.size w w' := by
  go_enter Tryd.func27, Tryd.ntmps27
  go_wp2_with fail
  ((try simp only [Exit.inBlock, Exit.then]); refine bodyPost_ret (by first | (simp [results, Tryd.results27, go_sem, *]; done) | (simp [results, Tryd.results27, go_sem, *]; rfl) | (simp [results, Tryd.results27, go_sem, ↓IntWalk.iteOmega, *]; try rfl)) rfl ?_)
  refine ⟨rfl, ?_⟩
  (repeat' (first | (with_reducible exact Below.refl _ _) | (with_reducible assumption) | (with_reducible refine Below.alloc ?_ ?_ _) | (with_reducible refine below_drewN ?_ _) | (with_reducible refine Below.drew ?_) | (with_reducible refine Below.setCell ?_ ?_ _) | (with_reducible refine below_via (by assumption) ?_ ?_) | (with_reducible refine below_via (later_below _) ?_ ?_) | (with_reducible exact Nat.le_refl _) | omega | (simp; omega) | (simp; done)))
theorem rofstr_v (s : ByteArray) (w : World) : Calls Tryd.prog 35 #[.string s] w fun e w' => e = .returned (vV 3 0 0 s 0) ∧ Below w.heap.size w w' := by
  go_enter Tryd.func35, Tryd.ntmps35
  go_wp2_with fail
  ((try simp only [Exit.inBlock, Exit.then]); refine bodyPost_ret (by first | (simp [results, Tryd.results35, go_sem, *]; done) | (simp [results, Tryd.results35, go_sem, *]; rfl) | (simp [results, Tryd.results35, go_sem, ↓IntWalk.iteOmega, *]; try rfl)) rfl ?_)
  refine ⟨rfl, ?_⟩
  (repeat' (first | (with_reducible exact Below.refl _ _) | (with_reducible assumption) | (with_reducible refine Below.alloc ?_ ?_ _) | (with_reducible refine below_drewN ?_ _) | (with_reducible refine Below.drew ?_) | (with_reducible refine Below.setCell ?_ ?_ _) | (with_reducible refine below_via (by assumption) ?_ ?_) | (with_reducible refine below_via (later_below _) ?_ ?_) | (with_reducible exact Nat.le_refl _) | omega | (simp; omega) | (simp; done)))
end Go.Proofs.YtpahemohpaaeoaaDoor
