/- Package value's other functions, and the reference's: what each call returns. -/
import Derived.Test.YtfclmnglckikbaaGreatDoorMValW1
import Derived.Test.YtfclmnglckikbaaGreatDoorMRatR2
import Derived.Test.YtfclmnglckikbaaGreatDoorMRatR
import Derived.Test.YtfclmnglckikbaaGreatDoorMNumW13
import Derived.Test.YtfclmnglckikbaaGreatDoorMNumC
namespace Go.Proofs.YtfclmnglckikbaaGreatDoor
open Go.RowKit Go.Instr
set_option linter.unusedVariables false

def trueV (k r : Int) : Bool := !(k == 0) && !(k == 1 && r == 0)
set_option maxHeartbeats 1000000 in
set_option maxRecDepth 100000 in
theorem rtype_v (k p q : Int) (s : ByteArray) (r : Int) (w : World) : Calls Tryz.prog 79 #[vV k p q s r] w fun e w' => e = .returned (.string (typeN k)) ∧ Below w.heap.size w w' := by
  rcases kinds k with rfl | rfl | rfl | rfl | rfl | rfl | rfl | rfl | rfl | h
  case inr.inr.inr.inr.inr.inr.inr.inr.inr =>
    have e : typeN k = ⟨#[]⟩ := by
      unfold typeN
      rw [if_neg (by omega), if_neg (by omega), if_neg (by omega), if_neg (by omega), if_neg (by omega), if_neg (by omega), if_neg (by omega), if_neg (by omega), if_neg (by omega)]
    rw [e]
    have hk : ∀ j : Int, 0 ≤ j → j ≤ 8 → (k == j) = false := fun j h1 h2 => by simp; omega
    have hk0 := hk 0 (by omega) (by omega)
    have hk1 := hk 1 (by omega) (by omega)
    have hk2 := hk 2 (by omega) (by omega)
    have hk3 := hk 3 (by omega) (by omega)
    have hk4 := hk 4 (by omega) (by omega)
    have hk5 := hk 5 (by omega) (by omega)
    have hk6 := hk 6 (by omega) (by omega)
    have hk7 := hk 7 (by omega) (by omega)
    have hk8 := hk 8 (by omega) (by omega)
    clear hk e
    go_enter Tryz.func79, Tryz.ntmps79
    go_wp2_with fail
    ((try simp only [Exit.inBlock, Exit.then]); refine bodyPost_ret (by first | (simp [results, Tryz.results79, go_sem, *]; done) | (simp [results, Tryz.results79, go_sem, *]; rfl) | (simp [results, Tryz.results79, go_sem, ↓IntWalk.iteOmega, *]; try rfl)) rfl ?_)
    refine ⟨rfl, ?_⟩
    (repeat' (first | (with_reducible exact Below.refl _ _) | (with_reducible assumption) | (with_reducible refine Below.alloc ?_ ?_ _) | (with_reducible refine below_drewN ?_ _) | (with_reducible refine Below.drew ?_) | (with_reducible refine Below.setCell ?_ ?_ _) | (with_reducible refine below_via (by assumption) ?_ ?_) | (with_reducible refine below_via (later_below _) ?_ ?_) | (with_reducible exact Nat.le_refl _) | omega | (simp; omega) | (simp; done)))
  all_goals
    go_enter Tryz.func79, Tryz.ntmps79
    go_wp2_with fail
    ((try simp only [Exit.inBlock, Exit.then]); refine bodyPost_ret (by first | (simp [results, Tryz.results79, go_sem, *]; done) | (simp [results, Tryz.results79, go_sem, *]; rfl) | (simp [results, Tryz.results79, go_sem, ↓IntWalk.iteOmega, *]; try rfl)) rfl ?_)
    refine ⟨rfl, ?_⟩
    (repeat' (first | (with_reducible exact Below.refl _ _) | (with_reducible assumption) | (with_reducible refine Below.alloc ?_ ?_ _) | (with_reducible refine below_drewN ?_ _) | (with_reducible refine Below.drew ?_) | (with_reducible refine Below.setCell ?_ ?_ _) | (with_reducible refine below_via (by assumption) ?_ ?_) | (with_reducible refine below_via (later_below _) ?_ ?_) | (with_reducible exact Nat.le_refl _) | omega | (simp; omega) | (simp; done)))

def sameV (k p q : Int) (s : ByteArray) (r k' p' q' : Int) (s' : ByteArray) (r' : Int) : Bool := k == k' && (p == p' && (q == q' && (s.toList == s'.toList && r == r')))
def boolI (b : Bool) : Int := if b then 1 else 0
def inB (n : Int) : Bool := decide (-2147483647 ≤ n) && decide (n ≤ 2147483647)
def ofInt (n : Int) : Value := if inB n then vV 2 n 1 ⟨#[]⟩ 0 else vV 0 0 0 ⟨#[]⟩ 0
theorem ofint_v (n : Int) (w : World) : Calls Tryz.prog 93 #[.int .i64 n] w fun e w' => e = .returned (ofInt n) ∧ Below w.heap.size w w' := by
  have hc : n < -2147483647 ∨ (-2147483647 ≤ n ∧ 2147483647 < n) ∨ (-2147483647 ≤ n ∧ n ≤ 2147483647) := by omega
  rcases hc with h | ⟨h, h2⟩ | ⟨h, h2⟩
  · have e : ofInt n = vV 0 0 0 ⟨#[]⟩ 0 := by unfold ofInt inB; rw [if_neg (by simp; omega)]
    rw [e]; clear e
    go_enter Tryz.func93, Tryz.ntmps93
    go_wp2_with fail
    ((try simp only [Exit.inBlock, Exit.then]); refine bodyPost_ret (by first | (simp [results, Tryz.results93, go_sem, *]; done) | (simp [results, Tryz.results93, go_sem, *]; rfl) | (simp [results, Tryz.results93, go_sem, ↓IntWalk.iteOmega, *]; try rfl)) rfl ?_)
    refine ⟨rfl, ?_⟩
    (repeat' (first | (with_reducible exact Below.refl _ _) | (with_reducible assumption) | (with_reducible refine Below.alloc ?_ ?_ _) | (with_reducible refine below_drewN ?_ _) | (with_reducible refine Below.drew ?_) | (with_reducible refine Below.setCell ?_ ?_ _) | (with_reducible refine below_via (by assumption) ?_ ?_) | (with_reducible refine below_via (later_below _) ?_ ?_) | (with_reducible exact Nat.le_refl _) | omega | (simp; omega) | (simp; done)))
  · have e : ofInt n = vV 0 0 0 ⟨#[]⟩ 0 := by unfold ofInt inB; rw [if_neg (by simp; omega)]
    rw [e]; clear e
    go_enter Tryz.func93, Tryz.ntmps93
    go_wp2_with fail
    ((try simp only [Exit.inBlock, Exit.then]); refine bodyPost_ret (by first | (simp [results, Tryz.results93, go_sem, *]; done) | (simp [results, Tryz.results93, go_sem, *]; rfl) | (simp [results, Tryz.results93, go_sem, ↓IntWalk.iteOmega, *]; try rfl)) rfl ?_)
    refine ⟨rfl, ?_⟩
    (repeat' (first | (with_reducible exact Below.refl _ _) | (with_reducible assumption) | (with_reducible refine Below.alloc ?_ ?_ _) | (with_reducible refine below_drewN ?_ _) | (with_reducible refine Below.drew ?_) | (with_reducible refine Below.setCell ?_ ?_ _) | (with_reducible refine below_via (by assumption) ?_ ?_) | (with_reducible refine below_via (later_below _) ?_ ?_) | (with_reducible exact Nat.le_refl _) | omega | (simp; omega) | (simp; done)))
  · have e : ofInt n = vV 2 n 1 ⟨#[]⟩ 0 := by unfold ofInt inB; rw [if_pos (by simp; omega)]
    rw [e]; clear e
    go_enter Tryz.func93, Tryz.ntmps93
    go_wp2_with fail
    ((try simp only [Exit.inBlock, Exit.then]); refine bodyPost_ret (by first | (simp [results, Tryz.results93, go_sem, *]; done) | (simp [results, Tryz.results93, go_sem, *]; rfl) | (simp [results, Tryz.results93, go_sem, ↓IntWalk.iteOmega, *]; try rfl)) rfl ?_)
    refine ⟨rfl, ?_⟩
    (repeat' (first | (with_reducible exact Below.refl _ _) | (with_reducible assumption) | (with_reducible refine Below.alloc ?_ ?_ _) | (with_reducible refine below_drewN ?_ _) | (with_reducible refine Below.drew ?_) | (with_reducible refine Below.setCell ?_ ?_ _) | (with_reducible refine below_via (by assumption) ?_ ?_) | (with_reducible refine below_via (later_below _) ?_ ?_) | (with_reducible exact Nat.le_refl _) | omega | (simp; omega) | (simp; done)))
theorem rofint_v (n : Int) (w : World) : Calls Tryz.prog 102 #[.int .i64 n] w fun e w' => e = .returned (ofInt n) ∧ Below w.heap.size w w' := by
  have hc : n < -2147483647 ∨ (-2147483647 ≤ n ∧ 2147483647 < n) ∨ (-2147483647 ≤ n ∧ n ≤ 2147483647) := by omega
  rcases hc with h | ⟨h, h2⟩ | ⟨h, h2⟩
  · have e : ofInt n = vV 0 0 0 ⟨#[]⟩ 0 := by unfold ofInt inB; rw [if_neg (by simp; omega)]
    rw [e]; clear e
    go_enter Tryz.func102, Tryz.ntmps102
    go_wp2_with fail
    ((try simp only [Exit.inBlock, Exit.then]); refine bodyPost_ret (by first | (simp [results, Tryz.results102, go_sem, *]; done) | (simp [results, Tryz.results102, go_sem, *]; rfl) | (simp [results, Tryz.results102, go_sem, ↓IntWalk.iteOmega, *]; try rfl)) rfl ?_)
    refine ⟨rfl, ?_⟩
    (repeat' (first | (with_reducible exact Below.refl _ _) | (with_reducible assumption) | (with_reducible refine Below.alloc ?_ ?_ _) | (with_reducible refine below_drewN ?_ _) | (with_reducible refine Below.drew ?_) | (with_reducible refine Below.setCell ?_ ?_ _) | (with_reducible refine below_via (by assumption) ?_ ?_) | (with_reducible refine below_via (later_below _) ?_ ?_) | (with_reducible exact Nat.le_refl _) | omega | (simp; omega) | (simp; done)))
  · have e : ofInt n = vV 0 0 0 ⟨#[]⟩ 0 := by unfold ofInt inB; rw [if_neg (by simp; omega)]
    rw [e]; clear e
    go_enter Tryz.func102, Tryz.ntmps102
    go_wp2_with fail
    ((try simp only [Exit.inBlock, Exit.then]); refine bodyPost_ret (by first | (simp [results, Tryz.results102, go_sem, *]; done) | (simp [results, Tryz.results102, go_sem, *]; rfl) | (simp [results, Tryz.results102, go_sem, ↓IntWalk.iteOmega, *]; try rfl)) rfl ?_)
    refine ⟨rfl, ?_⟩
    (repeat' (first | (with_reducible exact Below.refl _ _) | (with_reducible assumption) | (with_reducible refine Below.alloc ?_ ?_ _) | (with_reducible refine below_drewN ?_ _) | (with_reducible refine Below.drew ?_) | (with_reducible refine Below.setCell ?_ ?_ _) | (with_reducible refine below_via (by assumption) ?_ ?_) | (with_reducible refine below_via (later_below _) ?_ ?_) | (with_reducible exact Nat.le_refl _) | omega | (simp; omega) | (simp; done)))
  · have e : ofInt n = vV 2 n 1 ⟨#[]⟩ 0 := by unfold ofInt inB; rw [if_pos (by simp; omega)]
    rw [e]; clear e
    go_enter Tryz.func102, Tryz.ntmps102
    go_wp2_with fail
    ((try simp only [Exit.inBlock, Exit.then]); refine bodyPost_ret (by first | (simp [results, Tryz.results102, go_sem, *]; done) | (simp [results, Tryz.results102, go_sem, *]; rfl) | (simp [results, Tryz.results102, go_sem, ↓IntWalk.iteOmega, *]; try rfl)) rfl ?_)
    refine ⟨rfl, ?_⟩
    (repeat' (first | (with_reducible exact Below.refl _ _) | (with_reducible assumption) | (with_reducible refine Below.alloc ?_ ?_ _) | (with_reducible refine below_drewN ?_ _) | (with_reducible refine Below.drew ?_) | (with_reducible refine Below.setCell ?_ ?_ _) | (with_reducible refine below_via (by assumption) ?_ ?_) | (with_reducible refine below_via (later_below _) ?_ ?_) | (with_reducible exact Nat.le_refl _) | omega | (simp; omega) | (simp; done)))
def ofNumV (p q : Int) : Value := if vldB p q then vV 2 p q ⟨#[]⟩ 0 else vV 0 0 0 ⟨#[]⟩ 0
set_option maxRecDepth 100000 in
theorem ofnum_v (p q : Int) (w : World) (hp : -9223372036854775808 ≤ p) (hp' : p ≤ 9223372036854775807) : Calls Tryz.prog 88 #[.agg #[.int .i64 p, .int .i64 q]] w fun e w' => e = .returned (ofNumV p q) ∧ Below w.heap.size w w' := by
  unfold ofNumV
  cases hv : vldB p q
  all_goals
    simp only [Bool.false_eq_true, if_true, if_false]
    go_enter Tryz.func88, Tryz.ntmps88
    go_wp2_with (first | (go_at_call 48; refine (valid_any _ _ _ (by omega) (by omega)).mono ?_; rintro e w1 ⟨rfl, hb⟩; (refine mem hb ?_; intro N hN hz hc hf; (try simp at hN); subst hN)))
    ((try simp only [Exit.inBlock, Exit.then]); refine bodyPost_ret (by first | (simp [results, Tryz.results88, go_sem, *]; done) | (simp [results, Tryz.results88, go_sem, *]; rfl) | (simp [results, Tryz.results88, go_sem, ↓IntWalk.iteOmega, *]; try rfl)) rfl ?_)
    refine ⟨rfl, ?_⟩
    (repeat' (first | (with_reducible exact Below.refl _ _) | (with_reducible assumption) | (with_reducible refine Below.alloc ?_ ?_ _) | (with_reducible refine below_drewN ?_ _) | (with_reducible refine Below.drew ?_) | (with_reducible refine Below.setCell ?_ ?_ _) | (with_reducible refine below_via (by assumption) ?_ ?_) | (with_reducible refine below_via (later_below _) ?_ ?_) | (with_reducible exact Nat.le_refl _) | omega | (simp; omega) | (simp; done)))
set_option maxRecDepth 100000 in
theorem rofnum_v (p q : Int) (w : World) (hp : -9223372036854775808 ≤ p) (hp' : p ≤ 9223372036854775807) : Calls Tryz.prog 72 #[.agg #[.int .i64 p, .int .i64 q]] w fun e w' => e = .returned (ofNumV p q) ∧ Below w.heap.size w w' := by
  unfold ofNumV
  cases hv : vldB p q
  all_goals
    simp only [Bool.false_eq_true, if_true, if_false]
    go_enter Tryz.func72, Tryz.ntmps72
    go_wp2_with (first | (go_at_call 30; refine (rvalid_any _ _ _ (by omega) (by omega)).mono ?_; rintro e w1 ⟨rfl, hb⟩; (refine mem hb ?_; intro N hN hz hc hf; (try simp at hN); subst hN)))
    ((try simp only [Exit.inBlock, Exit.then]); refine bodyPost_ret (by first | (simp [results, Tryz.results72, go_sem, *]; done) | (simp [results, Tryz.results72, go_sem, *]; rfl) | (simp [results, Tryz.results72, go_sem, ↓IntWalk.iteOmega, *]; try rfl)) rfl ?_)
    refine ⟨rfl, ?_⟩
    (repeat' (first | (with_reducible exact Below.refl _ _) | (with_reducible assumption) | (with_reducible refine Below.alloc ?_ ?_ _) | (with_reducible refine below_drewN ?_ _) | (with_reducible refine Below.drew ?_) | (with_reducible refine Below.setCell ?_ ?_ _) | (with_reducible refine below_via (by assumption) ?_ ?_) | (with_reducible refine below_via (later_below _) ?_ ?_) | (with_reducible exact Nat.le_refl _) | omega | (simp; omega) | (simp; done)))
theorem ofstr_v (s : ByteArray) (w : World) : Calls Tryz.prog 64 #[.string s] w fun e w' => e = .returned (vV 3 0 0 s 0) ∧ Below w.heap.size w w' := by
  go_enter Tryz.func64, Tryz.ntmps64
  go_wp2_with fail
  ((try simp only [Exit.inBlock, Exit.then]); refine bodyPost_ret (by first | (simp [results, Tryz.results64, go_sem, *]; done) | (simp [results, Tryz.results64, go_sem, *]; rfl) | (simp [results, Tryz.results64, go_sem, ↓IntWalk.iteOmega, *]; try rfl)) rfl ?_)
  refine ⟨rfl, ?_⟩
  (repeat' (first | (with_reducible exact Below.refl _ _) | (with_reducible assumption) | (with_reducible refine Below.alloc ?_ ?_ _) | (with_reducible refine below_drewN ?_ _) | (with_reducible refine Below.drew ?_) | (with_reducible refine Below.setCell ?_ ?_ _) | (with_reducible refine below_via (by assumption) ?_ ?_) | (with_reducible refine below_via (later_below _) ?_ ?_) | (with_reducible exact Nat.le_refl _) | omega | (simp; omega) | (simp; done)))
theorem rofstr_v (s : ByteArray) (w : World) : Calls Tryz.prog 45 #[.string s] w fun e w' => e = .returned (vV 3 0 0 s 0) ∧ Below w.heap.size w w' := by
  go_enter Tryz.func45, Tryz.ntmps45
  go_wp2_with fail
  ((try simp only [Exit.inBlock, Exit.then]); refine bodyPost_ret (by first | (simp [results, Tryz.results45, go_sem, *]; done) | (simp [results, Tryz.results45, go_sem, *]; rfl) | (simp [results, Tryz.results45, go_sem, ↓IntWalk.iteOmega, *]; try rfl)) rfl ?_)
  refine ⟨rfl, ?_⟩
  (repeat' (first | (with_reducible exact Below.refl _ _) | (with_reducible assumption) | (with_reducible refine Below.alloc ?_ ?_ _) | (with_reducible refine below_drewN ?_ _) | (with_reducible refine Below.drew ?_) | (with_reducible refine Below.setCell ?_ ?_ _) | (with_reducible refine below_via (by assumption) ?_ ?_) | (with_reducible refine below_via (later_below _) ?_ ?_) | (with_reducible exact Nat.le_refl _) | omega | (simp; omega) | (simp; done)))
end Go.Proofs.YtfclmnglckikbaaGreatDoor
