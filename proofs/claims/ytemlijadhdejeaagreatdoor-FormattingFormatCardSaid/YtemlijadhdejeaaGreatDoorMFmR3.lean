/- The reference's number and integer of an argument of a format. -/
import Derived.Test.YtemlijadhdejeaaGreatDoorMFmC
import Derived.Test.YtemlijadhdejeaaGreatDoorMRatR
import Derived.Test.YtemlijadhdejeaaGreatDoorMRefA
namespace Go.Proofs.YtemlijadhdejeaaGreatDoor
open Go.RowKit Go.Instr
set_option linter.unusedVariables false

abbrev RNumSays (k p q : Int) (s : ByteArray) (r P Q : Int) (B : Bool) : Prop := ∀ w, Calls Tryz.prog 52 #[vV k p q s r] w fun e w' => e = .returned (.tuple #[.agg #[.int .i64 P, .int .i64 Q], .bool B]) ∧ Below w.heap.size w w'
set_option maxHeartbeats 1000000 in
set_option maxRecDepth 100000 in
theorem r9num_num (p q : Int) (s : ByteArray) (r : Int) (hp : -9223372036854775808 ≤ p) (hp' : p ≤ 9223372036854775807) : RNumSays 2 p q s r p q (vldB p q) := by
  intro w
  go_enter Tryz.func52, Tryz.ntmps52
  go_wp2_with fail
  go_region_with (first | (go_at_call 82; refine (rvalid_any _ _ _ (by omega) (by omega)).mono ?_; rintro e w1 ⟨rfl, hb⟩; (refine mem hb ?_; intro N hN hz hc hf; (try simp at hN); subst hN)))
  all_goals
    go_wp2_with fail
    ((try simp only [Exit.inBlock, Exit.then]); refine bodyPost_ret (by first | (simp [results, Tryz.results52, go_sem, *]; done) | (simp [results, Tryz.results52, go_sem, *]; rfl) | (simp [results, Tryz.results52, go_sem, ↓IntWalk.iteOmega, *]; try rfl)) rfl ?_)
    refine ⟨rfl, ?_⟩
    (repeat' (first | (with_reducible exact Below.refl _ _) | (with_reducible assumption) | (with_reducible refine Below.alloc ?_ ?_ _) | (with_reducible refine below_drewN ?_ _) | (with_reducible refine Below.drew ?_) | (with_reducible refine Below.setCell ?_ ?_ _) | (with_reducible refine below_via (by assumption) ?_ ?_) | (with_reducible refine below_via (later_below _) ?_ ?_) | (with_reducible exact Nat.le_refl _) | omega | (simp; omega) | (simp; done)))
set_option maxHeartbeats 1000000 in
set_option maxRecDepth 100000 in
theorem r9num_str (p q : Int) (s : ByteArray) (r : Int) (hs : s.size ≤ 4000) : RNumSays 3 p q s r (parseL s.data.toList).1 (parseL s.data.toList).2.1 (decide ((parseL s.data.toList).2.2 = 0)) := by
  intro w
  obtain ⟨P, Q, E, hE⟩ : ∃ P Q E, parseL s.data.toList = (P, Q, E) := ⟨_, _, _, rfl⟩
  have HP : Hid (∀ w, Calls Tryz.prog 83 #[.string s] w fun e w' => e = .returned (.tuple #[.agg #[.int .i64 P, .int .i64 Q], .int .i64 E]) ∧ Below w.heap.size w w') := fun w => by have := rparse_any s (by omega) w; rw [hE] at this; exact this
  rw [hE]
  clear hE
  go_enter Tryz.func52, Tryz.ntmps52
  go_wp2_with (first | (go_at_call 83; refine (HP.out _).mono ?_; rintro e w1 ⟨rfl, hb⟩; (refine mem hb ?_; intro N hN hz hc hf; (try simp at hN); subst hN)))
  ((try simp only [Exit.inBlock, Exit.then]); refine bodyPost_ret (by first | (simp [results, Tryz.results52, go_sem, *]; done) | (simp [results, Tryz.results52, go_sem, *]; rfl) | (simp [results, Tryz.results52, go_sem, ↓IntWalk.iteOmega, *]; try rfl)) rfl ?_)
  refine ⟨by first | rfl | (congr), ?_⟩
  (repeat' (first | (with_reducible exact Below.refl _ _) | (with_reducible assumption) | (with_reducible refine Below.alloc ?_ ?_ _) | (with_reducible refine below_drewN ?_ _) | (with_reducible refine Below.drew ?_) | (with_reducible refine Below.setCell ?_ ?_ _) | (with_reducible refine below_via (by assumption) ?_ ?_) | (with_reducible refine below_via (later_below _) ?_ ?_) | (with_reducible exact Nat.le_refl _) | omega | (simp; omega) | (simp; done)))
set_option maxHeartbeats 1000000 in
set_option maxRecDepth 100000 in
theorem r9num_no (k p q : Int) (s : ByteArray) (r : Int) (h2 : ¬ k = 2) (h3 : ¬ k = 3) : RNumSays k p q s r 0 0 false := by
  intro w
  have e2 : (k == 2) = false := by simpa using h2
  have e3 : (k == 3) = false := by simpa using h3
  clear h2 h3
  go_enter Tryz.func52, Tryz.ntmps52
  go_wp2_with fail
  ((try simp only [Exit.inBlock, Exit.then]); refine bodyPost_ret (by first | (simp [results, Tryz.results52, go_sem, *]; done) | (simp [results, Tryz.results52, go_sem, *]; rfl) | (simp [results, Tryz.results52, go_sem, ↓IntWalk.iteOmega, *]; try rfl)) rfl ?_)
  refine ⟨rfl, ?_⟩
  (repeat' (first | (with_reducible exact Below.refl _ _) | (with_reducible assumption) | (with_reducible refine Below.alloc ?_ ?_ _) | (with_reducible refine below_drewN ?_ _) | (with_reducible refine Below.drew ?_) | (with_reducible refine Below.setCell ?_ ?_ _) | (with_reducible refine below_via (by assumption) ?_ ?_) | (with_reducible refine below_via (later_below _) ?_ ?_) | (with_reducible exact Nat.le_refl _) | omega | (simp; omega) | (simp; done)))
theorem r9number_any (v : VV) (hv : v.ok) (hs : v.s.size ≤ 4000) : RNumSays v.k v.p v.q v.s v.r (numF v).1 (numF v).2.1 (numF v).2.2 := by
  obtain ⟨k, p, q, s, r⟩ := v
  obtain ⟨h1, h2, -⟩ := hv
  unfold numF
  dsimp only at *
  by_cases hk2 : k = 2
  · subst hk2
    rw [if_pos rfl]
    exact r9num_num p q s r h1 h2
  · rw [if_neg hk2]
    by_cases hk3 : k = 3
    · subst hk3
      rw [if_pos rfl]
      exact r9num_str p q s r hs
    · rw [if_neg hk3]
      exact r9num_no k p q s r hk2 hk3

set_option maxHeartbeats 1000000 in
set_option maxRecDepth 100000 in
theorem r9int_any (v : VV) (hv : v.ok) (hs : v.s.size ≤ 4000) (w : World) : Calls Tryz.prog 56 #[vV v.k v.p v.q v.s v.r] w fun e w' => e = .returned (.tuple #[.int .i64 (wholeF v).1, .bool (wholeF v).2]) ∧ Below w.heap.size w w' := by
  have hn := r9number_any v hv hs
  have hok := @numF_ok v
  unfold wholeF
  obtain ⟨P, Q, B, hE⟩ : ∃ P Q B, numF v = (P, Q, B) := ⟨_, _, _, rfl⟩
  rw [hE] at hn hok ⊢
  obtain ⟨k, p, q, s, r⟩ := v
  dsimp only at *
  have HN := Lib.hid hn
  clear hn hE hv
  cases B
  · rw [if_neg (by decide)]
    clear hok
    go_enter Tryz.func56, Tryz.ntmps56
    go_wp2_with (first | (go_at_call 52; (with_reducible refine (HN.out _).mono ?_); rintro e w1 ⟨rfl, hb⟩; (refine mem hb ?_; intro N hN hz hc hf; (try simp at hN); subst hN)))
    go_returns
    refine ⟨rfl, ?_⟩
    (repeat' (first | (with_reducible exact Below.refl _ _) | (with_reducible assumption) | (with_reducible refine Below.alloc ?_ ?_ _) | (with_reducible refine below_drewN ?_ _) | (with_reducible refine Below.drew ?_) | (with_reducible refine Below.setCell ?_ ?_ _) | (with_reducible refine below_via (by assumption) ?_ ?_) | (with_reducible refine below_via (later_below _) ?_ ?_) | (with_reducible exact Nat.le_refl _) | omega | (simp; omega) | (simp; done)))
  · rw [if_pos rfl]
    have hv2 := hok rfl
    unfold wholeV wholeB
    rw [hv2]
    clear hok hv2
    by_cases hQ : Q = 1
    · subst hQ
      go_enter Tryz.func56, Tryz.ntmps56
      go_wp2_with (first | (go_at_call 52; (with_reducible refine (HN.out _).mono ?_); rintro e w1 ⟨rfl, hb⟩; (refine mem hb ?_; intro N hN hz hc hf; (try simp at hN); subst hN)))
      go_returns
      refine ⟨rfl, ?_⟩
      (repeat' (first | (with_reducible exact Below.refl _ _) | (with_reducible assumption) | (with_reducible refine Below.alloc ?_ ?_ _) | (with_reducible refine below_drewN ?_ _) | (with_reducible refine Below.drew ?_) | (with_reducible refine Below.setCell ?_ ?_ _) | (with_reducible refine below_via (by assumption) ?_ ?_) | (with_reducible refine below_via (later_below _) ?_ ?_) | (with_reducible exact Nat.le_refl _) | omega | (simp; omega) | (simp; done)))
    · have bQ : (Q == 1) = false := by simpa using hQ
      have bQ2 : (Q != 1) = true := by simpa using hQ
      have e1 : (if (true && Q == 1) = true then P else 0) = 0 := by rw [bQ]; rfl
      have e2 : (true && Q == 1) = false := by rw [bQ]; rfl
      rw [e1, e2]
      clear hQ e1 e2
      go_enter Tryz.func56, Tryz.ntmps56
      go_wp2_with (first | (go_at_call 52; (with_reducible refine (HN.out _).mono ?_); rintro e w1 ⟨rfl, hb⟩; (refine mem hb ?_; intro N hN hz hc hf; (try simp at hN); subst hN)))
      go_returns
      refine ⟨rfl, ?_⟩
      (repeat' (first | (with_reducible exact Below.refl _ _) | (with_reducible assumption) | (with_reducible refine Below.alloc ?_ ?_ _) | (with_reducible refine below_drewN ?_ _) | (with_reducible refine Below.drew ?_) | (with_reducible refine Below.setCell ?_ ?_ _) | (with_reducible refine below_via (by assumption) ?_ ?_) | (with_reducible refine below_via (later_below _) ?_ ?_) | (with_reducible exact Nat.le_refl _) | omega | (simp; omega) | (simp; done)))
end Go.Proofs.YtemlijadhdejeaaGreatDoor
