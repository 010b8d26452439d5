/- Package value's Valid and the reference's: what each call returns. -/
import Derived.Test.YtfclmnglckikbaaGreatDoorMValW1
import Derived.Test.YtfclmnglckikbaaGreatDoorMRatR2
import Derived.Test.YtfclmnglckikbaaGreatDoorMRatR
namespace Go.Proofs.YtfclmnglckikbaaGreatDoor
open Go.RowKit Go.Instr
set_option linter.unusedVariables false

/-- Whether a value is well-formed. -/
def validV (k p q : Int) (s : ByteArray) (r : Int) : Bool :=
  if k = 0 then p == 0 && (q == 0 && (s.toList.isEmpty && r == 0))
  else if k = 1 then p == 0 && (q == 0 && (s.toList.isEmpty && (r == 0 || r == 1)))
  else if k = 2 then vldB p q && (s.toList.isEmpty && r == 0)
  else if k = 3 then decide (s.size ≤ 4096) && (p == 0 && (q == 0 && r == 0))
  else if k = 6 then decide (1 ≤ s.size) && (decide (s.size ≤ 4096) && (p == 0 && (q == 0 && r == 0)))
  else if k = 4 ∨ k = 5 ∨ k = 7 ∨ k = 8 then p == 0 && (q == 0 && (s.toList.isEmpty && decide (1 ≤ r)))
  else false
theorem validV_out {k p q : Int} {s : ByteArray} {r : Int} (h : k < 0 ∨ 8 < k) : validV k p q s r = false := by
  unfold validV
  rw [if_neg (by omega), if_neg (by omega), if_neg (by omega), if_neg (by omega), if_neg (by omega), if_neg (by omega)]
theorem size_nil {s : ByteArray} : s.toList = [] ↔ s.size = 0 := by
  rw [Lib.toList_data]
  constructor
  · intro h; have := congrArg List.length h; simpa using this
  · intro h; apply List.eq_nil_of_length_eq_zero; simpa using h


set_option maxHeartbeats 2000000 in
set_option maxRecDepth 100000 in
theorem rvv_nil (p q : Int) (s : ByteArray) (r : Int) (w : World) (hs : s.size ≤ 9223372036854775807) : Calls Tryz.prog 13 #[vV 0 p q s r] w fun e w' => e = .returned (.bool (validV 0 p q s r)) ∧ Below w.heap.size w w' := by
  have he : validV 0 p q s r = (p == 0 && (q == 0 && (s.toList.isEmpty && r == 0))) := rfl
  rw [he]
  clear he
  by_cases hn : s.toList = []
  all_goals
    try have hn1 : s.toList.isEmpty = true := by rw [hn]; rfl
    try have hn2 : s.toList.isEmpty = false := by simpa using hn
    go_enter Tryz.func13, Tryz.ntmps13
    go_wp2_with fail
    all_goals ((try simp only [Exit.inBlock, Exit.then]); refine bodyPost_ret (by first | (simp [results, Tryz.results13, go_sem, *]; done) | (simp [results, Tryz.results13, go_sem, *]; rfl) | (simp [results, Tryz.results13, go_sem, ↓IntWalk.iteOmega, *]; try rfl)) rfl ?_)
    all_goals refine ⟨?_, ?_⟩
    any_goals (focus ((repeat' (first | (with_reducible exact Below.refl _ _) | (with_reducible assumption) | (with_reducible refine Below.alloc ?_ ?_ _) | (with_reducible refine below_drewN ?_ _) | (with_reducible refine Below.drew ?_) | (with_reducible refine Below.setCell ?_ ?_ _) | (with_reducible refine below_via (by assumption) ?_ ?_) | (with_reducible refine below_via (later_below _) ?_ ?_) | (with_reducible exact Nat.le_refl _) | omega | (simp; omega) | (simp; done))); done))
    all_goals (first | rfl | (simp [*]; done) | (simp [*]; omega))

set_option maxHeartbeats 2000000 in
set_option maxRecDepth 100000 in
theorem rvv_bool (p q : Int) (s : ByteArray) (r : Int) (w : World) (hs : s.size ≤ 9223372036854775807) : Calls Tryz.prog 13 #[vV 1 p q s r] w fun e w' => e = .returned (.bool (validV 1 p q s r)) ∧ Below w.heap.size w w' := by
  have he : validV 1 p q s r = (p == 0 && (q == 0 && (s.toList.isEmpty && (r == 0 || r == 1)))) := rfl
  rw [he]
  clear he
  have hr : r = 0 ∨ (¬ r = 0 ∧ r = 1) ∨ (¬ r = 0 ∧ ¬ r = 1) := by omega
  rcases hr with rfl | ⟨hr, rfl⟩ | ⟨hr, hr1⟩
  all_goals
   by_cases hn : s.toList = []
   all_goals
    try have hn1 : s.toList.isEmpty = true := by rw [hn]; rfl
    try have hn2 : s.toList.isEmpty = false := by simpa using hn
    go_enter Tryz.func13, Tryz.ntmps13
    go_wp2_with fail
    all_goals ((try simp only [Exit.inBlock, Exit.then]); refine bodyPost_ret (by first | (simp [results, Tryz.results13, go_sem, *]; done) | (simp [results, Tryz.results13, go_sem, *]; rfl) | (simp [results, Tryz.results13, go_sem, ↓IntWalk.iteOmega, *]; try rfl)) rfl ?_)
    all_goals refine ⟨?_, ?_⟩
    any_goals (focus ((repeat' (first | (with_reducible exact Below.refl _ _) | (with_reducible assumption) | (with_reducible refine Below.alloc ?_ ?_ _) | (with_reducible refine below_drewN ?_ _) | (with_reducible refine Below.drew ?_) | (with_reducible refine Below.setCell ?_ ?_ _) | (with_reducible refine below_via (by assumption) ?_ ?_) | (with_reducible refine below_via (later_below _) ?_ ?_) | (with_reducible exact Nat.le_refl _) | omega | (simp; omega) | (simp; done))); done))
    all_goals (first | rfl | (simp [*]; done) | (simp [*]; omega))

set_option maxHeartbeats 2000000 in
set_option maxRecDepth 100000 in
theorem rvv_num (p q : Int) (s : ByteArray) (r : Int) (w : World) (hs : s.size ≤ 9223372036854775807) (hp : -9223372036854775808 ≤ p) (hp' : p ≤ 9223372036854775807) : Calls Tryz.prog 13 #[vV 2 p q s r] w fun e w' => e = .returned (.bool (validV 2 p q s r)) ∧ Below w.heap.size w w' := by
  have he : validV 2 p q s r = (vldB p q && (s.toList.isEmpty && r == 0)) := rfl
  rw [he]
  clear he
  cases hv : vldB p q
  all_goals
   by_cases hn : s.toList = []
   all_goals
     try have hn1 : s.toList.isEmpty = true := by rw [hn]; rfl
     try have hn2 : s.toList.isEmpty = false := by simpa using hn
     go_enter Tryz.func13, Tryz.ntmps13
     go_wp2_with (first | (go_at_call 30; refine (rvalid_any _ _ _ (by omega) (by omega)).mono ?_; rintro e w1 ⟨rfl, hb⟩; (refine mem hb ?_; intro N hN hz hc hf; (try simp at hN); subst hN)))
     all_goals ((try simp only [Exit.inBlock, Exit.then]); refine bodyPost_ret (by first | (simp [results, Tryz.results13, go_sem, *]; done) | (simp [results, Tryz.results13, go_sem, *]; rfl) | (simp [results, Tryz.results13, go_sem, ↓IntWalk.iteOmega, *]; try rfl)) rfl ?_)
     all_goals refine ⟨?_, ?_⟩
     any_goals (focus ((repeat' (first | (with_reducible exact Below.refl _ _) | (with_reducible assumption) | (with_reducible refine Below.alloc ?_ ?_ _) | (with_reducible refine below_drewN ?_ _) | (with_reducible refine Below.drew ?_) | (with_reducible refine Below.setCell ?_ ?_ _) | (with_reducible refine below_via (by assumption) ?_ ?_) | (with_reducible refine below_via (later_below _) ?_ ?_) | (with_reducible exact Nat.le_refl _) | omega | (simp; omega) | (simp; done))); done))
     all_goals (first | rfl | (simp [*]; done) | (simp [*]; omega))

set_option maxHeartbeats 2000000 in
set_option maxRecDepth 100000 in
theorem rvv_str (p q : Int) (s : ByteArray) (r : Int) (w : World) (hs : s.size ≤ 9223372036854775807) : Calls Tryz.prog 13 #[vV 3 p q s r] w fun e w' => e = .returned (.bool (validV 3 p q s r)) ∧ Below w.heap.size w w' := by
  have he : validV 3 p q s r = (decide (s.size ≤ 4096) && (p == 0 && (q == 0 && r == 0))) := rfl
  rw [he]
  clear he
  by_cases hl : s.size ≤ 4096
  all_goals
    go_enter Tryz.func13, Tryz.ntmps13
    go_wp2_with fail
    all_goals ((try simp only [Exit.inBlock, Exit.then]); refine bodyPost_ret (by first | (simp [results, Tryz.results13, go_sem, *]; done) | (simp [results, Tryz.results13, go_sem, *]; rfl) | (simp [results, Tryz.results13, go_sem, ↓IntWalk.iteOmega, *]; try rfl)) rfl ?_)
    all_goals refine ⟨?_, ?_⟩
    any_goals (focus ((repeat' (first | (with_reducible exact Below.refl _ _) | (with_reducible assumption) | (with_reducible refine Below.alloc ?_ ?_ _) | (with_reducible refine below_drewN ?_ _) | (with_reducible refine Below.drew ?_) | (with_reducible refine Below.setCell ?_ ?_ _) | (with_reducible refine below_via (by assumption) ?_ ?_) | (with_reducible refine below_via (later_below _) ?_ ?_) | (with_reducible exact Nat.le_refl _) | omega | (simp; omega) | (simp; done))); done))
    all_goals (first | rfl | (simp [*]; done) | (simp [*]; omega))

set_option maxHeartbeats 2000000 in
set_option maxRecDepth 100000 in
theorem rvv_bin (p q : Int) (s : ByteArray) (r : Int) (w : World) (hs : s.size ≤ 9223372036854775807) : Calls Tryz.prog 13 #[vV 6 p q s r] w fun e w' => e = .returned (.bool (validV 6 p q s r)) ∧ Below w.heap.size w w' := by
  have he : validV 6 p q s r = (decide (1 ≤ s.size) && (decide (s.size ≤ 4096) && (p == 0 && (q == 0 && r == 0)))) := rfl
  rw [he]
  clear he
  have hcs : (¬ 1 ≤ s.size ∧ s.size ≤ 4096) ∨ (1 ≤ s.size ∧ s.size ≤ 4096) ∨ (1 ≤ s.size ∧ ¬ s.size ≤ 4096) := by omega
  rcases hcs with ⟨h1, hl⟩ | ⟨h1, hl⟩ | ⟨h1, hl⟩
  all_goals
    go_enter Tryz.func13, Tryz.ntmps13
    go_wp2_with fail
    all_goals ((try simp only [Exit.inBlock, Exit.then]); refine bodyPost_ret (by first | (simp [results, Tryz.results13, go_sem, *]; done) | (simp [results, Tryz.results13, go_sem, *]; rfl) | (simp [results, Tryz.results13, go_sem, ↓IntWalk.iteOmega, *]; try rfl)) rfl ?_)
    all_goals refine ⟨?_, ?_⟩
    any_goals (focus ((repeat' (first | (with_reducible exact Below.refl _ _) | (with_reducible assumption) | (with_reducible refine Below.alloc ?_ ?_ _) | (with_reducible refine below_drewN ?_ _) | (with_reducible refine Below.drew ?_) | (with_reducible refine Below.setCell ?_ ?_ _) | (with_reducible refine below_via (by assumption) ?_ ?_) | (with_reducible refine below_via (later_below _) ?_ ?_) | (with_reducible exact Nat.le_refl _) | omega | (simp; omega) | (simp; done))); done))
    all_goals (first | rfl | (simp [*]; done) | (simp [*]; omega))

set_option maxHeartbeats 2000000 in
set_option maxRecDepth 100000 in
theorem rvv_ref4 (p q : Int) (s : ByteArray) (r : Int) (w : World) (hs : s.size ≤ 9223372036854775807) : Calls Tryz.prog 13 #[vV 4 p q s r] w fun e w' => e = .returned (.bool (validV 4 p q s r)) ∧ Below w.heap.size w w' := by
  have he : validV 4 p q s r = (p == 0 && (q == 0 && (s.toList.isEmpty && decide (1 ≤ r)))) := rfl
  rw [he]
  clear he
  by_cases h1 : 1 ≤ r
  all_goals
   by_cases hn : s.toList = []
   all_goals
     try have hn1 : s.toList.isEmpty = true := by rw [hn]; rfl
     try have hn2 : s.toList.isEmpty = false := by simpa using hn
     go_enter Tryz.func13, Tryz.ntmps13
     go_wp2_with fail
     all_goals ((try simp only [Exit.inBlock, Exit.then]); refine bodyPost_ret (by first | (simp [results, Tryz.results13, go_sem, *]; done) | (simp [results, Tryz.results13, go_sem, *]; rfl) | (simp [results, Tryz.results13, go_sem, ↓IntWalk.iteOmega, *]; try rfl)) rfl ?_)
     all_goals refine ⟨?_, ?_⟩
     any_goals (focus ((repeat' (first | (with_reducible exact Below.refl _ _) | (with_reducible assumption) | (with_reducible refine Below.alloc ?_ ?_ _) | (with_reducible refine below_drewN ?_ _) | (with_reducible refine Below.drew ?_) | (with_reducible refine Below.setCell ?_ ?_ _) | (with_reducible refine below_via (by assumption) ?_ ?_) | (with_reducible refine below_via (later_below _) ?_ ?_) | (with_reducible exact Nat.le_refl _) | omega | (simp; omega) | (simp; done))); done))
     all_goals (first | rfl | (simp [*]; done) | (simp [*]; omega))

set_option maxHeartbeats 2000000 in
set_option maxRecDepth 100000 in
theorem rvv_ref5 (p q : Int) (s : ByteArray) (r : Int) (w : World) (hs : s.size ≤ 9223372036854775807) : Calls Tryz.prog 13 #[vV 5 p q s r] w fun e w' => e = .returned (.bool (validV 5 p q s r)) ∧ Below w.heap.size w w' := by
  have he : validV 5 p q s r = (p == 0 && (q == 0 && (s.toList.isEmpty && decide (1 ≤ r)))) := rfl
  rw [he]
  clear he
  by_cases h1 : 1 ≤ r
  all_goals
   by_cases hn : s.toList = []
   all_goals
     try have hn1 : s.toList.isEmpty = true := by rw [hn]; rfl
     try have hn2 : s.toList.isEmpty = false := by simpa using hn
     go_enter Tryz.func13, Tryz.ntmps13
     go_wp2_with fail
     all_goals ((try simp only [Exit.inBlock, Exit.then]); refine bodyPost_ret (by first | (simp [results, Tryz.results13, go_sem, *]; done) | (simp [results, Tryz.results13, go_sem, *]; rfl) | (simp [results, Tryz.results13, go_sem, ↓IntWalk.iteOmega, *]; try rfl)) rfl ?_)
     all_goals refine ⟨?_, ?_⟩
     any_goals (focus ((repeat' (first | (with_reducible exact Below.refl _ _) | (with_reducible assumption) | (with_reducible refine Below.alloc ?_ ?_ _) | (with_reducible refine below_drewN ?_ _) | (with_reducible refine Below.drew ?_) | (with_reducible refine Below.setCell ?_ ?_ _) | (with_reducible refine below_via (by assumption) ?_ ?_) | (with_reducible refine below_via (later_below _) ?_ ?_) | (with_reducible exact Nat.le_refl _) | omega | (simp; omega) | (simp; done))); done))
     all_goals (first | rfl | (simp [*]; done) | (simp [*]; omega))

set_option maxHeartbeats 2000000 in
set_option maxRecDepth 100000 in
theorem rvv_ref7 (p q : Int) (s : ByteArray) (r : Int) (w : World) (hs : s.size ≤ 9223372036854775807) : Calls Tryz.prog 13 #[vV 7 p q s r] w fun e w' => e = .returned (.bool (validV 7 p q s r)) ∧ Below w.heap.size w w' := by
  have he : validV 7 p q s r = (p == 0 && (q == 0 && (s.toList.isEmpty && decide (1 ≤ r)))) := rfl
  rw [he]
  clear he
  by_cases h1 : 1 ≤ r
  all_goals
   by_cases hn : s.toList = []
   all_goals
     try have hn1 : s.toList.isEmpty = true := by rw [hn]; rfl
     try have hn2 : s.toList.isEmpty = false := by simpa using hn
     go_enter Tryz.func13, Tryz.ntmps13
     go_wp2_with fail
     all_goals ((try simp only [Exit.inBlock, Exit.then]); refine bodyPost_ret (by first | (simp [results, Tryz.results13, go_sem, *]; done) | (simp [results, Tryz.results13, go_sem, *]; rfl) | (simp [results, Tryz.results13, go_sem, ↓IntWalk.iteOmega, *]; try rfl)) rfl ?_)
     all_goals refine ⟨?_, ?_⟩
     any_goals (focus ((repeat' (first | (with_reducible exact Below.refl _ _) | (with_reducible assumption) | (with_reducible refine Below.alloc ?_ ?_ _) | (with_reducible refine below_drewN ?_ _) | (with_reducible refine Below.drew ?_) | (with_reducible refine Below.setCell ?_ ?_ _) | (with_reducible refine below_via (by assumption) ?_ ?_) | (with_reducible refine below_via (later_below _) ?_ ?_) | (with_reducible exact Nat.le_refl _) | omega | (simp; omega) | (simp; done))); done))
     all_goals (first | rfl | (simp [*]; done) | (simp [*]; omega))

set_option maxHeartbeats 2000000 in
set_option maxRecDepth 100000 in
theorem rvv_ref8 (p q : Int) (s : ByteArray) (r : Int) (w : World) (hs : s.size ≤ 9223372036854775807) : Calls Tryz.prog 13 #[vV 8 p q s r] w fun e w' => e = .returned (.bool (validV 8 p q s r)) ∧ Below w.heap.size w w' := by
  have he : validV 8 p q s r = (p == 0 && (q == 0 && (s.toList.isEmpty && decide (1 ≤ r)))) := rfl
  rw [he]
  clear he
  by_cases h1 : 1 ≤ r
  all_goals
   by_cases hn : s.toList = []
   all_goals
     try have hn1 : s.toList.isEmpty = true := by rw [hn]; rfl
     try have hn2 : s.toList.isEmpty = false := by simpa using hn
     go_enter Tryz.func13, Tryz.ntmps13
     go_wp2_with fail
     all_goals ((try simp only [Exit.inBlock, Exit.then]); refine bodyPost_ret (by first | (simp [results, Tryz.results13, go_sem, *]; done) | (simp [results, Tryz.results13, go_sem, *]; rfl) | (simp [results, Tryz.results13, go_sem, ↓IntWalk.iteOmega, *]; try rfl)) rfl ?_)
     all_goals refine ⟨?_, ?_⟩
     any_goals (focus ((repeat' (first | (with_reducible exact Below.refl _ _) | (with_reducible assumption) | (with_reducible refine Below.alloc ?_ ?_ _) | (with_reducible refine below_drewN ?_ _) | (with_reducible refine Below.drew ?_) | (with_reducible refine Below.setCell ?_ ?_ _) | (with_reducible refine below_via (by assumption) ?_ ?_) | (with_reducible refine below_via (later_below _) ?_ ?_) | (with_reducible exact Nat.le_refl _) | omega | (simp; omega) | (simp; done))); done))
     all_goals (first | rfl | (simp [*]; done) | (simp [*]; omega))

set_option maxHeartbeats 2000000 in
set_option maxRecDepth 100000 in
theorem rvv_out (k : Int) (p q : Int) (s : ByteArray) (r : Int) (w : World) (hs : s.size ≤ 9223372036854775807) (h : k < 0 ∨ 8 < k) : Calls Tryz.prog 13 #[vV k p q s r] w fun e w' => e = .returned (.bool (validV k p q s r)) ∧ Below w.heap.size w w' := by
  rw [validV_out h]
  have hk : ∀ j : Int, 0 ≤ j → j ≤ 8 → (k == j) = false := fun j h1 h2 => by simp; omega
  have hk0 := hk 0 (by omega) (by omega)
  have hk1 := hk 1 (by omega) (by omega)
  have hk2 := hk 2 (by omega) (by omega)
  have hk3 := hk 3 (by omega) (by omega)
  have hk4 := hk 4 (by omega) (by omega)
  have hk5 := hk 5 (by omega) (by omega)
  have hk6 := hk 6 (by omega) (by omega)
  have hk7 := hk 7 (by omega) (by omega)
  have hk8 := hk 8 (by omega) (by omega)
  clear hk
  focus
    go_enter Tryz.func13, Tryz.ntmps13
    go_wp2_with fail
    all_goals ((try simp only [Exit.inBlock, Exit.then]); refine bodyPost_ret (by first | (simp [results, Tryz.results13, go_sem, *]; done) | (simp [results, Tryz.results13, go_sem, *]; rfl) | (simp [results, Tryz.results13, go_sem, ↓IntWalk.iteOmega, *]; try rfl)) rfl ?_)
    all_goals refine ⟨?_, ?_⟩
    any_goals (focus ((repeat' (first | (with_reducible exact Below.refl _ _) | (with_reducible assumption) | (with_reducible refine Below.alloc ?_ ?_ _) | (with_reducible refine below_drewN ?_ _) | (with_reducible refine Below.drew ?_) | (with_reducible refine Below.setCell ?_ ?_ _) | (with_reducible refine below_via (by assumption) ?_ ?_) | (with_reducible refine below_via (later_below _) ?_ ?_) | (with_reducible exact Nat.le_refl _) | omega | (simp; omega) | (simp; done))); done))
    all_goals (first | rfl | (simp [*]; done) | (simp [*]; omega))

theorem rvv_v (k p q : Int) (s : ByteArray) (r : Int) (w : World) (hs : s.size ≤ 9223372036854775807) (hp : -9223372036854775808 ≤ p) (hp' : p ≤ 9223372036854775807) : Calls Tryz.prog 13 #[vV k p q s r] w fun e w' => e = .returned (.bool (validV k p q s r)) ∧ Below w.heap.size w w' := by
  rcases kinds k with rfl | rfl | rfl | rfl | rfl | rfl | rfl | rfl | rfl | h
  · exact rvv_nil p q s r w hs
  · exact rvv_bool p q s r w hs
  · exact rvv_num p q s r w hs hp hp'
  · exact rvv_str p q s r w hs
  · exact rvv_ref4 p q s r w hs
  · exact rvv_ref5 p q s r w hs
  · exact rvv_bin p q s r w hs
  · exact rvv_ref7 p q s r w hs
  · exact rvv_ref8 p q s r w hs
  · exact rvv_out k p q s r w hs h
end Go.Proofs.YtfclmnglckikbaaGreatDoor
