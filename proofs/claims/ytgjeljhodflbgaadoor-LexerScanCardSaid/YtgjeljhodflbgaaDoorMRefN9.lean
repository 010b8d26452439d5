/- The reference's Parse and Scan: the walks. -/
import Derived.Test.YtgjeljhodflbgaaDoorMRefN8
namespace Go.Proofs.YtgjeljhodflbgaaDoor
open Go.RowKit
set_option linter.unusedVariables false

abbrev RScan (s : ByteArray) (i : Int) (P Q K E : Int) : Prop := ∀ w, Calls Tryd.prog 52 #[.string s, .int .i64 i] w fun e w' => e = .returned (.tuple #[.agg #[.int .i64 P, .int .i64 Q], .int .i64 K, .int .i64 E]) ∧ Below w.heap.size w w'
/-- A text without a minus ahead. -/
def NoMinus (t : ByteArray) : Prop := (t.toList = [] ∧ t.toList.isEmpty = true) ∨ (¬ t.toList = [] ∧ t.toList.isEmpty = false ∧ ∃ h : 0 < t.size, ¬ (t[0]'h).toNat = 45)

set_option maxHeartbeats 2000000 in
set_option maxRecDepth 100000 in
theorem rscan_out (s : ByteArray) (i : Int) (h : i < 0 ∨ (0 ≤ i ∧ (s.size : Int) < i)) : RScan s i 0 0 0 6 := by
  intro w
  rcases h with h | ⟨h, h2⟩
  all_goals
    go_enter Tryd.func52, Tryd.ntmps52
    go_wp2_with fail
    all_goals ((try simp only [Exit.inBlock, Exit.then]); refine bodyPost_ret (by first | (simp [results, Tryd.results52, go_sem, *]; done) | (simp [results, Tryd.results52, go_sem, *]; rfl) | (simp [results, Tryd.results52, go_sem, ↓IntWalk.iteOmega, *]; try rfl)) rfl ?_)
    all_goals refine ⟨rfl, ?_⟩
    all_goals (repeat' (first | (with_reducible exact Below.refl _ _) | (with_reducible assumption) | (with_reducible refine Below.alloc ?_ ?_ _) | (with_reducible refine Go.below_drewN ?_ _) | (with_reducible refine Below.drew ?_) | (with_reducible refine Below.setCell ?_ ?_ _) | (with_reducible refine below_via (by assumption) ?_ ?_) | (with_reducible refine below_via (later_below _) ?_ ?_) | (with_reducible exact Nat.le_refl _) | omega | (simp; omega) | (simp; done)))

set_option maxHeartbeats 2000000 in
set_option maxRecDepth 100000 in
theorem rscan_in (s : ByteArray) (i : Int) (h0 : 0 ≤ i) (h1 : i ≤ s.size) (r P Q E : Int) (hn : RNumr s i r P Q E) (P' Q' K' : Int) (h : (E = 0 ∧ P' = P ∧ Q' = Q ∧ K' = r) ∨ (¬ E = 0 ∧ P' = 0 ∧ Q' = 0 ∧ K' = 0)) : RScan s i P' Q' K' E := by
  intro w
  have HN := Lib.hid hn
  clear hn
  rcases h with ⟨rfl, rfl, rfl, rfl⟩ | ⟨h, rfl, rfl, rfl⟩
  all_goals
    go_enter Tryd.func52, Tryd.ntmps52
    go_wp2_with (first | (go_at_call 67; refine (HN.out _).mono ?_; rintro e w9 ⟨rfl, hb⟩; (refine mem hb ?_; intro N hN hz hc hf; (try simp at hN); subst hN)))
    all_goals ((try simp only [Exit.inBlock, Exit.then]); refine bodyPost_ret (by first | (simp [results, Tryd.results52, go_sem, *]; done) | (simp [results, Tryd.results52, go_sem, *]; rfl) | (simp [results, Tryd.results52, go_sem, ↓IntWalk.iteOmega, *]; try rfl)) rfl ?_)
    all_goals refine ⟨rfl, ?_⟩
    all_goals (repeat' (first | (with_reducible exact Below.refl _ _) | (with_reducible assumption) | (with_reducible refine Below.alloc ?_ ?_ _) | (with_reducible refine Go.below_drewN ?_ _) | (with_reducible refine Below.drew ?_) | (with_reducible refine Below.setCell ?_ ?_ _) | (with_reducible refine below_via (by assumption) ?_ ?_) | (with_reducible refine below_via (later_below _) ?_ ?_) | (with_reducible exact Nat.le_refl _) | omega | (simp; omega) | (simp; done)))
end Go.Proofs.YtgjeljhodflbgaaDoor
