/- The reference's Check and Expr: the program's errors. -/
import Derived.Test.YthkpggpnbdedjaaGreatMTrRCC
import Derived.Test.YthkpggpnbdedjaaGreatMTrLv
namespace Go.Proofs.YthkpggpnbdedjaaGreat
open Go.RowKit Go.Instr
set_option linter.unusedVariables false

set_option maxHeartbeats 1600000 in
theorem rcheck_any (y : TB) (w : World) (hrk : rkB y ≤ 1048600) (hin : InB w w.heap.size y) : Calls Tryz.prog 8 #[y.v] w fun e w' => e = .returned (.int .i64 (chE y (cbE y))) ∧ Below w.heap.size w w' := by
  have HS : Hid (∀ W, Below w.heap.size w W → Calls Tryz.prog 11 #[y.v] W fun e w' => e = .returned (.int .i64 (wrap64 (szSs y.l))) ∧ Below W.heap.size W w') := fun W hW => rsz_any y W (hin.still (still_of hW (Nat.le_refl _)) hW.size)
  have HD : Hid (∀ W, Below w.heap.size w W → Calls Tryz.prog 20 #[y.v] W fun e w' => e = .returned (.int .i64 (dpB y)) ∧ Below W.heap.size W w') := fun W hW => rdp_any y W (hin.still (still_of hW (Nat.le_refl _)) hW.size)
  have HB : Hid (∀ W, Below w.heap.size w W → Calls Tryz.prog 21 #[y.v] W fun e w' => e = .returned (.int .i64 (cbE y)) ∧ Below W.heap.size W w') := fun W hW => rblock_any y W hrk (hin.still (still_of hW (Nat.le_refl _)) hW.size)
  obtain ⟨E, hE⟩ : ∃ e, cbE y = e := ⟨_, rfl⟩
  rw [hE] at HB ⊢
  unfold chE
  obtain ⟨n, hn⟩ : ∃ n, wrap64 (szSs y.l) = n := ⟨_, rfl⟩
  obtain ⟨d, hd⟩ : ∃ n, dpB y = n := ⟨_, rfl⟩
  rw [hn] at HS ⊢
  rw [hd] at HD ⊢
  clear hin hE hn hd hrk
  by_cases h1 : 65536 < n
  · have t1 : decide (65536 < n) = true := decide_eq_true h1
    rw [if_pos (.inl h1)]
    go_enter Tryz.func8, Tryz.ntmps8
    go_wp2_with (first | (go_at_call 11; (with_reducible refine (HS.out _ ?_).mono ?_); (focus ((repeat' (first | (with_reducible exact Below.refl _ _) | (with_reducible assumption) | (with_reducible refine Below.alloc ?_ ?_ _) | (with_reducible refine below_drewN ?_ _) | (with_reducible refine Below.drew ?_) | (with_reducible refine Below.setCell ?_ ?_ _) | (with_reducible refine below_via (by assumption) ?_ ?_) | (with_reducible refine below_via (later_below _) ?_ ?_) | (with_reducible exact Nat.le_refl _) | omega | (simp; omega) | (simp; done))))); rintro e w1 ⟨rfl, hb⟩; have hb1 := hb; (refine mem hb ?_; intro N hN hz hc hf; (try simp at hN); subst hN)))
    go_returns
    exact ⟨rfl, by (repeat' (first | (with_reducible exact Below.refl _ _) | (with_reducible assumption) | (with_reducible refine Below.alloc ?_ ?_ _) | (with_reducible refine below_drewN ?_ _) | (with_reducible refine Below.drew ?_) | (with_reducible refine Below.setCell ?_ ?_ _) | (with_reducible refine below_via (by assumption) ?_ ?_) | (with_reducible refine below_via (later_below _) ?_ ?_) | (with_reducible exact Nat.le_refl _) | omega | (simp; omega) | (simp; done)))⟩
  · have t1 : decide (65536 < n) = false := decide_eq_false h1
    by_cases h2 : 64 < d
    · have t2 : decide (64 < d) = true := decide_eq_true h2
      rw [if_pos (.inr h2)]
      go_enter Tryz.func8, Tryz.ntmps8
      go_wp2_with (first | (go_at_call 11; (with_reducible refine (HS.out _ ?_).mono ?_); (focus ((repeat' (first | (with_reducible exact Below.refl _ _) | (with_reducible assumption) | (with_reducible refine Below.alloc ?_ ?_ _) | (with_reducible refine below_drewN ?_ _) | (with_reducible refine Below.drew ?_) | (with_reducible refine Below.setCell ?_ ?_ _) | (with_reducible refine below_via (by assumption) ?_ ?_) | (with_reducible refine below_via (later_below _) ?_ ?_) | (with_reducible exact Nat.le_refl _) | omega | (simp; omega) | (simp; done))))); rintro e w1 ⟨rfl, hb⟩; have hb1 := hb; (refine mem hb ?_; intro N hN hz hc hf; (try simp at hN); subst hN)) | (go_at_call 20; (with_reducible refine (HD.out _ ?_).mono ?_); (focus ((repeat' (first | (with_reducible exact Below.refl _ _) | (with_reducible assumption) | (with_reducible refine Below.alloc ?_ ?_ _) | (with_reducible refine below_drewN ?_ _) | (with_reducible refine Below.drew ?_) | (with_reducible refine Below.setCell ?_ ?_ _) | (with_reducible refine below_via (by assumption) ?_ ?_) | (with_reducible refine below_via (later_below _) ?_ ?_) | (with_reducible exact Nat.le_refl _) | omega | (simp; omega) | (simp; done))))); rintro e w2 ⟨rfl, hb⟩; have hb2 := hb; (refine mem hb ?_; intro N hN hz hc hf; (try simp at hN); subst hN)))
      go_returns
      exact ⟨rfl, by (repeat' (first | (with_reducible exact Below.refl _ _) | (with_reducible assumption) | (with_reducible refine Below.alloc ?_ ?_ _) | (with_reducible refine below_drewN ?_ _) | (with_reducible refine Below.drew ?_) | (with_reducible refine Below.setCell ?_ ?_ _) | (with_reducible refine below_via (by assumption) ?_ ?_) | (with_reducible refine below_via (later_below _) ?_ ?_) | (with_reducible exact Nat.le_refl _) | omega | (simp; omega) | (simp; done)))⟩
    · have t2 : decide (64 < d) = false := decide_eq_false h2
      rw [if_neg (by omega)]
      go_enter Tryz.func8, Tryz.ntmps8
      go_wp2_with (first | (go_at_call 11; (with_reducible refine (HS.out _ ?_).mono ?_); (focus ((repeat' (first | (with_reducible exact Below.refl _ _) | (with_reducible assumption) | (with_reducible refine Below.alloc ?_ ?_ _) | (with_reducible refine below_drewN ?_ _) | (with_reducible refine Below.drew ?_) | (with_reducible refine Below.setCell ?_ ?_ _) | (with_reducible refine below_via (by assumption) ?_ ?_) | (with_reducible refine below_via (later_below _) ?_ ?_) | (with_reducible exact Nat.le_refl _) | omega | (simp; omega) | (simp; done))))); rintro e w1 ⟨rfl, hb⟩; have hb1 := hb; (refine mem hb ?_; intro N hN hz hc hf; (try simp at hN); subst hN)) | (go_at_call 20; (with_reducible refine (HD.out _ ?_).mono ?_); (focus ((repeat' (first | (with_reducible exact Below.refl _ _) | (with_reducible assumption) | (with_reducible refine Below.alloc ?_ ?_ _) | (with_reducible refine below_drewN ?_ _) | (with_reducible refine Below.drew ?_) | (with_reducible refine Below.setCell ?_ ?_ _) | (with_reducible refine below_via (by assumption) ?_ ?_) | (with_reducible refine below_via (later_below _) ?_ ?_) | (with_reducible exact Nat.le_refl _) | omega | (simp; omega) | (simp; done))))); rintro e w2 ⟨rfl, hb⟩; have hb2 := hb; (refine mem hb ?_; intro N hN hz hc hf; (try simp at hN); subst hN)) | (go_at_call 21; (with_reducible refine (HB.out _ ?_).mono ?_); (focus ((repeat' (first | (with_reducible exact Below.refl _ _) | (with_reducible assumption) | (with_reducible refine Below.alloc ?_ ?_ _) | (with_reducible refine below_drewN ?_ _) | (with_reducible refine Below.drew ?_) | (with_reducible refine Below.setCell ?_ ?_ _) | (with_reducible refine below_via (by assumption) ?_ ?_) | (with_reducible refine below_via (later_below _) ?_ ?_) | (with_reducible exact Nat.le_refl _) | omega | (simp; omega) | (simp; done))))); rintro e w3 ⟨rfl, hb⟩; have hb3 := hb; (refine mem hb ?_; intro N hN hz hc hf; (try simp at hN); subst hN)))
      go_returns
      exact ⟨rfl, by (repeat' (first | (with_reducible exact Below.refl _ _) | (with_reducible assumption) | (with_reducible refine Below.alloc ?_ ?_ _) | (with_reducible refine below_drewN ?_ _) | (with_reducible refine Below.drew ?_) | (with_reducible refine Below.setCell ?_ ?_ _) | (with_reducible refine below_via (by assumption) ?_ ?_) | (with_reducible refine below_via (later_below _) ?_ ?_) | (with_reducible exact Nat.le_refl _) | omega | (simp; omega) | (simp; done)))⟩
set_option maxHeartbeats 1600000 in
theorem rexpr05_any (x : TX) (w : World) (hrk : rkX x ≤ 1048576) (hin : InX w w.heap.size x) : Calls Tryz.prog 10 #[x.v] w fun e W' => e = .returned (.int .i64 (exE x)) ∧ Below w.heap.size w W' := by
  obtain ⟨E, hE⟩ : ∃ E, exE x = E := ⟨_, rfl⟩
  have HC : Hid (∀ W b1 b2, Below w.heap.size w W → X8 W b1 0 x → S7 W b2 0 (retS x b1) → Calls Tryz.prog 8 #[.slice (some ⟨b2, 0, none⟩) 1 1] W fun e W' => e = .returned (.int .i64 E) ∧ Below W.heap.size W W') := fun W b1 b2 hW c1 c2 => by
    rw [← hE, ← chE_one x b1 b2]
    have h1 : rkB (oneB x b1 b2) = 1 + (rkS (retS x b1) + 0) := rkB_eq _
    have h2 : rkS (retS x b1) = 1 + 0 + 0 + 0 + (rkX x + 0) + 0 := rkS_eq _
    exact rcheck_any (oneB x b1 b2) W (by omega) (inB_one (hin.still (still_of hW (Nat.le_refl _)) hW.size) (cell_lt c1.1) (cell_lt c2.1) c1 c2)
  rw [hE]
  clear hin hrk hE
  go_enter Tryz.func10, Tryz.ntmps10
  go_wp2_with (go_at_call 8; (with_reducible refine (HC.out _ (w.heap.size + 1) _ ?_ ?_ ?_).mono ?_); (focus ((repeat' (first | (with_reducible exact Below.refl _ _) | (with_reducible assumption) | (with_reducible refine Below.alloc ?_ ?_ _) | (with_reducible refine below_drewN ?_ _) | (with_reducible refine Below.drew ?_) | (with_reducible refine Below.setCell ?_ ?_ _) | (with_reducible refine below_via (by assumption) ?_ ?_) | (with_reducible refine below_via (later_below _) ?_ ?_) | (with_reducible exact Nat.le_refl _) | omega | (simp; omega) | (simp; done))))); (focus (unfold X8; simp [cell_alloc_if])); (focus (unfold S7 retS; simp [cell_alloc_if])); rintro e w1 ⟨rfl, hb⟩)
  go_returns
  refine ⟨rfl, ?_⟩
  (repeat' (first | (with_reducible exact Below.refl _ _) | (with_reducible assumption) | (with_reducible refine Below.alloc ?_ ?_ _) | (with_reducible refine below_drewN ?_ _) | (with_reducible refine Below.drew ?_) | (with_reducible refine Below.setCell ?_ ?_ _) | (with_reducible refine below_via (by assumption) ?_ ?_) | (with_reducible refine below_via (later_below _) ?_ ?_) | (with_reducible exact Nat.le_refl _) | omega | (simp; omega) | (simp; done)))
end Go.Proofs.YthkpggpnbdedjaaGreat
