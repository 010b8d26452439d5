/- titles where a statement names no function. -/
import Derived.Test.YthkpggpnbdedjaaGreatMTrAB
import Derived.Test.YthkpggpnbdedjaaGreatMTrChkC
import Derived.Test.YthkpggpnbdedjaaGreatMTrFo
namespace Go.Proofs.YthkpggpnbdedjaaGreat
open Go.RowKit Go.Instr
set_option linter.unusedVariables false

theorem tiP_none (s : TS) (h2 : s.k ≠ 2) (h3 : s.k ≠ 3) : tiP s = T0 := by
  unfold tiP
  rw [if_neg (by simp [h2])]
  have : (s.k == 3) = false := by simpa using h3
  rw [this]
set_option maxRecDepth 100000 in
theorem titles_none (s : TS) (h2 : s.k ≠ 2) (h3 : s.k ≠ 3) : TIc s := by
  intro w hin
  have ht : (tiP s).names = [⟨#[]⟩] ∧ (tiP s).m = ⟨#[]⟩ := by rw [tiP_none s h2 h3]; exact ⟨rfl, rfl⟩
  rw [ht.1, ht.2]
  have d2 : (s.k == 2) = false := by simpa using h2
  have d3 : (s.k == 3) = false := by simpa using h3
  clear hin ht h2 h3
  have fr1 := fun i => frozen_out w (w.heap.size + 1) i (by omega)
  have fr3 := fun i => frozen_out w (w.heap.size + 1 + 1 + 1) i (by omega)
  go_enter Tryz.func33, Tryz.ntmps33
  go_wp2_with fail
  ((try simp only [Exit.inBlock, Exit.then]); refine bodyPost_ret (by first | (simp [results, Tryz.results33, go_sem, *]; done) | (simp [results, Tryz.results33, go_sem, *]; rfl) | (simp [results, Tryz.results33, go_sem, ↓IntWalk.iteOmega, *]; try rfl)) rfl ?_)
  refine ⟨⟨some ⟨w.heap.size + 1 + 1, 0, none⟩, 1, [⟨#[]⟩], ⟨#[]⟩⟩, rfl, rfl, rfl, ⟨⟨Nat.le_refl _, (by decide : (1 : Nat) ≤ 9223372036854775807), fun h => by cases h⟩, .inr ⟨_, 0, rfl, ?_, fun i hi => ?_⟩⟩, ?_⟩
  · simp
  · obtain rfl : i = 0 := by simp at hi; omega
    show World.cell? _ _ = _
    simp [cell_alloc_if]
  · (repeat' (first | (with_reducible exact Below.refl _ _) | (with_reducible assumption) | (with_reducible refine Below.alloc ?_ ?_ _) | (with_reducible refine below_drewN ?_ _) | (with_reducible refine Below.drew ?_) | (with_reducible refine Below.setCell ?_ ?_ _) | (with_reducible refine below_via (by assumption) ?_ ?_) | (with_reducible refine below_via (later_below _) ?_ ?_) | (with_reducible exact Nat.le_refl _) | omega | (simp; omega) | (simp; done)))

theorem check_ok (y : TB) (w : World) (hok : okN (rkB y + 1) (.inr y)) (hin : InB w w.heap.size y) : Calls Tryz.prog 7 #[y.v] w fun e W' => e = .returned (.int .i64 (chE y (cbE y))) ∧ Below w.heap.size w W' :=
  check_any y (cbE y) w hin fun W hW => checkBlock_any y W hok (hin.still (still_of hW (Nat.le_refl _)) hW.size)

/-- The statement 'return e', the block of it alone. -/
def retS (x : TX) (b : Nat) : TS := ⟨11, 0, none, 0, [], none, 0, [], some ⟨b, 0, none⟩, 1, [x], none, 0, [], ⟨#[]⟩⟩
def oneB (x : TX) (b1 b2 : Nat) : TB := ⟨some ⟨b2, 0, none⟩, 1, [retS x b1]⟩
theorem inB_one {W : World} {N b1 b2 : Nat} {x : TX} (hx : InX W N x) (h1 : b1 < N) (h2 : b2 < N) (c1 : X8 W b1 0 x) (c2 : S7 W b2 0 (retS x b1)) : InB W N (oneB x b1 b2) := by
  have i11 : I64 11 := by unfold I64; omega
  have i0 : I64 0 := by unfold I64; omega
  have s0 : ∀ a, Slc (a : Option Addr) 0 0 := fun a => ⟨Nat.le_refl _, by omega, fun _ => rfl⟩
  have s1 : ∀ b : Addr, Slc (some b) 1 1 := fun b => ⟨Nat.le_refl _, by omega, fun h => by cases h⟩
  refine (inB_iff _).2 ⟨⟨s1 _, .inr ⟨b2, 0, rfl, h2, fun i hi => ?_⟩⟩, (inS_iff _).2 ⟨⟨i11, i0, s0 _, fun s h => (by cases h), s0 _, s1 _, s0 _, (by decide : (0 : Nat) ≤ 9223372036854775807), .inl rfl, .inl rfl, .inr ⟨b1, 0, rfl, h1, fun i hi => ?_⟩, .inl rfl⟩, trivial, ⟨hx, trivial⟩, trivial⟩, trivial⟩
  · obtain rfl : i = 0 := by simp [oneB] at hi; omega
    rw [Nat.zero_mul, Nat.add_zero]
    exact c2
  · obtain rfl : i = 0 := by simp [retS] at hi; omega
    rw [Nat.zero_mul, Nat.add_zero]
    exact c1
theorem okN_one (n : Nat) (x : TX) (b1 b2 : Nat) (h : okN n (.inl x)) : okN (n + 1) (.inr (oneB x b1 b2)) := by
  intro s hs
  obtain rfl : s = retS x b1 := by simpa [oneB] using hs
  refine ⟨titles_none _ (by simp [retS]) (by simp [retS]), fun p hp => ?_⟩
  obtain rfl : p = .inl x := by simpa [partsS, retS] using hp
  exact h
/-- The error of an expression: of the chunk that returns it. -/
def exE (x : TX) : Int := chE (oneB x 0 0) (cbE (oneB x 0 0))
theorem chE_one (x : TX) (b1 b2 : Nat) : chE (oneB x b1 b2) (cbE (oneB x b1 b2)) = exE x := by
  have h1 : rkB (oneB x b1 b2) = rkB (oneB x 0 0) := by rw [rkB_eq, rkB_eq]; rfl
  have h2 : cbE (oneB x b1 b2) = cbE (oneB x 0 0) := by unfold cbE; rw [h1]; rfl
  have h3 : dpB (oneB x b1 b2) = dpB (oneB x 0 0) := by rw [dpB_eq, dpB_eq]; rfl
  have h4 : szSs (oneB x b1 b2).l = szSs (oneB x 0 0).l := rfl
  unfold exE chE
  rw [h2, h3, h4]
set_option maxHeartbeats 1600000 in
theorem expr_any (x : TX) (w : World) (hok : ∀ n, okN n (.inl x)) (hin : InX w w.heap.size x) : Calls Tryz.prog 9 #[x.v] w fun e W' => e = .returned (.int .i64 (exE x)) ∧ Below w.heap.size w W' := by
  obtain ⟨E, hE⟩ : ∃ E, exE x = E := ⟨_, rfl⟩
  have HC : Hid (∀ W b1 b2, Below w.heap.size w W → X8 W b1 0 x → S7 W b2 0 (retS x b1) → Calls Tryz.prog 7 #[.slice (some ⟨b2, 0, none⟩) 1 1] W fun e W' => e = .returned (.int .i64 E) ∧ Below W.heap.size W W') := fun W b1 b2 hW c1 c2 => by
    rw [← hE, ← chE_one x b1 b2]
    exact check_ok (oneB x b1 b2) W (okN_one _ _ _ _ (hok _)) (inB_one (hin.still (still_of hW (Nat.le_refl _)) hW.size) (cell_lt c1.1) (cell_lt c2.1) c1 c2)
  rw [hE]
  clear hin hok hE
  go_enter Tryz.func9, Tryz.ntmps9
  go_wp2_with (go_at_call 7; (with_reducible refine (HC.out _ (w.heap.size + 1) _ ?_ ?_ ?_).mono ?_); (focus ((repeat' (first | (with_reducible exact Below.refl _ _) | (with_reducible assumption) | (with_reducible refine Below.alloc ?_ ?_ _) | (with_reducible refine below_drewN ?_ _) | (with_reducible refine Below.drew ?_) | (with_reducible refine Below.setCell ?_ ?_ _) | (with_reducible refine below_via (by assumption) ?_ ?_) | (with_reducible refine below_via (later_below _) ?_ ?_) | (with_reducible exact Nat.le_refl _) | omega | (simp; omega) | (simp; done))))); (focus (unfold X8; simp [cell_alloc_if])); (focus (unfold S7 retS; simp [cell_alloc_if])); rintro e w1 ⟨rfl, hb⟩)
  go_returns
  refine ⟨rfl, ?_⟩
  (repeat' (first | (with_reducible exact Below.refl _ _) | (with_reducible assumption) | (with_reducible refine Below.alloc ?_ ?_ _) | (with_reducible refine below_drewN ?_ _) | (with_reducible refine Below.drew ?_) | (with_reducible refine Below.setCell ?_ ?_ _) | (with_reducible refine below_via (by assumption) ?_ ?_) | (with_reducible refine below_via (later_below _) ?_ ?_) | (with_reducible exact Nat.le_refl _) | omega | (simp; omega) | (simp; done)))
end Go.Proofs.YthkpggpnbdedjaaGreat
