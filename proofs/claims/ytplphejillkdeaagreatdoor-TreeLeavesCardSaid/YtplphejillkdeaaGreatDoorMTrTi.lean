/- titles where a statement names no function. -/
import Derived.Test.YtplphejillkdeaaGreatDoorMTrAB
import Derived.Test.YtplphejillkdeaaGreatDoorMTrChkC
import Derived.Test.YtplphejillkdeaaGreatDoorMTrFo
namespace Go.Proofs.YtplphejillkdeaaGreatDoor
open Go.RowKit Go.Instr
set_option linter.unusedVariables false

theorem tiP_none (s : TS) (h2 : s.k ≠ 2) (h3 : s.k ≠ 3) : tiP s = T0 := by
  unfold tiP
  rw [if_neg (by simp [h2])]
  have : (s.k == 3) = false := by simpa using h3
  rw [this]
set_option maxRecDepth 100000 in
theorem titles_none (s : TS) (h2 : s.k ≠ 2) (h3 : s.k ≠ 3) : TIc s := by
  intro w hin
  have ht : (tiP s).names = [⟨#[]⟩] ∧ (tiP s).m = ⟨#[]⟩ := by rw [tiP_none s h2 h3]; exact ⟨rfl, rfl⟩
  rw [ht.1, ht.2]
  have d2 : (s.k == 2) = false := by simpa using h2
  have d3 : (s.k == 3) = false := by simpa using h3
  clear hin ht h2 h3
  have fr1 := fun i => frozen_out w (w.heap.size + 1) i (by omega)
  have fr3 := fun i => frozen_out w (w.heap.size + 1 + 1 + 1) i (by omega)
  go_enter Tryz.func53, Tryz.ntmps53
  go_wp2_with fail
  ((try simp only [Exit.inBlock, Exit.then]); refine bodyPost_ret (by first | (simp [results, Tryz.results53, go_sem, *]; done) | (simp [results, Tryz.results53, go_sem, *]; rfl) | (simp [results, Tryz.results53, go_sem, ↓IntWalk.iteOmega, *]; try rfl)) rfl ?_)
  refine ⟨⟨some ⟨w.heap.size + 1 + 1, 0, none⟩, 1, [⟨#[]⟩], ⟨#[]⟩⟩, rfl, rfl, rfl, ⟨⟨Nat.le_refl _, (by decide : (1 : Nat) ≤ 9223372036854775807), fun h => by cases h⟩, .inr ⟨_, 0, rfl, ?_, fun i hi => ?_⟩⟩, ?_⟩
  · simp
  · obtain rfl : i = 0 := by simp at hi; omega
    show World.cell? _ _ = _
    simp [cell_alloc_if]
  · (repeat' (first | (with_reducible exact Below.refl _ _) | (with_reducible assumption) | (with_reducible refine Below.alloc ?_ ?_ _) | (with_reducible refine below_drewN ?_ _) | (with_reducible refine Below.drew ?_) | (with_reducible refine Below.setCell ?_ ?_ _) | (with_reducible refine below_via (by assumption) ?_ ?_) | (with_reducible refine below_via (later_below _) ?_ ?_) | (with_reducible exact Nat.le_refl _) | omega | (simp; omega) | (simp; done)))

theorem check_ok (y : TB) (w : World) (hok : okN (rkB y + 1) (.inr y)) (hin : InB w w.heap.size y) : Calls Tryz.prog 12 #[y.v] w fun e W' => e = .returned (.int .i64 (chE y (cbE y))) ∧ Below w.heap.size w W' :=
  check_any y (cbE y) w hin fun W hW => checkBlock_any y W hok (hin.still (still_of hW (Nat.le_refl _)) hW.size)

/-- The statement 'return e', the block of it alone. -/
def retS (x : TX) (b : Nat) : TS := ⟨11, 0, none, 0, [], none, 0, [], some ⟨b, 0, none⟩, 1, [x], none, 0, [], ⟨#[]⟩⟩
def oneB (x : TX) (b1 b2 : Nat) : TB := ⟨some ⟨b2, 0, none⟩, 1, [retS x b1]⟩
theorem inB_one {W : World} {N b1 b2 : Nat} {x : TX} (hx : InX W N x) (h1 : b1 < N) (h2 : b2 < N) (c1 : X8 W b1 0 x) (c2 : S7 W b2 0 (retS x b1)) : InB W N (oneB x b1 b2) := by
  have i11 : I64 11 := by unfold I64; omega
  have i0 : I64 0 := by unfold I64; omega
  have s0 : ∀ a, Slc (a : Option Addr) 0 0 := fun a => ⟨Nat.le_refl _, by omega, fun _ => rfl⟩
  have s1 : ∀ b : Addr, Slc (some b) 1 1 := fun b => ⟨Nat.le_refl _, by omega, fun h => by cases h⟩
  refine (inB_iff _).2 ⟨⟨s1 _, .inr ⟨b2, 0, rfl, h2, fun i hi => ?_⟩⟩, (inS_iff _).2 ⟨⟨i11, i0, s0 _, fun s h => (by cases h), s0 _, s1 _, s0 _, (by decide : (0 : Nat) ≤ 9223372036854775807), .inl rfl, .inl rfl, .inr ⟨b1, 0, rfl, h1, fun i hi => ?_⟩, .inl rfl⟩, trivial, ⟨hx, trivial⟩, trivial⟩, trivial⟩
  · obtain rfl : i = 0 := by simp [oneB] at hi; omega
    rw [Nat.zero_mul, Nat.add_zero]
    exact c2
  · obtain rfl : i = 0 := by simp [retS] at hi; omega
    rw [Nat.zero_mul, Nat.add_zero]
    exact c1
theorem okN_one (n : Nat) (x : TX) (b1 b2 : Nat) (h : okN n (.inl x)) : okN (n + 1) (.inr (oneB x b1 b2)) := by
  intro s hs
  obtain rfl : s = retS x b1 := by simpa [oneB] using hs
  refine ⟨titles_none _ (by simp [retS]) (by simp [retS]), fun p hp => ?_⟩
  obtain rfl : p = .inl x := by simpa [partsS, retS] using hp
  exact h
/-- The error of an expression: of the chunk that returns it. -/
def exE (x : TX) : Int := chE (oneB x 0 0) (cbE (oneB x 0 0))
theorem chE_one (x : TX) (b1 b2 : Nat) : chE (oneB x b1 b2) (cbE (oneB x b1 b2)) = exE x := by
  have h1 : rkB (oneB x b1 b2) = rkB (oneB x 0 0) := by rw [rkB_eq, rkB_eq]; rfl
  have h2 : cbE (oneB x b1 b2) = cbE (oneB x 0 0) := by unfold cbE; rw [h1]; rfl
  have h3 : dpB (oneB x b1 b2) = dpB (oneB x 0 0) := by rw [dpB_eq, dpB_eq]; rfl
  have h4 : szSs (oneB x b1 b2).l = szSs (oneB x 0 0).l := rfl
  unfold exE chE
  rw [h2, h3, h4]
set_option maxHeartbeats 1600000 in
theorem expr_any (x : TX) (w : World) (hok : ∀ n, okN n (.inl x)) (hin : InX w w.heap.size x) : Calls Tryz.prog 5 #[x.v] w fun e W' => e = .returned (.int .i64 (exE x)) ∧ Below w.heap.size w W' := by
  obtain ⟨E, hE⟩ : ∃ E, exE x = E := ⟨_, rfl⟩
  have HC : Hid (∀ W b1 b2, Below w.heap.size w W → X8 W b1 0 x → S7 W b2 0 (retS x b1) → Calls Tryz.prog 12 #[.slice (some ⟨b2, 0, none⟩) 1 1] W fun e W' => e = .returned (.int .i64 E) ∧ Below W.heap.size W W') := fun W b1 b2 hW c1 c2 => by
    rw [← hE, ← chE_one x b1 b2]
    exact check_ok (oneB x b1 b2) W (okN_one _ _ _ _ (hok _)) (inB_one (hin.still (still_of hW (Nat.le_refl _)) hW.size) (cell_lt c1.1) (cell_lt c2.1) c1 c2)
  rw [hE]
  clear hin hok hE
  go_enter Tryz.func5, Tryz.ntmps5
  go_wp2_with (go_at_call 12; (with_reducible refine (HC.out _ (w.heap.size + 1) _ ?_ ?_ ?_).mono ?_); (focus ((repeat' (first | (with_reducible exact Below.refl _ _) | (with_reducible assumption) | (with_reducible refine Below.alloc ?_ ?_ _) | (with_reducible refine below_drewN ?_ _) | (with_reducible refine Below.drew ?_) | (with_reducible refine Below.setCell ?_ ?_ _) | (with_reducible refine below_via (by assumption) ?_ ?_) | (with_reducible refine below_via (later_below _) ?_ ?_) | (with_reducible exact Nat.le_refl _) | omega | (simp; omega) | (simp; done))))); (focus (unfold X8; simp [cell_alloc_if])); (focus (unfold S7 retS; simp [cell_alloc_if])); rintro e w1 ⟨rfl, hb⟩)
  go_returns
  refine ⟨rfl, ?_⟩
  (repeat' (first | (with_reducible exact Below.refl _ _) | (with_reducible assumption) | (with_reducible refine Below.alloc ?_ ?_ _) | (with_reducible refine below_drewN ?_ _) | (with_reducible refine Below.drew ?_) | (with_reducible refine Below.setCell ?_ ?_ _) | (with_reducible refine below_via (by assumption) ?_ ?_) | (with_reducible refine below_via (later_below _) ?_ ?_) | (with_reducible exact Nat.le_refl _) | omega | (simp; omega) | (simp; done)))
end Go.Proofs.YtplphejillkdeaaGreatDoor

/- Leaves: the errors of an expression without parts. -/
namespace Go.Proofs.YtplphejillkdeaaGreatDoor
open Go.RowKit Go.Instr
set_option linter.unusedVariables false

/-- An expression without parts. -/
abbrev leafX (k p q : Int) (s : ByteArray) : TX := ⟨k, 0, 0, p, q, s, none, 0, [], none, 0, []⟩
theorem ok_leaf (k p q : Int) (s : ByteArray) : ∀ n, okN n (.inl (leafX k p q s))
  | 0 => trivial
  | n + 1 => (show (∀ y ∈ ([] : List TX), okN n (.inl y)) ∧ ∀ f ∈ ([] : List TF), okN n (.inr ⟨f.bA, f.bC, f.body⟩) from ⟨fun _ hy => (by cases hy), fun _ h => (by cases h)⟩)
theorem in_leaf (k p q : Int) (s : ByteArray) (W : World) (N : Nat) (hk : I64 k) (hp : I64 p) (hq : I64 q) (hs : s.size ≤ 9223372036854775807) : InX W N (leafX k p q s) :=
  (inX_iff _).2 ⟨⟨hk, (by unfold I64; omega : I64 0), (by unfold I64; omega : I64 0), hp, hq, hs, ⟨Nat.le_refl _, (by omega : (0 : Nat) ≤ 9223372036854775807), fun _ => rfl⟩, ⟨Nat.le_refl _, (by omega : (0 : Nat) ≤ 9223372036854775807), fun _ => rfl⟩, .inl rfl, .inl rfl⟩, trivial, trivial⟩
theorem empty_list : (ByteArray.mk #[]).toList = [] := by rw [Lib.toList_data]
theorem cs_ret (x : TX) : csE (retS x 0) true = 0 := by
  unfold csE retS fsB cntB fitN
  rw [show (⟨#[]⟩ : ByteArray).size = 0 from rfl]
  dsimp only
  rw [empty_list]
  rfl
theorem cb_leaf (k p q : Int) (s : ByteArray) : cbE (oneB (leafX k p q s) 0 0) = ceE (leafX k p q s) 0 T0 := by
  unfold cbE
  obtain ⟨m, hm⟩ : ∃ m, rkB (oneB (leafX k p q s) 0 0) = m + 1 := ⟨_, by rw [rkB_eq, Nat.add_comm]⟩
  rw [hm]
  have e : ckE (m + 1 + 1) (.inr (oneB (leafX k p q s) 0 0)) 0 T0 = fe [fe (csE (retS (leafX k p q s) 0) true :: [ckE (m + 1) (.inl (leafX k p q s)) 0 (tiP (retS (leafX k p q s) 0))])] := rfl
  rw [e, cs_ret, tiP_none _ (by simp [retS]) (by simp [retS])]
  show fe [fe [ckE (m + 1) (.inl (leafX k p q s)) 0 T0]] = _
  have e2 : ckE (m + 1) (.inl (leafX k p q s)) 0 T0 = fe [ceE (leafX k p q s) 0 T0] := rfl
  have e3 : ∀ a : Int, fe [a] = a := fun a => by
    show (if a = 0 then (0 : Int) else a) = a
    split
    · rename_i h; exact h.symm
    · rfl
  rw [e2, e3, e3, e3]
theorem leaf_exE (k p q : Int) (s : ByteArray) : exE (leafX k p q s) = ceE (leafX k p q s) 0 T0 := by
  unfold exE chE
  rw [cb_leaf, if_neg]
  have h1 : szSs (oneB (leafX k p q s) 0 0).l = 2 := rfl
  have h2 : dpB (oneB (leafX k p q s) 0 0) = wrap64 (1 + mxSs (oneB (leafX k p q s) 0 0).l) := dpB_eq _
  rw [h1, h2]
  have h3 : mxSs (oneB (leafX k p q s) 0 0).l = mxSs (oneB (leafX 0 0 0 ⟨#[]⟩) 0 0).l := rfl
  have h4 : mxSs (oneB (leafX 0 0 0 ⟨#[]⟩) 0 0).l = 1 := by kernel_rfl
  rw [h3, h4]
  simp [wrap64]
theorem ce_name (s : ByteArray) : ceE (leafX 7 0 0 s) 0 T0 = if 40 < s.size then 3 else if nameB s.data.toList = true then 0 else 9 := by
  unfold ceE
  have e1 : mostI (leafX 7 0 0 s) = 40 := rfl
  rw [e1]
  by_cases h : 40 < s.size
  · rw [if_pos h, if_pos (by show (40 : Int) < (s.size : Int); omega)]
  · rw [if_neg h, if_neg (by show ¬ (40 : Int) < (s.size : Int); omega)]
    have e2 : (decide (0 ≤ (leafX 7 0 0 s).ln) && feB (leafX 7 0 0 s) 0) = true := rfl
    rw [e2]
    show (if (false : Bool) = true then (3 : Int) else if true = false then 4 else if (false : Bool) = true then 4 else if (true && !nameB s.data.toList) = true then 9 else if (false : Bool) = true then 9 else 0) = _
    cases nameB s.data.toList <;> rfl
theorem ce_num (p q : Int) : ceE (leafX 4 p q ⟨#[]⟩) 0 T0 = if (vldB p q && (decide (0 ≤ p) && (1000000000 : Int) % q == 0)) = true then 0 else 4 := by
  unfold ceE
  have e1 : mostI (leafX 4 p q ⟨#[]⟩) = 40 := rfl
  rw [e1, if_neg (by show ¬ (40 : Int) < 0; omega)]
  have e2 : (decide (0 ≤ (leafX 4 p q ⟨#[]⟩).ln) && feB (leafX 4 p q ⟨#[]⟩) 0) = (vldB p q && (decide (0 ≤ p) && (1000000000 : Int) % q == 0)) := by
    unfold feB
    rw [if_neg (show ¬ (4 : Int) = 1 by decide), if_neg (show ¬ (4 : Int) = 2 by decide), if_neg (show ¬ (4 : Int) = 3 by decide), if_pos rfl]
    unfold hasB
    dsimp only
    rw [empty_list]
    rfl
  rw [e2]
  generalize (vldB p q && (decide (0 ≤ p) && (1000000000 : Int) % q == 0)) = b
  cases b <;> rfl
end Go.Proofs.YtplphejillkdeaaGreatDoor
