/- The law TreeChecks holds: for every input whose reading is of at most uptoSmall's bulk. -/
import Derived.Test.YthkpggpnbdedjaaGreatMTrOpX
import Derived.Test.YthkpggpnbdedjaaGreatMTrRCD
import Derived.ProofKit
import Derived.OpenShut
import Derived.Lib.SmallJoins
import Derived.JoinedCond
namespace Go.Proofs.YthkpggpnbdedjaaGreat.treeChecks
open Go.ChangeShapes Go.WideShapes Go.ChangeAt Go.RowKit Go.Joins Go.Instr Go.Shelf
set_option linter.unusedVariables false

theorem own : ownKnob Tryz.prog.godebug = none := by kernel_rfl
theorem laidOut : laidOutB Tryz.prog = true := by kernel_rfl

set_option maxHeartbeats 8000000 in
set_option maxRecDepth 100000 in
theorem walk (b : TB) (e : TX) (w : World) (ib : InB w w.heap.size b) (ie : InX w w.heap.size e) (hb0 : rkB b ≤ 1048576) (he0 : rkX e ≤ 1048576) :
    Calls Tryz.prog 3 #[b.v, e.v] w fun e w' => e = .returned (.bool true) ∧ Below w.heap.size w w' := by
  have HLb : Hid (∀ W, Below w.heap.size w W → Calls Tryz.prog 4 #[b.v] W fun e w' => e = .returned (.bool (lgB b)) ∧ Below W.heap.size W w') := fun W hW => large_any b W (ib.still (still_of hW (Nat.le_refl _)) hW.size)
  have HOe : Hid (∀ W, Calls Tryz.prog 5 #[e.v] W fun r W' => ∃ b1 b2, r = .returned (.slice (some ⟨b2, 0, none⟩) 1 1) ∧ X8 W' b1 0 e ∧ S7 W' b2 0 (retS e b1) ∧ Below W.heap.size W W') := mkone_any e
  have HLe : Hid (∀ W b1 b2, Below w.heap.size w W → X8 W b1 0 e → S7 W b2 0 (retS e b1) → Calls Tryz.prog 4 #[.slice (some ⟨b2, 0, none⟩) 1 1] W fun r w' => r = .returned (.bool (lgX e)) ∧ Below W.heap.size W w') := fun W b1 b2 hW => largeX_any e b1 b2 W (ie.still (still_of hW (Nat.le_refl _)) hW.size)
  have HCp : Hid (∀ W, Below w.heap.size w W → Calls Tryz.prog 7 #[b.v] W fun e w' => e = .returned (.int .i64 (chE b (cbE b))) ∧ Below W.heap.size W w') := fun W hW => check_ok b W (okN_all _ (.inr b) hb0) (ib.still (still_of hW (Nat.le_refl _)) hW.size)
  have HCr : Hid (∀ W, Below w.heap.size w W → Calls Tryz.prog 8 #[b.v] W fun e w' => e = .returned (.int .i64 (chE b (cbE b))) ∧ Below W.heap.size W w') := fun W hW => rcheck_any b W (by omega) (ib.still (still_of hW (Nat.le_refl _)) hW.size)
  have HEp : Hid (∀ W, Below w.heap.size w W → Calls Tryz.prog 9 #[e.v] W fun r w' => r = .returned (.int .i64 (exE e)) ∧ Below W.heap.size W w') := fun W hW => expr_any e W (fun m => okN_all m (.inl e) he0) (ie.still (still_of hW (Nat.le_refl _)) hW.size)
  have HEr : Hid (∀ W, Below w.heap.size w W → Calls Tryz.prog 10 #[e.v] W fun r w' => r = .returned (.int .i64 (exE e)) ∧ Below W.heap.size W w') := fun W hW => rexpr05_any e W he0 (ie.still (still_of hW (Nat.le_refl _)) hW.size)
  obtain ⟨Lb, hLb⟩ : ∃ L, lgB b = L := ⟨_, rfl⟩
  rw [hLb] at HLb
  obtain ⟨Le, hLe⟩ : ∃ L, lgX e = L := ⟨_, rfl⟩
  rw [hLe] at HLe
  obtain ⟨C, hC⟩ : ∃ Q, chE b (cbE b) = Q := ⟨_, rfl⟩
  rw [hC] at HCp HCr
  obtain ⟨X, hX⟩ : ∃ R, exE e = R := ⟨_, rfl⟩
  rw [hX] at HEp HEr
  have tC : (C == C) = true := by simp
  have tX : (X == X) = true := by simp
  clear hLb hLe hC hX ib ie hb0 he0
  cases Lb with
  | true =>
    go_enter Tryz.func3, Tryz.ntmps3
    go_wp2_with (first | (go_at_call 4; (with_reducible refine (HLb.out _ ?_).mono ?_); (focus ((repeat' (first | (with_reducible exact Below.refl _ _) | (with_reducible assumption) | (with_reducible refine Below.alloc ?_ ?_ _) | (with_reducible refine below_drewN ?_ _) | (with_reducible refine Below.drew ?_) | (with_reducible refine Below.setCell ?_ ?_ _) | (with_reducible refine below_via (by assumption) ?_ ?_) | (with_reducible refine below_via (later_below _) ?_ ?_) | (with_reducible exact Nat.le_refl _) | omega | (simp; omega) | (simp; done))))); rintro e w1 ⟨rfl, hb⟩; clear HLb; (refine mem hb ?_; intro N hN hz hc hf; (try simp at hN); subst hN)) | (go_at_call 5; (with_reducible refine (HOe.out _).mono ?_);  rintro e w1 ⟨b1, b2, rfl, x1, x2, hb⟩; clear HOe; (refine mem hb ?_; intro N hN hz hc hf; (try simp at hN); subst hN)) | (go_at_call 4; (with_reducible refine (HLe.out _ _ _ ?_ x1 x2).mono ?_); (focus ((repeat' (first | (with_reducible exact Below.refl _ _) | (with_reducible assumption) | (with_reducible refine Below.alloc ?_ ?_ _) | (with_reducible refine below_drewN ?_ _) | (with_reducible refine Below.drew ?_) | (with_reducible refine Below.setCell ?_ ?_ _) | (with_reducible refine below_via (by assumption) ?_ ?_) | (with_reducible refine below_via (later_below _) ?_ ?_) | (with_reducible exact Nat.le_refl _) | omega | (simp; omega) | (simp; done))))); rintro e w1 ⟨rfl, hb⟩; clear HLe; (refine mem hb ?_; intro N hN hz hc hf; (try simp at hN); subst hN)) | (go_at_call 6; (with_reducible refine (awake_any _).mono ?_); rintro e w1 ⟨rfl, hb⟩; (refine mem hb ?_; intro N hN hz hc hf; (try simp at hN); subst hN)))
    go_returns
    refine ⟨rfl, ?_⟩
    (repeat' (first | (with_reducible exact Below.refl _ _) | (with_reducible assumption) | (with_reducible refine Below.alloc ?_ ?_ _) | (with_reducible refine below_drewN ?_ _) | (with_reducible refine Below.drew ?_) | (with_reducible refine Below.setCell ?_ ?_ _) | (with_reducible refine below_via (by assumption) ?_ ?_) | (with_reducible refine below_via (later_below _) ?_ ?_) | (with_reducible exact Nat.le_refl _) | omega | (simp; omega) | (simp; done)))
  | false =>
    cases Le with
    | true =>
      go_enter Tryz.func3, Tryz.ntmps3
      go_wp2_with (first | (go_at_call 4; (with_reducible refine (HLb.out _ ?_).mono ?_); (focus ((repeat' (first | (with_reducible exact Below.refl _ _) | (with_reducible assumption) | (with_reducible refine Below.alloc ?_ ?_ _) | (with_reducible refine below_drewN ?_ _) | (with_reducible refine Below.drew ?_) | (with_reducible refine Below.setCell ?_ ?_ _) | (with_reducible refine below_via (by assumption) ?_ ?_) | (with_reducible refine below_via (later_below _) ?_ ?_) | (with_reducible exact Nat.le_refl _) | omega | (simp; omega) | (simp; done))))); rintro e w1 ⟨rfl, hb⟩; clear HLb; (refine mem hb ?_; intro N hN hz hc hf; (try simp at hN); subst hN)) | (go_at_call 5; (with_reducible refine (HOe.out _).mono ?_);  rintro e w1 ⟨b1, b2, rfl, x1, x2, hb⟩; clear HOe; (refine mem hb ?_; intro N hN hz hc hf; (try simp at hN); subst hN)) | (go_at_call 4; (with_reducible refine (HLe.out _ _ _ ?_ x1 x2).mono ?_); (focus ((repeat' (first | (with_reducible exact Below.refl _ _) | (with_reducible assumption) | (with_reducible refine Below.alloc ?_ ?_ _) | (with_reducible refine below_drewN ?_ _) | (with_reducible refine Below.drew ?_) | (with_reducible refine Below.setCell ?_ ?_ _) | (with_reducible refine below_via (by assumption) ?_ ?_) | (with_reducible refine below_via (later_below _) ?_ ?_) | (with_reducible exact Nat.le_refl _) | omega | (simp; omega) | (simp; done))))); rintro e w1 ⟨rfl, hb⟩; clear HLe; (refine mem hb ?_; intro N hN hz hc hf; (try simp at hN); subst hN)) | (go_at_call 6; (with_reducible refine (awake_any _).mono ?_); rintro e w1 ⟨rfl, hb⟩; (refine mem hb ?_; intro N hN hz hc hf; (try simp at hN); subst hN)))
      go_returns
      refine ⟨rfl, ?_⟩
      (repeat' (first | (with_reducible exact Below.refl _ _) | (with_reducible assumption) | (with_reducible refine Below.alloc ?_ ?_ _) | (with_reducible refine below_drewN ?_ _) | (with_reducible refine Below.drew ?_) | (with_reducible refine Below.setCell ?_ ?_ _) | (with_reducible refine below_via (by assumption) ?_ ?_) | (with_reducible refine below_via (later_below _) ?_ ?_) | (with_reducible exact Nat.le_refl _) | omega | (simp; omega) | (simp; done)))
    | false =>
      go_enter Tryz.func3, Tryz.ntmps3
      go_wp2_with (first | (go_at_call 4; (with_reducible refine (HLb.out _ ?_).mono ?_); (focus ((repeat' (first | (with_reducible exact Below.refl _ _) | (with_reducible assumption) | (with_reducible refine Below.alloc ?_ ?_ _) | (with_reducible refine below_drewN ?_ _) | (with_reducible refine Below.drew ?_) | (with_reducible refine Below.setCell ?_ ?_ _) | (with_reducible refine below_via (by assumption) ?_ ?_) | (with_reducible refine below_via (later_below _) ?_ ?_) | (with_reducible exact Nat.le_refl _) | omega | (simp; omega) | (simp; done))))); rintro e w1 ⟨rfl, hb⟩; clear HLb; (refine mem hb ?_; intro N hN hz hc hf; (try simp at hN); subst hN)) | (go_at_call 5; (with_reducible refine (HOe.out _).mono ?_);  rintro e w1 ⟨b1, b2, rfl, x1, x2, hb⟩; clear HOe; (refine mem hb ?_; intro N hN hz hc hf; (try simp at hN); subst hN)) | (go_at_call 4; (with_reducible refine (HLe.out _ _ _ ?_ x1 x2).mono ?_); (focus ((repeat' (first | (with_reducible exact Below.refl _ _) | (with_reducible assumption) | (with_reducible refine Below.alloc ?_ ?_ _) | (with_reducible refine below_drewN ?_ _) | (with_reducible refine Below.drew ?_) | (with_reducible refine Below.setCell ?_ ?_ _) | (with_reducible refine below_via (by assumption) ?_ ?_) | (with_reducible refine below_via (later_below _) ?_ ?_) | (with_reducible exact Nat.le_refl _) | omega | (simp; omega) | (simp; done))))); rintro e w1 ⟨rfl, hb⟩; clear HLe; (refine mem hb ?_; intro N hN hz hc hf; (try simp at hN); subst hN)) | (go_at_call 6; (with_reducible refine (awake_any _).mono ?_); rintro e w1 ⟨rfl, hb⟩; (refine mem hb ?_; intro N hN hz hc hf; (try simp at hN); subst hN)))
      have hBw : Below w.heap.size w w1 := by (repeat' (first | (with_reducible exact Below.refl _ _) | (with_reducible assumption) | (with_reducible refine Below.alloc ?_ ?_ _) | (with_reducible refine below_drewN ?_ _) | (with_reducible refine Below.drew ?_) | (with_reducible refine Below.setCell ?_ ?_ _) | (with_reducible refine below_via (by assumption) ?_ ?_) | (with_reducible refine below_via (later_below _) ?_ ?_) | (with_reducible exact Nat.le_refl _) | omega | (simp; omega) | (simp; done)))
      (refine wp_region_calm (by kernel_rfl) (by kernel_rfl) ?_; refine calm_mem ?_; intro N hN hne hcu; (try simp at hN); subst hN; (repeat ((refine wpQuiet_step (fun K hK => ?_)); go_simp; (repeat (simp only [↓IntWalk.iteOmega]; go_simp)); (first | (refine hK _ ?_; clear hK K) | (apply Exists.intro; refine ⟨fun _ => ?_, hK _ ?_⟩; (first | (go_at_call 7; (with_reducible refine calm_of (HCp.out _ (hBw.trans (Below.mono (Subtype.property _) hBw.size))))) | (go_at_call 8; (with_reducible refine calm_of (HCr.out _ (hBw.trans (Below.mono (Subtype.property _) hBw.size))))) | (go_at_call 9; (with_reducible refine calm_of (HEp.out _ (hBw.trans (Below.mono (Subtype.property _) hBw.size))))) | (go_at_call 10; (with_reducible refine calm_of (HEr.out _ (hBw.trans (Below.mono (Subtype.property _) hBw.size))))) | (go_at_call 6; exact calm_of (awake_any _))); clear hK K)))); refine wpQuiet_nil ?_; intro _ hw'; obtain ⟨⟨w1, hb⟩, hw''⟩ := hw'; subst hw''; clear hcu hne; (try dsimp only); (refine mem hb ?_; intro N hN hz hc hf; (try simp at hN); subst hN))
      go_wp2_with fail
      go_returns
      refine ⟨by simp, ?_⟩
      (repeat' (first | (with_reducible exact Below.refl _ _) | (with_reducible assumption) | (with_reducible refine Below.alloc ?_ ?_ _) | (with_reducible refine below_drewN ?_ _) | (with_reducible refine Below.drew ?_) | (with_reducible refine Below.setCell ?_ ?_ _) | (with_reducible refine below_via (by assumption) ?_ ?_) | (with_reducible refine below_via (later_below _) ?_ ?_) | (with_reducible exact Nat.le_refl _) | omega | (simp; omega) | (simp; done)))

set_option maxRecDepth 100000 in
theorem contract (H : Type) (enc : TypeId × Value → H) (W : World) (base : Nat) (args : Array Value) (ds gs : List (DataW H)) (before : List MemPlace)
    (hval : ∀ (j : Nat) t v, Tryz.f3.params[j]? = some t → args[j]? = some v → Value.okWide Tryz.prog W .any base t v)
    (hW : DataW.Whole enc Tryz.prog Tryz.f3.params.toList Rows.treeChecksSpec.vars false W args.toList ds gs before) (hk : Rows.uptoSmall H (ds ++ gs) = true) :
    Calls Tryz.prog 3 args W fun e W' => ∃ v, e = .returned v ∧ Rows.treeChecksSpec.post enc Tryz.prog Tryz.f3 false true false false W args v W' := by
  have hW' := hW
  obtain ⟨p, q, hA0, hV, rfl, hfz, hnd⟩ := hW
  have hA : DataW.TrodAll enc Tryz.prog W 0 (fun _ => true) true Tryz.f3.params.toList args.toList ds p := hA0
  rw [Tryz.params3] at hA hval
  obtain ⟨v0, vs0, d0, ds0, p0, q0, hargs, rfl, rfl, h0, r0⟩ := trodAll_cons hA
  obtain ⟨v1, vs1, d1, ds1, p1, q1, rfl, rfl, rfl, h1, r1⟩ := trodAll_cons r0
  obtain ⟨rfl, rfl, rfl⟩ := trodAll_nil r1
  obtain rfl : args = #[v0, v1] := by cases args; simp_all
  obtain ⟨rfl, rfl⟩ := trodVars_none hV
  have k0 := h0
  have lt0 : ∀ x ∈ p0, x.block < W.heap.size := by obtain ⟨m, hm⟩ := k0; exact DataW.trod_lt m _ _ _ hm
  obtain ⟨a0, n0, c0, e0⟩ := okWide_slice Tryz.underlying22 (hval 0 22 v0 rfl rfl)
  obtain ⟨b, g0, ib, rb⟩ := open_blk h0 (by rw [e0]; rfl)
  subst g0
  have k1 := h1
  have lt1 : ∀ x ∈ p1, x.block < W.heap.size := by obtain ⟨m, hm⟩ := k1; exact DataW.trod_lt m _ _ _ hm
  obtain ⟨e, g1, ie, re⟩ := open_expr (hval 1 28 v1 rfl rfl) h1
  subst g1
  have hsm := of_decide_eq_true hk
  simp only [List.append_nil, Rows.uptoBulkAll] at hsm
  clear hA0
  refine (walk b e W ib ie (by omega) (by omega)).mono fun e W' ⟨he, bel⟩ => ?_
  subst he
  exact ⟨_, rfl, _, _, _, [], _, [], hW', trodAll_mk1 (shut_bool Tryz.underlying4 _), (trodAll_cons_mk (Below.trod laidOut (by kernel_rfl) (of_decide_eq_true (by kernel_rfl)) k0 bel lt0) (trodAll_cons_mk (Below.trod laidOut (by kernel_rfl) (of_decide_eq_true (by kernel_rfl)) k1 bel lt1) trodAll_mk0)), rfl, bel.frame _, fun h => by cases h⟩

set_option maxRecDepth 100000 in
theorem lifted (os : Os) (started : os.Started) (H : Type) (enc : TypeId × Value → H) (F : Stop.Interp) :
    ReturnsInHanded {} Tryz.checked os 3 .any ((Rows.OpenSpec.upto Rows.treeChecksSpec).pre6 enc Tryz.prog Tryz.f3 Rows.treeChecksUptoRow.domain false) (((Rows.OpenSpec.upto Rows.treeChecksSpec).at F).post enc Tryz.prog Tryz.f3 false true false false) := by
  refine returnsInHanded_of_cond (C := Tryz.checked) (s := Rows.OpenSpec.upto Rows.treeChecksSpec) (k := Rows.uptoSmall) rfl own started (by kernel_rfl) Tryz.func3
    (OpenSpec.witness (enc := enc) (C := Tryz.checked) (s := Rows.OpenSpec.upto Rows.treeChecksSpec) (k := Rows.uptoSmall) rfl false ⟨#[], #[.slice none 0 0, .agg #[.int .i64 0, .int .i64 0, .int .i64 0, .int .i64 0, .int .i64 0, .string ⟨#[]⟩, .slice none 0 0, .slice none 0 0]], []⟩ 8 (by kernel_rfl) (by kernel_rfl) (by kernel_rfl)
      (x := ([.nil, .agg [.lit (.int .i64 0), .lit (.int .i64 0), .lit (.int .i64 0), .agg [.lit (.int .i64 0), .lit (.int .i64 0)], .lit (.string []), .nil, .nil]], [], [])) (by kernel_rfl) rfl (by kernel_rfl)) ?_
  intro W base args ds gs before hval hW _ hk _
  exact contract H enc W base args ds gs before hval hW hk

theorem over : Rows.treeChecksUptoRow.holds Tryz.pinned (Rows.OpenSpec.upto Rows.treeChecksSpec) :=
  OpenClaim.holds_of_cond 3 Tryz.f3 rfl rfl rfl rfl rfl rfl rfl ⟨rfl, rfl, rfl, rfl, rfl⟩ rfl rfl rfl rfl rfl (by kernel_rfl) Tryz.func3 (by kernel_rfl)
    (of_decide_eq_true (by kernel_rfl)) (by unfold Func.isWrapper; first | (rw [if_pos (by decide +kernel)]; kernel_rfl) | (rw [if_neg (by decide +kernel)]; exact ⟨rfl, rfl⟩))
    (fun os started H enc _ F => lifted os started H enc F)

/-- The given statement. -/
theorem proved : Rows.TreeChecksUptoSaid := over
#print axioms proved
end Go.Proofs.YthkpggpnbdedjaaGreat.treeChecks
