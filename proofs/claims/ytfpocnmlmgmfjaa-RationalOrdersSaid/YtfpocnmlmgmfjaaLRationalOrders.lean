/- The law RationalOrders holds: for every input it returns true, and each argument reads as it did. No conditions. -/
import Derived.Test.YtfpocnmlmgmfjaaLOrdA
import Derived.Test.YtfpocnmlmgmfjaaLOrdB
import Derived.Test.YtfpocnmlmgmfjaaLOrdC
import Derived.ProofKit
import Derived.OpenShut
import Derived.Lib.SmallJoins
namespace Go.Proofs.Ytfpocnmlmgmfjaa.rationalOrders
open Go.ChangeShapes Go.WideShapes Go.ChangeAt Go.RowKit Go.Joins
set_option linter.unusedVariables false

theorem own : ownKnob Try.prog.godebug = none := by kernel_rfl
theorem laidOut : laidOutB Try.prog = true := by kernel_rfl

theorem htr_of {k m l : Int} (hm : -1 ≤ m ∧ m ≤ 1) (h : m ≤ 0 → l ≤ 0) : m = 1 ∨ (m ≤ 0 ∧ l ≤ 0) := by
  by_cases h1 : m ≤ 0
  · exact .inr ⟨h1, h h1⟩
  · exact .inl (by omega)
theorem xy_of {xE yE c k : Int} (hx : xE = 0 ∨ xE = 6) (hy : yE = 0 ∨ yE = 6) (h : xE = 0 → yE = 0 → c = k) : (xE = 0 ∧ yE = 0 ∧ c = k) ∨ xE = 6 ∨ (xE = 0 ∧ yE = 6) := by
  rcases hx with hx | hx
  · rcases hy with hy | hy
    · exact .inl ⟨hx, hy, h hx hy⟩
    · exact .inr (.inr ⟨hx, hy⟩)
  · exact .inr (.inl hx)

theorem good (aP aQ bP bQ cP cQ : Int) (w : World) (va : vldB aP aQ = true) (vb : vldB bP bQ = true) (vc : vldB cP cQ = true) :
    Calls Try.prog 12 #[.agg #[.int .i64 aP, .int .i64 aQ], .agg #[.int .i64 bP, .int .i64 bQ], .agg #[.int .i64 cP, .int .i64 cQ]] w fun e w' => e = .returned (.bool true) ∧ Below w.heap.size w w' := by
  obtain ⟨o1, o2, o3⟩ := ord_eq_T va vb
  obtain ⟨f1, f2, f3⟩ := floor_T va
  obtain ⟨c1, c2, c3, c4, c5⟩ := ceil_T va
  have fb := vld_bd f2
  have cb := vld_bd c2
  have hce : (-((-aP).fdiv aQ) == aP.fdiv aQ) = (aQ == 1) := by rw [Bool.eq_iff_iff]; simpa using c5
  have hm := cmp_range_T bP bQ cP cQ
  have xb := addT_bd aP aQ cP cQ
  have yb := addT_bd bP bQ cP cQ
  have hxy := xy_of (c := cmpT (addT aP aQ cP cQ).1 (addT aP aQ cP cQ).2.1 (addT bP bQ cP cQ).1 (addT bP bQ cP cQ).2.1) (addT_E va vc) (addT_E vb vc) (fun h1 h2 => ord_add_T va vb vc h1 h2)
  have htr : cmpT aP aQ bP bQ ≤ 0 → (cmpT bP bQ cP cQ = 1 ∨ (cmpT bP bQ cP cQ ≤ 0 ∧ cmpT aP aQ cP cQ ≤ 0)) := fun h => htr_of (k := 0) hm (fun h2 => ord_trans_T va vb vc h h2)
  by_cases e0 : cmpT aP aQ bP bQ = 0
  · obtain ⟨rfl, rfl⟩ := o1.1 e0
    have hx0 : ((addT aP aQ cP cQ).2.2 = 0 ∧ cmpT (addT aP aQ cP cQ).1 (addT aP aQ cP cQ).2.1 (addT aP aQ cP cQ).1 (addT aP aQ cP cQ).2.1 = 0) ∨ (addT aP aQ cP cQ).2.2 = 6 := by
      rcases addT_E va vc with h | h
      · exact .inl ⟨h, cmp_self_T _ _⟩
      · exact .inr h
    exact zero_ aP aQ cP cQ w va vb vc e0 _ _ rfl rfl (htr (by omega)) _ _ _ 0 0 0 rfl hx0 xb.1 xb.2 _ _ f1 c1 fb.2.2.1 fb.2.2.2 cb.2.2.1 cb.2.2.2 _ _ rfl rfl f3 c3 c4 hce
  · have hne : ¬ (aP = bP ∧ aQ = bQ) := fun h => e0 (o1.2 h)
    by_cases e1 : cmpT aP aQ bP bQ = 1
    · rw [e1] at hxy
      by_cases hp : aP = bP
      · subst hp
        exact pos_b aP aQ bQ cP cQ w va vb vc e1 (by simpa using hne) _ _ _ _ _ _ rfl rfl hxy xb.1 xb.2 yb.1 yb.2 _ _ f1 c1 fb.2.2.1 fb.2.2.2 cb.2.2.1 cb.2.2.2 _ _ rfl rfl f3 c3 c4 hce
      · exact pos_a aP aQ bP bQ cP cQ w va vb vc e1 (by simpa using hp) _ _ _ _ _ _ rfl rfl hxy xb.1 xb.2 yb.1 yb.2 _ _ f1 c1 fb.2.2.1 fb.2.2.2 cb.2.2.1 cb.2.2.2 _ _ rfl rfl f3 c3 c4 hce
    · have e2 : cmpT aP aQ bP bQ = -1 := by omega
      have htr' := htr (by omega)
      rw [e2] at hxy
      by_cases hp : aP = bP
      · subst hp
        exact neg_b aP aQ bQ cP cQ w va vb vc e2 (by simpa using hne) _ _ rfl rfl htr' _ _ _ _ _ _ rfl rfl hxy xb.1 xb.2 yb.1 yb.2 _ _ f1 c1 fb.2.2.1 fb.2.2.2 cb.2.2.1 cb.2.2.2 _ _ rfl rfl f3 c3 c4 hce
      · exact neg_a aP aQ bP bQ cP cQ w va vb vc e2 (by simpa using hp) _ _ rfl rfl htr' _ _ _ _ _ _ rfl rfl hxy xb.1 xb.2 yb.1 yb.2 _ _ f1 c1 fb.2.2.1 fb.2.2.2 cb.2.2.1 cb.2.2.2 _ _ rfl rfl f3 c3 c4 hce

set_option maxHeartbeats 1000000 in
theorem walk (aP aQ : Int) (waP : (Lit.int .i64 aP).wf = true) (waQ : (Lit.int .i64 aQ).wf = true) (bP bQ : Int) (wbP : (Lit.int .i64 bP).wf = true) (wbQ : (Lit.int .i64 bQ).wf = true) (cP cQ : Int) (wcP : (Lit.int .i64 cP).wf = true) (wcQ : (Lit.int .i64 cQ).wf = true) (w : World) :
    Calls Try.prog 12 #[.agg #[.int .i64 aP, .int .i64 aQ], .agg #[.int .i64 bP, .int .i64 bQ], .agg #[.int .i64 cP, .int .i64 cQ]] w fun e w' => e = .returned (.bool true) ∧ Below w.heap.size w w' := by
  obtain ⟨baP1, baP2⟩ := bounds_i64 waP
  obtain ⟨bbP1, bbP2⟩ := bounds_i64 wbP
  obtain ⟨bcP1, bcP2⟩ := bounds_i64 wcP
  cases va : vldB aP aQ
  · go_enter Try.func12, Try.ntmps12
    go_wp2_with (first | (go_at_call 37; refine (rvalid_any _ _ _ (by omega) (by omega)).mono ?_; rintro e w1 ⟨rfl, hb⟩; (refine mem hb ?_; intro N hN hz hc hf; (try simp at hN); subst hN)) | (go_at_call 18; refine (awake_any _).mono ?_; rintro e w1 ⟨rfl, hb⟩; (refine mem hb ?_; intro N hN hz hc hf; (try simp at hN); subst hN)))
    go_returns
    refine ⟨rfl, ?_⟩
    (repeat' (first | (with_reducible exact Below.refl _ _) | (with_reducible assumption) | (with_reducible refine Below.alloc ?_ ?_ _) | (with_reducible refine below_drewN ?_ _) | (with_reducible refine Below.drew ?_) | (with_reducible refine Below.setCell ?_ ?_ _) | (with_reducible refine below_via (by assumption) ?_ ?_) | (with_reducible exact Nat.le_refl _) | omega | (simp; omega) | (simp; done)))
  · cases vb : vldB bP bQ
    · go_enter Try.func12, Try.ntmps12
      go_wp2_with (first | (go_at_call 37; refine (rvalid_any _ _ _ (by omega) (by omega)).mono ?_; rintro e w1 ⟨rfl, hb⟩; (refine mem hb ?_; intro N hN hz hc hf; (try simp at hN); subst hN)) | (go_at_call 18; refine (awake_any _).mono ?_; rintro e w1 ⟨rfl, hb⟩; (refine mem hb ?_; intro N hN hz hc hf; (try simp at hN); subst hN)))
      go_returns
      refine ⟨rfl, ?_⟩
      (repeat' (first | (with_reducible exact Below.refl _ _) | (with_reducible assumption) | (with_reducible refine Below.alloc ?_ ?_ _) | (with_reducible refine below_drewN ?_ _) | (with_reducible refine Below.drew ?_) | (with_reducible refine Below.setCell ?_ ?_ _) | (with_reducible refine below_via (by assumption) ?_ ?_) | (with_reducible exact Nat.le_refl _) | omega | (simp; omega) | (simp; done)))
    · cases vc : vldB cP cQ
      · go_enter Try.func12, Try.ntmps12
        go_wp2_with (first | (go_at_call 37; refine (rvalid_any _ _ _ (by omega) (by omega)).mono ?_; rintro e w1 ⟨rfl, hb⟩; (refine mem hb ?_; intro N hN hz hc hf; (try simp at hN); subst hN)) | (go_at_call 18; refine (awake_any _).mono ?_; rintro e w1 ⟨rfl, hb⟩; (refine mem hb ?_; intro N hN hz hc hf; (try simp at hN); subst hN)))
        go_returns
        refine ⟨rfl, ?_⟩
        (repeat' (first | (with_reducible exact Below.refl _ _) | (with_reducible assumption) | (with_reducible refine Below.alloc ?_ ?_ _) | (with_reducible refine below_drewN ?_ _) | (with_reducible refine Below.drew ?_) | (with_reducible refine Below.setCell ?_ ?_ _) | (with_reducible refine below_via (by assumption) ?_ ?_) | (with_reducible exact Nat.le_refl _) | omega | (simp; omega) | (simp; done)))
      · exact good aP aQ bP bQ cP cQ w va vb vc


set_option maxRecDepth 100000 in
theorem lifted (os : Os) (started : os.Started) (H : Type) (enc : TypeId × Value → H) :
    ReturnsInHanded {} Try.checked os 12 .any (Rows.rationalOrdersSpec.pre6 enc Try.prog Try.f12 Rows.rationalOrdersRow.domain false) (Rows.rationalOrdersSpec.post enc Try.prog Try.f12 false true false false) := by
  refine returnsInHanded_of_change (C := Try.checked) own started (by kernel_rfl) Try.func12
    (ChangeSpec.witness6 (enc := enc) (C := Try.checked) false ⟨#[], #[.agg #[.int .i64 0, .int .i64 0], .agg #[.int .i64 0, .int .i64 0], .agg #[.int .i64 0, .int .i64 0]], []⟩ 8 (by kernel_rfl) (by kernel_rfl) (by kernel_rfl) (by kernel_rfl)) ?_
  intro W base args ds gs before hval0 hW hcnd _
  have hval : ∀ (j : Nat) t v, Try.f12.params[j]? = some t → args[j]? = some v → Value.okWide Try.prog W .any base t v := hval0
  have hW' := hW
  obtain ⟨p, q, hA0, hV, rfl, hfz, hnd⟩ := hW
  have hA : DataW.TrodAll enc Try.prog W 0 (fun _ => true) true Try.f12.params.toList args.toList ds p := hA0
  rw [Try.params12] at hA hval
  obtain ⟨v0, vs0, d0, ds0, p0, q0, hargs, rfl, rfl, h0, r0⟩ := trodAll_cons hA
  obtain ⟨v1, vs1, d1, ds1, p1, q1, rfl, rfl, rfl, h1, r1⟩ := trodAll_cons r0
  obtain ⟨v2, vs2, d2, ds2, p2, q2, rfl, rfl, rfl, h2, r2⟩ := trodAll_cons r1
  obtain ⟨rfl, rfl, rfl⟩ := trodAll_nil r2
  obtain rfl : args = #[v0, v1, v2] := by cases args; simp_all
  obtain ⟨rfl, rfl⟩ := trodVars_none hV
  have k0 := h0
  have lt0 : ∀ x ∈ p0, x.block < W.heap.size := by obtain ⟨m, hm⟩ := k0; exact DataW.trod_lt m _ _ _ hm
  obtain ⟨c0, e0, y0, z0, m0, rfl, -, -, hy0, hz0⟩ := open_agg2 Try.underlying23 (by kernel_rfl) (by kernel_rfl) (hval 0 23 v0 rfl rfl) h0
  obtain ⟨aP, f0, -, waP⟩ := DataW.trod_int Try.underlying3 hy0
  obtain ⟨aQ, g0, -, waQ⟩ := DataW.trod_int Try.underlying3 hz0
  simp only [List.cons.injEq, and_true] at f0 g0
  subst f0 g0
  have k1 := h1
  have lt1 : ∀ x ∈ p1, x.block < W.heap.size := by obtain ⟨m, hm⟩ := k1; exact DataW.trod_lt m _ _ _ hm
  obtain ⟨c1, e1, y1, z1, m1, rfl, -, -, hy1, hz1⟩ := open_agg2 Try.underlying23 (by kernel_rfl) (by kernel_rfl) (hval 1 23 v1 rfl rfl) h1
  obtain ⟨bP, f1, -, wbP⟩ := DataW.trod_int Try.underlying3 hy1
  obtain ⟨bQ, g1, -, wbQ⟩ := DataW.trod_int Try.underlying3 hz1
  simp only [List.cons.injEq, and_true] at f1 g1
  subst f1 g1
  have k2 := h2
  have lt2 : ∀ x ∈ p2, x.block < W.heap.size := by obtain ⟨m, hm⟩ := k2; exact DataW.trod_lt m _ _ _ hm
  obtain ⟨c2, e2, y2, z2, m2, rfl, -, -, hy2, hz2⟩ := open_agg2 Try.underlying23 (by kernel_rfl) (by kernel_rfl) (hval 2 23 v2 rfl rfl) h2
  obtain ⟨cP, f2, -, wcP⟩ := DataW.trod_int Try.underlying3 hy2
  obtain ⟨cQ, g2, -, wcQ⟩ := DataW.trod_int Try.underlying3 hz2
  simp only [List.cons.injEq, and_true] at f2 g2
  subst f2 g2
  clear hA0 hval0
  refine (walk aP aQ waP waQ bP bQ wbP wbQ cP cQ wcP wcQ W).mono fun e W' ⟨he, bel⟩ => ?_
  subst he
  exact ⟨_, rfl, _, _, _, [], _, [], hW', trodAll_mk1 (shut_bool Try.underlying4 _), (trodAll_cons_mk (Below.trod laidOut (by kernel_rfl) (of_decide_eq_true (by kernel_rfl)) k0 bel lt0) (trodAll_cons_mk (Below.trod laidOut (by kernel_rfl) (of_decide_eq_true (by kernel_rfl)) k1 bel lt1) (trodAll_cons_mk (Below.trod laidOut (by kernel_rfl) (of_decide_eq_true (by kernel_rfl)) k2 bel lt2) trodAll_mk0))), rfl, bel.frame _, fun h => by cases h⟩

theorem over : Rows.rationalOrdersRow.holds Try.pinned (OpenSpec.ofChange Rows.rationalOrdersSpec) :=
  OpenClaim.holds_of_wide 12 Try.f12 rfl rfl rfl rfl rfl rfl rfl ⟨rfl, rfl, rfl, rfl, rfl⟩ rfl rfl rfl rfl rfl (by kernel_rfl) Try.func12 (by kernel_rfl)
    (of_decide_eq_true (by kernel_rfl)) (by unfold Func.isWrapper; first | (rw [if_pos (by decide +kernel)]; kernel_rfl) | (rw [if_neg (by decide +kernel)]; exact ⟨rfl, rfl⟩))
    (fun os started H enc _ => lifted os started H enc)

/-- The given statement. -/
theorem proved : Rows.RationalOrdersSaid := over
#print axioms proved
end Go.Proofs.Ytfpocnmlmgmfjaa.rationalOrders
