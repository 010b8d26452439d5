/- The law RationalFields holds: for every input it returns true, and each argument reads as it did. No conditions. -/
import Derived.Test.YtfpocnmlmgmfjaaLFld00
import Derived.Test.YtfpocnmlmgmfjaaLFld06
import Derived.Test.YtfpocnmlmgmfjaaLFld60
import Derived.Test.YtfpocnmlmgmfjaaLFld66
import Derived.ProofKit
import Derived.OpenShut
import Derived.Lib.SmallJoins
namespace Go.Proofs.Ytfpocnmlmgmfjaa.rationalFields
open Go.ChangeShapes Go.WideShapes Go.ChangeAt Go.RowKit Go.Joins
set_option linter.unusedVariables false

theorem own : ownKnob Try.prog.godebug = none := by kernel_rfl
theorem laidOut : laidOutB Try.prog = true := by kernel_rfl

set_option maxRecDepth 100000 in
set_option maxHeartbeats 1000000 in
theorem bad (aP aQ bP bQ cP cQ : Int) (w : World) (ha1 : -9223372036854775808 ≤ aP) (ha2 : aP ≤ 9223372036854775807) (hb1 : -9223372036854775808 ≤ bP) (hb2 : bP ≤ 9223372036854775807) (hc1 : -9223372036854775808 ≤ cP) (hc2 : cP ≤ 9223372036854775807)
    (h : vldB aP aQ = false ∨ (vldB aP aQ = true ∧ vldB bP bQ = false) ∨ (vldB aP aQ = true ∧ vldB bP bQ = true ∧ vldB cP cQ = false)) :
    Calls Try.prog 11 #[.agg #[.int .i64 aP, .int .i64 aQ], .agg #[.int .i64 bP, .int .i64 bQ], .agg #[.int .i64 cP, .int .i64 cQ]] w fun e w' => e = .returned (.bool true) ∧ Below w.heap.size w w' := by
  have h00 : vldB 0 0 = false := by decide +kernel
  rcases h with va | ⟨va, vb⟩ | ⟨va, vb, vc⟩
  all_goals
    go_enter Try.func11, Try.ntmps11
    go_wp2_with (first | (go_at_call 37; refine (rvalid_any _ _ _ (by omega) (by omega)).mono ?_; rintro e w1 ⟨rfl, hb⟩; (refine mem hb ?_; intro N hN hz hc hf; (try simp at hN); subst hN)) | (go_at_call 38; refine (valid_any _ _ _ (by omega) (by omega)).mono ?_; rintro e w1 ⟨rfl, hb⟩; (refine mem hb ?_; intro N hN hz hc hf; (try simp at hN); subst hN)) | (go_at_call 18; refine (awake_any _).mono ?_; rintro e w1 ⟨rfl, hb⟩; (refine mem hb ?_; intro N hN hz hc hf; (try simp at hN); subst hN)))
    go_returns
    refine ⟨rfl, ?_⟩
    (repeat' (first | (with_reducible exact Below.refl _ _) | (with_reducible assumption) | (with_reducible refine Below.alloc ?_ ?_ _) | (with_reducible refine below_drewN ?_ _) | (with_reducible refine Below.drew ?_) | (with_reducible refine Below.setCell ?_ ?_ _) | (with_reducible refine below_via (by assumption) ?_ ?_) | (with_reducible exact Nat.le_refl _) | omega | (simp; omega) | (simp; done)))

theorem good (aP aQ bP bQ cP cQ : Int) (w : World) (va : vldB aP aQ = true) (vb : vldB bP bQ = true) (vc : vldB cP cQ = true) :
    Calls Try.prog 11 #[.agg #[.int .i64 aP, .int .i64 aQ], .agg #[.int .i64 bP, .int .i64 bQ], .agg #[.int .i64 cP, .int .i64 cQ]] w fun e w' => e = .returned (.bool true) ∧ Below w.heap.size w w' := by
  have sb := addT_bd aP aQ bP bQ
  have tb := addT_bd bP bQ cP cQ
  have mb := mulT_bd aP aQ bP bQ
  have nb := mulT_bd aP aQ cP cQ
  have xb := addT_bd (addT aP aQ bP bQ).1 (addT aP aQ bP bQ).2.1 cP cQ
  have ub := mulT_bd aP aQ (addT bP bQ cP cQ).1 (addT bP bQ cP cQ).2.1
  have hba : addT bP bQ aP aQ = addT aP aQ bP bQ := add_comm_T vb va
  have hmba : mulT bP bQ aP aQ = mulT aP aQ bP bQ := mul_comm_T vb va
  have hdiv : (mulT aP aQ bP bQ).2.2 = 0 → (bP = 0 ∨ ((bP != 0) = true ∧ divT (mulT aP aQ bP bQ).1 (mulT aP aQ bP bQ).2.1 bP bQ = (aP, aQ, 0))) := by
    intro h
    by_cases h0 : bP = 0
    · exact .inl h0
    · exact .inr ⟨by simpa using h0, div_back_T va vb h h0⟩
  have hneg := negT_yes vb
  have hsub2 : addT aP aQ (-bP) bQ = subT aP aQ bP bQ := (sub_neg_T va vb).symm
  have hmk := make_back_T va
  have eta : ∀ {t : Int × Int × Int} {z : Int}, t.2.2 = z → t = (t.1, t.2.1, z) := fun h => by rw [← h]
  have zb := zero_bd 6
  rcases addT_E va vb with hs | hs <;> rcases addT_E vb vc with ht | ht
  · have hE : (addT (addT aP aQ bP bQ).1 (addT aP aQ bP bQ).2.1 cP cQ).2.2 = 0 ∨ (addT (addT aP aQ bP bQ).1 (addT aP aQ bP bQ).2.1 cP cQ).2.2 = 6 := addT_E (add_vld va vb hs).1 vc
    refine f00 aP aQ bP bQ cP cQ w va vb vc _ _ _ _ _ _ _ _ _ _ (eta hs) (hba.trans (eta hs)) (eta ht) rfl hmba rfl _ _ _ (mulT aP aQ (addT bP bQ cP cQ).1 (addT bP bQ cP cQ).2.1).1 (mulT aP aQ (addT bP bQ cP cQ).1 (addT bP bQ cP cQ).2.1).2.1 (mulT aP aQ (addT bP bQ cP cQ).1 (addT bP bQ cP cQ).2.1).2.2 hE sb.1 sb.2 tb.1 tb.2 mb.1 mb.2 nb.1 nb.2 xb.1 xb.2 ub.1 ub.2 (add_vld va vb hs).1 rfl (add_assoc_T va vb vc hs ht).symm ?_ _ _ _ hneg rfl hsub2 hmk
    rcases mulT_E va vb with hm | hm
    · refine .inr ⟨hm, (mul_vld va vb hm).1, hdiv hm, ?_⟩
      rcases mulT_E va vc with hn | hn
      · exact .inr ⟨hn, rfl, (distrib_T va vb vc ht hm hn).symm⟩
      · exact .inl hn
    · exact .inl hm
  · refine f06 aP aQ bP bQ cP cQ w va vb vc _ _ _ _ _ _ _ _ _ _ (eta hs) (hba.trans (eta hs)) (eta ht) rfl hmba rfl 0 0 6 0 0 6 (.inr rfl) sb.1 sb.2 tb.1 tb.2 mb.1 mb.2 nb.1 nb.2 (by omega) (by omega) (by omega) (by omega) (add_vld va vb hs).1 ?_ _ _ _ hneg rfl hsub2 hmk
    rcases mulT_E va vb with hm | hm
    · exact .inr ⟨hm, (mul_vld va vb hm).1, hdiv hm⟩
    · exact .inl hm
  · refine f60 aP aQ bP bQ cP cQ w va vb vc _ _ _ _ _ _ _ _ _ _ (eta hs) (hba.trans (eta hs)) (eta ht) rfl hmba rfl 0 0 6 (mulT aP aQ (addT bP bQ cP cQ).1 (addT bP bQ cP cQ).2.1).1 (mulT aP aQ (addT bP bQ cP cQ).1 (addT bP bQ cP cQ).2.1).2.1 (mulT aP aQ (addT bP bQ cP cQ).1 (addT bP bQ cP cQ).2.1).2.2 (.inr rfl) sb.1 sb.2 tb.1 tb.2 mb.1 mb.2 nb.1 nb.2 (by omega) (by omega) ub.1 ub.2 ?_ _ _ _ hneg rfl hsub2 hmk
    rcases mulT_E va vb with hm | hm
    · refine .inr ⟨hm, (mul_vld va vb hm).1, hdiv hm, ?_⟩
      rcases mulT_E va vc with hn | hn
      · exact .inr ⟨hn, rfl, (distrib_T va vb vc ht hm hn).symm⟩
      · exact .inl hn
    · exact .inl hm
  · refine f66 aP aQ bP bQ cP cQ w va vb vc _ _ _ _ _ _ _ _ _ _ (eta hs) (hba.trans (eta hs)) (eta ht) rfl hmba rfl 0 0 6 0 0 6 (.inr rfl) sb.1 sb.2 tb.1 tb.2 mb.1 mb.2 nb.1 nb.2 (by omega) (by omega) (by omega) (by omega) ?_ _ _ _ hneg rfl hsub2 hmk
    rcases mulT_E va vb with hm | hm
    · exact .inr ⟨hm, (mul_vld va vb hm).1, hdiv hm⟩
    · exact .inl hm

set_option maxHeartbeats 1000000 in
theorem walk (aP aQ : Int) (waP : (Lit.int .i64 aP).wf = true) (waQ : (Lit.int .i64 aQ).wf = true) (bP bQ : Int) (wbP : (Lit.int .i64 bP).wf = true) (wbQ : (Lit.int .i64 bQ).wf = true) (cP cQ : Int) (wcP : (Lit.int .i64 cP).wf = true) (wcQ : (Lit.int .i64 cQ).wf = true) (w : World) :
    Calls Try.prog 11 #[.agg #[.int .i64 aP, .int .i64 aQ], .agg #[.int .i64 bP, .int .i64 bQ], .agg #[.int .i64 cP, .int .i64 cQ]] w fun e w' => e = .returned (.bool true) ∧ Below w.heap.size w w' := by
  obtain ⟨baP1, baP2⟩ := bounds_i64 waP
  obtain ⟨bbP1, bbP2⟩ := bounds_i64 wbP
  obtain ⟨bcP1, bcP2⟩ := bounds_i64 wcP
  cases va : vldB aP aQ
  · exact bad aP aQ bP bQ cP cQ w baP1 baP2 bbP1 bbP2 bcP1 bcP2 (.inl va)
  · cases vb : vldB bP bQ
    · exact bad aP aQ bP bQ cP cQ w baP1 baP2 bbP1 bbP2 bcP1 bcP2 (.inr (.inl ⟨va, vb⟩))
    · cases vc : vldB cP cQ
      · exact bad aP aQ bP bQ cP cQ w baP1 baP2 bbP1 bbP2 bcP1 bcP2 (.inr (.inr ⟨va, vb, vc⟩))
      · exact good aP aQ bP bQ cP cQ w va vb vc


set_option maxRecDepth 100000 in
theorem lifted (os : Os) (started : os.Started) (H : Type) (enc : TypeId × Value → H) :
    ReturnsInHanded {} Try.checked os 11 .any (Rows.rationalFieldsSpec.pre6 enc Try.prog Try.f11 Rows.rationalFieldsRow.domain false) (Rows.rationalFieldsSpec.post enc Try.prog Try.f11 false true false false) := by
  refine returnsInHanded_of_change (C := Try.checked) own started (by kernel_rfl) Try.func11
    (ChangeSpec.witness6 (enc := enc) (C := Try.checked) false ⟨#[], #[.agg #[.int .i64 0, .int .i64 0], .agg #[.int .i64 0, .int .i64 0], .agg #[.int .i64 0, .int .i64 0]], []⟩ 8 (by kernel_rfl) (by kernel_rfl) (by kernel_rfl) (by kernel_rfl)) ?_
  intro W base args ds gs before hval0 hW hcnd _
  have hval : ∀ (j : Nat) t v, Try.f11.params[j]? = some t → args[j]? = some v → Value.okWide Try.prog W .any base t v := hval0
  have hW' := hW
  obtain ⟨p, q, hA0, hV, rfl, hfz, hnd⟩ := hW
  have hA : DataW.TrodAll enc Try.prog W 0 (fun _ => true) true Try.f11.params.toList args.toList ds p := hA0
  rw [Try.params11] at hA hval
  obtain ⟨v0, vs0, d0, ds0, p0, q0, hargs, rfl, rfl, h0, r0⟩ := trodAll_cons hA
  obtain ⟨v1, vs1, d1, ds1, p1, q1, rfl, rfl, rfl, h1, r1⟩ := trodAll_cons r0
  obtain ⟨v2, vs2, d2, ds2, p2, q2, rfl, rfl, rfl, h2, r2⟩ := trodAll_cons r1
  obtain ⟨rfl, rfl, rfl⟩ := trodAll_nil r2
  obtain rfl : args = #[v0, v1, v2] := by cases args; simp_all
  obtain ⟨rfl, rfl⟩ := trodVars_none hV
  have k0 := h0
  have lt0 : ∀ x ∈ p0, x.block < W.heap.size := by obtain ⟨m, hm⟩ := k0; exact DataW.trod_lt m _ _ _ hm
  obtain ⟨c0, e0, y0, z0, m0, rfl, -, -, hy0, hz0⟩ := open_agg2 Try.underlying23 (by kernel_rfl) (by kernel_rfl) (hval 0 23 v0 rfl rfl) h0
  obtain ⟨aP, f0, -, waP⟩ := DataW.trod_int Try.underlying3 hy0
  obtain ⟨aQ, g0, -, waQ⟩ := DataW.trod_int Try.underlying3 hz0
  simp only [List.cons.injEq, and_true] at f0 g0
  subst f0 g0
  have k1 := h1
  have lt1 : ∀ x ∈ p1, x.block < W.heap.size := by obtain ⟨m, hm⟩ := k1; exact DataW.trod_lt m _ _ _ hm
  obtain ⟨c1, e1, y1, z1, m1, rfl, -, -, hy1, hz1⟩ := open_agg2 Try.underlying23 (by kernel_rfl) (by kernel_rfl) (hval 1 23 v1 rfl rfl) h1
  obtain ⟨bP, f1, -, wbP⟩ := DataW.trod_int Try.underlying3 hy1
  obtain ⟨bQ, g1, -, wbQ⟩ := DataW.trod_int Try.underlying3 hz1
  simp only [List.cons.injEq, and_true] at f1 g1
  subst f1 g1
  have k2 := h2
  have lt2 : ∀ x ∈ p2, x.block < W.heap.size := by obtain ⟨m, hm⟩ := k2; exact DataW.trod_lt m _ _ _ hm
  obtain ⟨c2, e2, y2, z2, m2, rfl, -, -, hy2, hz2⟩ := open_agg2 Try.underlying23 (by kernel_rfl) (by kernel_rfl) (hval 2 23 v2 rfl rfl) h2
  obtain ⟨cP, f2, -, wcP⟩ := DataW.trod_int Try.underlying3 hy2
  obtain ⟨cQ, g2, -, wcQ⟩ := DataW.trod_int Try.underlying3 hz2
  simp only [List.cons.injEq, and_true] at f2 g2
  subst f2 g2
  clear hA0 hval0
  refine (walk aP aQ waP waQ bP bQ wbP wbQ cP cQ wcP wcQ W).mono fun e W' ⟨he, bel⟩ => ?_
  subst he
  exact ⟨_, rfl, _, _, _, [], _, [], hW', trodAll_mk1 (shut_bool Try.underlying4 _), (trodAll_cons_mk (Below.trod laidOut (by kernel_rfl) (of_decide_eq_true (by kernel_rfl)) k0 bel lt0) (trodAll_cons_mk (Below.trod laidOut (by kernel_rfl) (of_decide_eq_true (by kernel_rfl)) k1 bel lt1) (trodAll_cons_mk (Below.trod laidOut (by kernel_rfl) (of_decide_eq_true (by kernel_rfl)) k2 bel lt2) trodAll_mk0))), rfl, bel.frame _, fun h => by cases h⟩

theorem over : Rows.rationalFieldsRow.holds Try.pinned (OpenSpec.ofChange Rows.rationalFieldsSpec) :=
  OpenClaim.holds_of_wide 11 Try.f11 rfl rfl rfl rfl rfl rfl rfl ⟨rfl, rfl, rfl, rfl, rfl⟩ rfl rfl rfl rfl rfl (by kernel_rfl) Try.func11 (by kernel_rfl)
    (of_decide_eq_true (by kernel_rfl)) (by unfold Func.isWrapper; first | (rw [if_pos (by decide +kernel)]; kernel_rfl) | (rw [if_neg (by decide +kernel)]; exact ⟨rfl, rfl⟩))
    (fun os started H enc _ => lifted os started H enc)

/-- The given statement. -/
theorem proved : Rows.RationalFieldsSaid := over
#print axioms proved
end Go.Proofs.Ytfpocnmlmgmfjaa.rationalFields
