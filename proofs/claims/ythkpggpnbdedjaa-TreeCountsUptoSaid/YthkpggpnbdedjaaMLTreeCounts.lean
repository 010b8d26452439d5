/- The law TreeCounts holds: for every input whose reading is of at most uptoSmall's bulk. -/
import Derived.Test.YthkpggpnbdedjaaMTrOpen
import Derived.Test.YthkpggpnbdedjaaMTrLv
import Derived.Test.YthkpggpnbdedjaaMTrFn
import Derived.ProofKit
import Derived.OpenShut
import Derived.Lib.SmallJoins
import Derived.JoinedCond
import Derived.Deep.RegionHeld3
namespace Go.Proofs.Ythkpggpnbdedjaa.treeCounts
open Go.ChangeShapes Go.WideShapes Go.ChangeAt Go.RowKit Go.Joins Go.Instr Go.Shelf
attribute [local go_sem] Oper.semAt_some
set_option linter.unusedVariables false

theorem own : ownKnob Try.prog.godebug = none := by kernel_rfl
theorem laidOut : laidOutB Try.prog = true := by kernel_rfl

set_option maxHeartbeats 8000000 in
set_option maxRecDepth 100000 in
theorem walk (b : TB) (w : World) (ib : InB w w.heap.size b) (hrk : rkB b ≤ 1048576) :
    Calls Try.prog 5 #[b.v] w fun e w' => e = .returned (.bool true) ∧ Below w.heap.size w w' := by
  have HL : Hid (∀ W, Below w.heap.size w W → Calls Try.prog 8 #[b.v] W fun e w' => e = .returned (.bool (lgB b)) ∧ Below W.heap.size W w') := fun W hW => large_any b W (ib.still (still_of hW (Nat.le_refl _)) hW.size)
  have HE : Hid (∀ W, Calls Try.prog 14 #[b.v] W fun e w' => e = .returned (.func (.func 37) #[] #[.pointer (some ⟨W.heap.size, 0, none⟩)]) ∧ w' = W.alloc (.cells #[b.v] 22)) := fun W => each_any b W
  have heq := eql_fn Try.underlying27
  obtain ⟨L, hL⟩ : ∃ L, lgB b = L := ⟨_, rfl⟩
  rw [hL] at HL
  clear hL
  refine (callsIn_wide (n := 6)).1 ?_
  refine callsIn_of_wp_marks Try.func5 rfl trivial ?_ rfl
  simp only [Try.ntmps5, List.size_toArray, List.length_cons, List.length_nil, Nat.reduceAdd, Nat.reduceSub, Array.replicate_succ, Array.replicate_zero, List.push_toArray, List.append_toArray, List.nil_append, List.cons_append]
  cases L with
  | true =>
    gi_wp2_with (first | (refine ⟨trivial, ?_⟩; gi_at_call 8; (with_reducible refine (callsIn_wide.2 (HL.out _ ?_)).mono ?_); (focus ((repeat' (first | (with_reducible exact Below.refl _ _) | (with_reducible assumption) | (with_reducible refine Below.alloc ?_ ?_ _) | (with_reducible refine below_drewN ?_ _) | (with_reducible refine Below.drew ?_) | (with_reducible refine Below.setCell ?_ ?_ _) | (with_reducible refine below_via (by assumption) ?_ ?_) | (with_reducible refine below_via (later_below _) ?_ ?_) | (with_reducible exact Nat.le_refl _) | omega | (simp; omega) | (simp; done))))); rintro e w1 ⟨rfl, hb⟩) | (refine ⟨trivial, ?_⟩; gi_at_call 9; (with_reducible refine (callsIn_wide.2 (awake_any _)).mono ?_); rintro e w2 ⟨rfl, hb2⟩))
    refine ⟨_, results_tmp rfl _ _ _, rfl, ?_⟩
    exact hb.trans (hb2.mono hb.size)
  | false =>
    gi_wp2_with (first | (refine ⟨trivial, ?_⟩; gi_at_call 8; (with_reducible refine (callsIn_wide.2 (HL.out _ ?_)).mono ?_); (focus ((repeat' (first | (with_reducible exact Below.refl _ _) | (with_reducible assumption) | (with_reducible refine Below.alloc ?_ ?_ _) | (with_reducible refine below_drewN ?_ _) | (with_reducible refine Below.drew ?_) | (with_reducible refine Below.setCell ?_ ?_ _) | (with_reducible refine below_via (by assumption) ?_ ?_) | (with_reducible refine below_via (later_below _) ?_ ?_) | (with_reducible exact Nat.le_refl _) | omega | (simp; omega) | (simp; done))))); rintro e w1 ⟨rfl, hb1⟩; have hz1 : w.heap.size ≤ w1.heap.size := hb1.size; have fr0 := fun i => frozen_out w1 (w1.heap.size + 1) i (by omega); have fr1 := fun i => frozen_out w1 (w1.heap.size + 1 + 1) i (by omega)) | (refine ⟨trivial, ?_⟩; gi_at_call 14; (with_reducible refine (callsIn_wide.2 (HE.out _)).mono ?_); rintro e w2 ⟨rfl, rfl⟩))
    have hW : ∃ W0, (((w1.alloc (.cells #[b.v] 22)).alloc (.cells #[.int .i64 0] 3)).alloc (.cells #[.int .i64 1] 3)) = W0 := ⟨_, rfl⟩
    obtain ⟨W0, hW0⟩ := hW
    obtain ⟨zb, hzb⟩ : ∃ z, w1.heap.size = z := ⟨_, rfl⟩
    obtain ⟨zn, hzn⟩ : ∃ z, zb + 1 = z := ⟨_, rfl⟩
    have hs0 : W0.heap.size = zn + 2 := by rw [← hW0, ← hzn, ← hzb]; simp
    have hB10 : Below w1.heap.size w1 W0 := by rw [← hW0]; (repeat' (first | (with_reducible exact Below.refl _ _) | (with_reducible assumption) | (with_reducible refine Below.alloc ?_ ?_ _) | (with_reducible refine below_drewN ?_ _) | (with_reducible refine Below.drew ?_) | (with_reducible refine Below.setCell ?_ ?_ _) | (with_reducible refine below_via (by assumption) ?_ ?_) | (with_reducible refine below_via (later_below _) ?_ ?_) | (with_reducible exact Nat.le_refl _) | omega | (simp; omega) | (simp; done)))
    have hB0 : Below w.heap.size w W0 := hb1.trans (hB10.mono hz1)
    have ib0 : InB W0 zb b := (ib.still (still_of hB0 (Nat.le_refl _)) (Nat.le_refl _)).still (Still.refl _ _) (by omega)
    have ny : W0.cell? ⟨zb, 0, none⟩ = some b.v := by rw [← hW0, ← hzb]; simp [cell_alloc_if]; omega
    have n0 : W0.cell? ⟨zn, 0, none⟩ = some (.int .i64 0) := by rw [← hW0, ← hzn, ← hzb]; simp [cell_alloc_if]
    have n1 : W0.frozen? ⟨zn, 0, none⟩ = false := by rw [← hW0, ← hzn, ← hzb]; simp [frozen_alloc, fr0]
    have f0 : W0.cell? ⟨zn + 1, 0, none⟩ = some (.int .i64 1) := by rw [← hW0, ← hzn, ← hzb]; simp [cell_alloc_if]
    have f1 : W0.frozen? ⟨zn + 1, 0, none⟩ = false := by rw [← hW0, ← hzn, ← hzb]; simp [frozen_alloc, fr1]
    obtain ⟨ys, hys⟩ : ∃ ys : List {x : TX // x.funcs.length ≤ 1048576}, ys.map (fun x => x.1) = exsB b := ⟨(exsB b).attachWith _ (fun x hx => Nat.le_trans (fns_small b x hx) hrk), by simp⟩
    have hyl : ys.length = (exsB b).length := by rw [← hys, List.length_map]
    have hlen : (exsB b).length ≤ 1048576 := Nat.le_trans (exsB_len b) hrk
    have hfin : fnsP b ys = fnsB b := by unfold fnsP fnsB; rw [hys]
    have HFL : Hid ((fnsB b).length ≤ 1099511627777) := by
      have h := fnsP_len (fun x h => h) b ys
      have h2 : ys.length * 1048576 ≤ 1048576 * 1048576 := Nat.mul_le_mul_right _ (by omega)
      rw [hfin] at h
      show _ ≤ _
      omega
    have EXACT := Lib.hid (each_stops 5 zn W0.heap.size zb b ys hys (by omega) W0 (ib0.still (Still.refl _ _) (by omega)) (Nat.le_refl _) ny)
    rw [hW0, hzb, hzn]
    have HB0 := Lib.hid hB0
    have HIB := Lib.hid ib0
    have hzw : w.heap.size ≤ zb := by omega
    clear hW0 hB10 hb1 hB0 ny ib0 fr0 fr1 hys HE HL heq
    refine wpIn_rangeFunc_ownH rfl (by decide) (gf := 37) (lb := #[.pointer (some ⟨zb, 0, none⟩)]) rfl trivial (enters_of Try.func37 (by kernel_rfl) rfl)
      EXACT.out keptK_t (keptK_b (by omega)) (Below.refl _ _) (fun _ => rfl)
      (fun pre W => ((W.cell? ⟨zn, 0, none⟩ = some (.int .i64 pre.length) ∧ W.frozen? ⟨zn, 0, none⟩ = false) ∧ (W.cell? ⟨zn + 1, 0, none⟩ = some (.int .i64 (fnsP b pre).length) ∧ W.frozen? ⟨zn + 1, 0, none⟩ = false)) ∧ Below zn W0 W)
      (fun _ _ _ => False)
      (OwnFrom.and (Own.from (fun s A B row hs hg hr => ⟨⟨cell_kept hs.1.1 hg hr, (frozen_kept hs.1.1 hg hr).trans hs.1.2⟩, cell_kept hs.2.1 hg hr, (frozen_kept hs.2.1 hg hr).trans hs.2.2⟩) _) (ownFrom_below (by omega) (by omega)))
      (fun _ _ _ _ _ hs _ _ => hs)
      ⟨⟨⟨n0, n1⟩, f0, f1⟩, Below.refl _ _⟩
      (fun x a' W => ∃ Bx, zn + 1 < Bx ∧ XBox W Bx x.1 ∧ a' = { tmps := #[b.v, undef, .bool false, .func (.func 37) #[] #[.pointer (some ⟨zb, 0, none⟩)], .pointer (some ⟨zn, 0, none⟩), .pointer (some ⟨zn + 1, 0, none⟩), .pointer (some ⟨Bx, 0, none⟩), undef, undef, b.v, .bool false, undef, b.v, .func (.func 37) #[] #[.pointer (some ⟨zb, 0, none⟩)], .func (.func 37) #[] #[.pointer (some ⟨zb, 0, none⟩)], .bool false, .func (.func 37) #[] #[.pointer (some ⟨zb, 0, none⟩)], x.1.v, undef, undef, undef, undef, undef, undef, undef, undef, undef, undef, undef, undef, undef, undef, undef, undef, undef, undef, undef, undef, undef, undef, undef, undef, undef, undef, undef, undef, undef, undef, undef, undef, undef, undef, undef, undef], defers := [] })
      (fun x a' _ X Y row hs hg hr => by
        obtain ⟨Bx, h1, h2, h3⟩ := hs
        exact ⟨Bx, h1, h2.kept hg (fun e => by obtain ⟨-, o, ho, hc⟩ := hr Bx e.symm; rw [show X.heap[Bx]? = _ from h2] at ho; cases ho; cases hc), h3⟩) ?assign ?body ?done ?stop
    case assign =>
      rintro l pre x W K ⟨⟨⟨hcn, hfn⟩, hcf, hff⟩, hB⟩ hK
      have hz := hB.size
      gi_wp2
      have hg : ∀ o, W.grownBy (W.alloc o) none := fun o => World.grownBy_alloc W o none
      exact hK _ _ ((KeepsOthers.alloc _ _).from _) (kept_of ((Below.refl _ W).alloc (Nat.le_refl _) _) (by omega))
        ⟨⟨⟨cell_kept hcn (hg _) (fun r e => by cases e), (frozen_kept hcn (hg _) (fun r e => by cases e)).trans hfn⟩, cell_kept hcf (hg _) (fun r e => by cases e), (frozen_kept hcf (hg _) (fun r e => by cases e)).trans hff⟩, hB.alloc (by omega) _⟩
        ⟨W.heap.size, by omega, XBox.new W x.1, rfl⟩
    case body =>
      rintro l pre x a' W hl ⟨r, hr⟩ ⟨⟨⟨hcn, hfn⟩, hcf, hff⟩, hB⟩ ⟨Bx, hBx, bX, rfl⟩ hlt
      have hz := hB.size
      have hBl := cell_lt bX.cells.1
      obtain ⟨x0, x1, x2, x3, x4, x5, x6, x7⟩ := bX.cells
      have hpl : (pre.length : Int) < 1048576 := by omega
      have hfl := fnsP_len (fun x h => h) b pre
      have hxl := x.2
      have hsn : ((fnsP b (pre ++ [x])).length : Int) = (fnsP b pre).length + x.1.funcs.length := by rw [fnsP_snoc, List.length_append]; omega
      have hpn : ((pre ++ [x]).length : Int) = (pre.length : Int) + 1 := by simp
      obtain ⟨F, hF⟩ : ∃ F, (fnsP b pre).length = F := ⟨_, rfl⟩
      rw [hF] at hcf hsn hfl
      have hfb : (F : Int) + x.1.funcs.length < 1099512676352 := by
        have : pre.length * 1048576 ≤ 1048576 * 1048576 := by omega
        omega
      have hne : zn ≠ zn + 1 := by omega
      have HSN := Lib.hid hsn
      have HPN := Lib.hid hpn
      have HBW := Lib.hid hB
      clear hsn hpn hfl hF hB bX
      gi_wp2
      refine ⟨((KeepsOthers.setCell _ _ _).trans (KeepsOthers.setCell _ _ _)).from _, (kept_set _ _ (by omega) (by omega)).trans (kept_set _ _ (by omega) (by omega)), ⟨⟨?_, ?_⟩, ?_, ?_⟩, (HBW.out.setCell (p := ⟨zn, 0, none⟩) (Nat.le_refl _) _).setCell (p := ⟨zn + 1, 0, none⟩) (by show zn ≤ zn + 1; omega) _⟩
      · rw [HPN.out]
        exact (World.cell?_setCell_other _ _ _ _ (fun e => by injection e with e; omega)).trans (World.cell?_setCell_same _ _ _ hcn)
      · rw [World.frozen?_setCell, World.frozen?_setCell]; exact hfn
      · rw [HSN.out]
        exact World.cell?_setCell_same _ _ _ ((World.cell?_setCell_other _ _ _ _ (fun e => by injection e with e; omega)).trans hcf)
      · rw [World.frozen?_setCell, World.frozen?_setCell]; exact hff
    case done =>
      rintro D xs W hD rfl ⟨⟨⟨hcn, hfn⟩, hcf, hff⟩, hB⟩ hK
      have hz := hB.size
      rw [hyl] at hcn
      rw [hfin] at hcf
      have hBw : Below w.heap.size w W := HB0.out.trans (hB.mono (by omega))
      have ibW : InB W W.heap.size b := (HIB.out.still (still_of hB (by omega)) (Nat.le_refl _)).still (Still.refl _ _) (by omega)
      have HFn : Hid (∀ W', Below W.heap.size W W' → Calls Try.prog 19 #[b.v] W' fun e w' => ∃ B cap, e = .returned (.slice (some ⟨B, 0, none⟩) (fnsB b).length cap) ∧ (fnsB b).length ≤ cap ∧ W'.heap.size ≤ B ∧ (∀ i, (hi : i < (fnsB b).length) → F5 w' B (i * 5) (fnsB b)[i]) ∧ Below W'.heap.size W' w') := fun W' h => funcs_any b W' (ibW.still (still_of h (Nat.le_refl _)) h.size) hrk (fun x hx => Nat.le_trans (fns_small b x hx) hrk)
      clear hyl hfin EXACT
      gi_wp2_with (refine ⟨trivial, ?_⟩; gi_at_call 19; (with_reducible refine (callsIn_wide.2 (HFn.out _ ?_)).mono ?_); (focus (exact Below.refl _ _)); rintro e w4 ⟨B, cap, rfl, hcap, hBz, hF5, hb4⟩; have HF5 := Lib.hid hF5; clear hF5)
      obtain ⟨nF, hnF⟩ : ∃ n, (fnsB b).length = n := ⟨_, rfl⟩
      have hznW : zn + 1 < W.heap.size := by omega
      have hz4 := hb4.size
      have e0 : w4.cell? ⟨zn, 0, none⟩ = some (.int .i64 (exsB b).length) := (hb4.cell (p := ⟨zn, 0, none⟩) (by show zn < _; omega)).trans hcn
      have e1 : w4.frozen? ⟨zn, 0, none⟩ = false := (hb4.frozen (p := ⟨zn, 0, none⟩) (by show zn < _; omega)).trans hfn
      have e2 : w4.cell? ⟨zn + 1, 0, none⟩ = some (.int .i64 nF) := by rw [← hnF]; exact (hb4.cell (p := ⟨zn + 1, 0, none⟩) (by show zn + 1 < _; omega)).trans hcf
      have hK4 : w4.heap[D]? = some (.deferred (some [])) := (hb4.block D (Array.getElem?_eq_some_iff.1 hK).1).trans hK
      have hS0 : ∀ wr, w4.grownBy wr (some zn) → Still zb W0 wr := fun wr hg g hgz => (hg.block g (by omega) (fun e => by cases e; omega)).trans ((hb4.block g (by omega)).trans (hB.block g (by omega)))
      have HSt : Hid (∀ k (hk : k < (fnsB b).length) wr, w4.grownBy wr (some zn) → Calls Try.prog 20 #[.slice ((fnsB b)[k]).bA ((fnsB b)[k]).body.length ((fnsB b)[k]).bC] wr fun e w' => e = .returned (.int .i64 (wrap64 (stSs ((fnsB b)[k]).body))) ∧ Below wr.heap.size wr w') := fun k hk wr hg =>
        (stm_any _ _ (Nat.lt_succ_self _) _ _ wr zb ((fns_ok HIB.out _ (List.getElem_mem hk)).still (hS0 wr hg) (Nat.le_refl _))).mono fun e w' h => ⟨h.1, below_drewn h.2⟩
      have HSz : Hid (∀ wr, w4.grownBy wr (some zn) → Calls Try.prog 10 #[b.v] wr fun e w' => e = .returned (.int .i64 (wrap64 (szSs b.l))) ∧ Below wr.heap.size wr w') := fun wr hg => size_any b wr (HIB.out.still (hS0 wr hg) (by have := hg.size; omega))
      have hB4 : Below w.heap.size w w4 := hBw.trans (hb4.mono hBw.size)
      have HB4 := Lib.hid hB4
      have HLAW := Lib.hid (counts_law b)
      have HNF := Lib.hid hnF
      have hncap : nF ≤ cap := by omega
      have hn63 : (nF : Int) ≤ 1099512676352 := by have := HFL.out; omega
      have HK4 := Lib.hid hK4
      rw [hnF]
      clear hS0 hB4 hBw hb4 ibW hB HFn hcn hfn hcf hff hK hcap hnF hK4
      gi_loopw [29] (fun i wr => ∃ k : Nat, k ≤ nF ∧ i = .int .i64 k ∧ Hid (wr.cell? ⟨zn, 0, none⟩ = some (.int .i64 (wrap64 ((exsB b).length + (((fnsB b).take k).map fun f => stSs f.body).sum)))) ∧ wr.frozen? ⟨zn, 0, none⟩ = false ∧ Hid (w4.grownBy wr (some zn))) (fun i _ => nF - (intOf i).toNat)
      case atStart => exact ⟨0, Nat.zero_le _, rfl, (show w4.cell? _ = _ by rw [e0]; simp; unfold wrap64; omega), e1, ⟨rfl, rfl, rfl, Nat.le_refl _, fun _ _ _ => rfl⟩⟩
      case round =>
        obtain ⟨k, hk, rfl, HC, hfr, HG⟩ := hrel
        have hg := HG.out
        have hgz := hg.size
        by_cases hlt : k < nF
        · have hkF : k < (fnsB b).length := by rw [HNF.out]; exact hlt
          have HS1 := Lib.hid (HSt.out k hkF)
          have hf5 := HF5.out k hkF
          have hsum := sum_succ (f := fun f : TF => stSs f.body) hkF
          obtain ⟨f, hf⟩ : ∃ f, (fnsB b)[k] = f := ⟨_, rfl⟩
          rw [hf] at HS1 hf5 hsum
          have hBl := cell_lt hf5.1
          have f3 : wr.cell? ⟨B, k * 5 + 3, none⟩ = some (.slice f.bA f.body.length f.bC) := (World.cell?_of_block (a := ⟨B, k * 5 + 3, none⟩) (hg.block B hBl (fun e => by cases e; omega))).trans hf5.2.2.2.1
          obtain ⟨P, hP⟩ : ∃ P, wrap64 ((exsB b).length + (((fnsB b).take k).map fun f => stSs f.body).sum) = P := ⟨_, rfl⟩
          have hcell := HC.out
          rw [hP] at hcell
          have HP := Lib.hid hP
          have HSUM := Lib.hid hsum
          clear hf5 hsum hP hf HC
          gi_wp2
          refine wpIn_wide.2 (wp_region_noPanic ?_)
          go_region_with (first | (go_at_call 20; (with_reducible refine (HS1.out _ ?_).mono ?_); (focus (exact gb_trans HG.out (gb_below _ (by (repeat' (first | (with_reducible exact Below.refl _ _) | (with_reducible assumption) | (with_reducible refine Below.alloc ?_ ?_ _) | (with_reducible refine below_drewN ?_ _) | (with_reducible refine Below.drew ?_) | (with_reducible refine Below.setCell ?_ ?_ _) | (with_reducible refine below_via (by assumption) ?_ ?_) | (with_reducible refine below_via (later_below _) ?_ ?_) | (with_reducible exact Nat.le_refl _) | omega | (simp; omega) | (simp; done))))))); rintro e w5 ⟨rfl, hb⟩; (refine mem hb ?_; intro N hN hz hc hf; (try simp at hN); subst hN)))
          all_goals (try simp only [NoPanic])
          all_goals gi_wp2
          all_goals
            have h5 : w5.cell? ⟨zn, 0, none⟩ = some (.int .i64 P) := (hb.cell (p := ⟨zn, 0, none⟩) (by have := cell_lt hcell; simpa using this)).trans hcell
            have f5 : w5.frozen? ⟨zn, 0, none⟩ = false := (hb.frozen (p := ⟨zn, 0, none⟩) (by have := cell_lt hcell; simpa using this)).trans hfr
            refine ⟨⟨k + 1, by omega, by go_num, ?_, by rw [World.frozen?_setCell]; exact f5, gb_trans HG.out (gb_trans (gb_below _ (by (repeat' (first | (with_reducible exact Below.refl _ _) | (with_reducible assumption) | (with_reducible refine Below.alloc ?_ ?_ _) | (with_reducible refine below_drewN ?_ _) | (with_reducible refine Below.drew ?_) | (with_reducible refine Below.setCell ?_ ?_ _) | (with_reducible refine below_via (by assumption) ?_ ?_) | (with_reducible refine below_via (later_below _) ?_ ?_) | (with_reducible exact Nat.le_refl _) | omega | (simp; omega) | (simp; done))))) (grownBy_setCell' _ _ _))⟩, by simp [intOf]; omega⟩
            refine (World.cell?_setCell_same _ _ _ h5).trans ?_
            rw [← HP.out, wrap_add2, HSUM.out, Int.natCast_add, Int.add_assoc]
        · obtain rfl : k = nF := by omega
          have hc9 := HC.out
          rw [← HNF.out, List.take_length, ← Int.natCast_add, HLAW.out] at hc9
          have hz2 : wr.cell? ⟨zn + 1, 0, none⟩ = some (.int .i64 k) := (World.cell?_of_block (a := ⟨zn + 1, 0, none⟩) (hg.block (zn + 1) (cell_lt e2) (fun e => by injection e with e; omega))).trans e2
          have hKr : wr.heap[D]? = some (.deferred (some [])) := (hg.block D (Array.getElem?_eq_some_iff.1 HK4.out).1 (fun e => by cases e; omega)).trans HK4.out
          have hznr := cell_lt hc9
          have hzfr := cell_lt hz2
          have HSW : Hid (∀ W', Below wr.heap.size wr W' → Calls Try.prog 10 #[b.v] W' fun e w' => e = .returned (.int .i64 (wrap64 (szSs b.l))) ∧ Below W'.heap.size W' w') := fun W' h => HSz.out W' (gb_trans HG.out (gb_below _ h))
          obtain ⟨S, hS⟩ : ∃ S, wrap64 (szSs b.l) = S := ⟨_, rfl⟩
          rw [hS] at HSW hc9
          clear HC hS
          gi_wp2
          refine wpIn_wide.2 ?_
          (refine wp_region_calm (by kernel_rfl) (by kernel_rfl) ?_; refine calm_mem ?_; intro N hN hne hcu; (try simp at hN); subst hN; (repeat ((refine wpQuiet_step (fun K hK => ?_)); go_simp; (repeat (simp only [↓IntWalk.iteOmega]; go_simp)); (first | (refine hK _ ?_; clear hK K) | (apply Exists.intro; refine ⟨fun _ => ?_, hK _ ?_⟩; (first | (go_at_call 10; refine calm_of (HSW.out _ ?_); (repeat' (first | (with_reducible exact Below.refl _ _) | (with_reducible assumption) | (with_reducible refine Below.alloc ?_ ?_ _) | (with_reducible refine below_drewN ?_ _) | (with_reducible refine Below.drew ?_) | (with_reducible refine Below.setCell ?_ ?_ _) | (with_reducible refine below_via (by assumption) ?_ ?_) | (with_reducible refine below_via (later_below _) ?_ ?_) | (with_reducible exact Nat.le_refl _) | omega | (simp; omega) | (simp; done)))) | (go_at_call 9; exact calm_of (awake_any _))); clear hK K)))); refine wpQuiet_nil ?_; intro _ hw'; obtain ⟨⟨w1, hb⟩, hw''⟩ := hw'; subst hw''; clear hcu hne; (try dsimp only); (refine mem hb ?_; intro N hN hz hc hf; (try simp at hN); subst hN))
          gi_wp2
          rename_i w9
          have hb9 : Below wr.heap.size wr w9 := hb
          have hK9 := (hb9.block D (Array.getElem?_eq_some_iff.1 hKr).1).trans hKr
          refine ⟨by simp, .inl ⟨_, _, rfl, run_takeDeferred hK9, ?_⟩⟩
          refine ⟨_, results_tmp rfl _ _ _, by simp, ?_⟩
          exact (((HB4.out.grown hg HB4.out.size (fun j e => by cases e; omega)).trans (hb9.mono (by omega))).trans (belowK_b (w := w) (Nat.le_refl _) w9 D _ _ (by omega) hK9 rfl rfl))
    case stop =>
      rintro D c pre W hD _ h _
      exact h.elim

set_option maxRecDepth 100000 in
theorem contract (H : Type) (enc : TypeId × Value → H) (W : World) (base : Nat) (args : Array Value) (ds gs : List (DataW H)) (before : List MemPlace)
    (hval : ∀ (j : Nat) t v, Try.f5.params[j]? = some t → args[j]? = some v → Value.okWide Try.prog W .any base t v)
    (hW : DataW.Whole enc Try.prog Try.f5.params.toList Rows.treeCountsSpec.vars false W args.toList ds gs before) (hk : Rows.uptoSmall H (ds ++ gs) = true) :
    Calls Try.prog 5 args W fun e W' => ∃ v, e = .returned v ∧ Rows.treeCountsSpec.post enc Try.prog Try.f5 false true false false W args v W' := by
  have hW' := hW
  obtain ⟨p, q, hA0, hV, rfl, hfz, hnd⟩ := hW
  have hA : DataW.TrodAll enc Try.prog W 0 (fun _ => true) true Try.f5.params.toList args.toList ds p := hA0
  rw [Try.params5] at hA hval
  obtain ⟨v0, vs0, d0, ds0, p0, q0, hargs, rfl, rfl, h0, r0⟩ := trodAll_cons hA
  obtain ⟨rfl, rfl, rfl⟩ := trodAll_nil r0
  obtain rfl : args = #[v0] := by cases args; simp_all
  obtain ⟨rfl, rfl⟩ := trodVars_none hV
  have k0 := h0
  have lt0 : ∀ x ∈ p0, x.block < W.heap.size := by obtain ⟨m, hm⟩ := k0; exact DataW.trod_lt m _ _ _ hm
  obtain ⟨a0, n0, c0, e0⟩ := okWide_slice Try.underlying22 (hval 0 22 v0 rfl rfl)
  obtain ⟨b, g0, ib, rb⟩ := open_blk h0 (by rw [e0]; rfl)
  subst g0
  have hsm := of_decide_eq_true hk
  simp only [List.append_nil, Rows.uptoBulkAll] at hsm
  clear hA0
  refine (walk b W ib (by omega)).mono fun e W' ⟨he, bel⟩ => ?_
  subst he
  exact ⟨_, rfl, _, _, _, [], _, [], hW', trodAll_mk1 (shut_bool Try.underlying4 _), (trodAll_cons_mk (Below.trod laidOut (by kernel_rfl) (of_decide_eq_true (by kernel_rfl)) k0 bel lt0) trodAll_mk0), rfl, bel.frame _, fun h => by cases h⟩

set_option maxRecDepth 100000 in
theorem lifted (os : Os) (started : os.Started) (H : Type) (enc : TypeId × Value → H) (F : Stop.Interp) :
    ReturnsInHanded {} Try.checked os 5 .any ((Rows.OpenSpec.upto Rows.treeCountsSpec).pre6 enc Try.prog Try.f5 Rows.treeCountsUptoRow.domain false) (((Rows.OpenSpec.upto Rows.treeCountsSpec).at F).post enc Try.prog Try.f5 false true false false) := by
  refine returnsInHanded_of_cond (C := Try.checked) (s := Rows.OpenSpec.upto Rows.treeCountsSpec) (k := Rows.uptoSmall) rfl own started (by kernel_rfl) Try.func5
    (OpenSpec.witness (enc := enc) (C := Try.checked) (s := Rows.OpenSpec.upto Rows.treeCountsSpec) (k := Rows.uptoSmall) rfl false ⟨#[], #[.slice none 0 0], []⟩ 8 (by kernel_rfl) (by kernel_rfl) (by kernel_rfl)
      (x := ([.nil], [], [])) (by kernel_rfl) rfl (by kernel_rfl)) ?_
  intro W base args ds gs before hval hW _ hk _
  exact contract H enc W base args ds gs before hval hW hk

theorem over : Rows.treeCountsUptoRow.holds Try.pinned (Rows.OpenSpec.upto Rows.treeCountsSpec) :=
  OpenClaim.holds_of_cond 5 Try.f5 rfl rfl rfl rfl rfl rfl rfl ⟨rfl, rfl, rfl, rfl, rfl⟩ rfl rfl rfl rfl rfl (by kernel_rfl) Try.func5 (by kernel_rfl)
    (of_decide_eq_true (by kernel_rfl)) (by unfold Func.isWrapper; first | (rw [if_pos (by decide +kernel)]; kernel_rfl) | (rw [if_neg (by decide +kernel)]; exact ⟨rfl, rfl⟩))
    (fun os started H enc _ F => lifted os started H enc F)

/-- The given statement. -/
theorem proved : Rows.TreeCountsUptoSaid := over
#print axioms proved
end Go.Proofs.Ythkpggpnbdedjaa.treeCounts
