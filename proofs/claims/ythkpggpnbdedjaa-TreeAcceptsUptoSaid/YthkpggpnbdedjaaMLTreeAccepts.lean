/- The law TreeAccepts holds: for every input whose reading is of at most uptoSmall's bulk. -/
import Derived.Test.YthkpggpnbdedjaaMTrOpen
import Derived.Test.YthkpggpnbdedjaaMTrLv
import Derived.Test.YthkpggpnbdedjaaMTrOk
import Derived.ProofKit
import Derived.OpenShut
import Derived.Lib.SmallJoins
import Derived.JoinedCond
namespace Go.Proofs.Ythkpggpnbdedjaa.treeAccepts
open Go.ChangeShapes Go.WideShapes Go.ChangeAt Go.RowKit Go.Joins Go.Instr Go.Shelf
attribute [local go_sem] Oper.semAt_some
set_option linter.unusedVariables false

theorem own : ownKnob Try.prog.godebug = none := by kernel_rfl
theorem laidOut : laidOutB Try.prog = true := by kernel_rfl
theorem keeps_of {W W' : World} (hb : Below W.heap.size W W') : KeepsOthers W W' := ⟨hb.size, fun k o h _ => (hb.block k (Array.getElem?_eq_some_iff.1 h).1).trans h⟩

theorem body_ok (b : TB) (w : World) (ib : InB w w.heap.size b) (hrk : rkB b ≤ 1048576) (hA : chE b (cbE b) = 0) (f : TF) (hm : f ∈ fnsB b) (W' : World) (hW : Below w.heap.size w W') : Calls Try.prog 21 #[.slice f.bA f.body.length f.bC] W' fun e w' => e = .returned (.int .i64 0) ∧ Below W'.heap.size W' w' := by
  have ho := (fns_ok ib _ hm).still (still_of hW (Nat.le_refl _)) hW.size
  have hrf : rkPt (.inr (bodyB f)) ≤ 1048576 := by
    rcases List.mem_cons.1 hm with h | h
    · have e : bodyB (mainF b) = b := by cases b; rfl
      rw [h, e]; exact hrk
    · obtain ⟨x, hx, h⟩ := List.mem_flatMap.1 h
      have h1 := rk_exs x hx
      have h2 : rkPt (.inr (bodyB f)) < rkX x := fun_rk h
      omega
  have h := check_ok (bodyB f) W' (okN_all _ _ hrf) ((inB_iff _).2 ⟨⟨ho.1, ho.2.1⟩, ho.2.2⟩)
  rw [acc_body hrk hA _ hm] at h
  exact h
theorem part_ok (b : TB) (w : World) (ib : InB w w.heap.size b) (hrk : rkB b ≤ 1048576) (hA : chE b (cbE b) = 0) (x : TX) (hx : x ∈ exsB b) (h1 : x.k ≠ 13) (h2 : x.k ≠ 14) (h3 : ∀ f, x.funcs = [f] → x.k = 11 → f.name.toList = []) (W' : World) (hW : Below w.heap.size w W') : Calls Try.prog 22 #[x.v] W' fun e w' => e = .returned (.int .i64 0) ∧ Below W'.heap.size W' w' := by
  have hrx : rkPt (.inl x) ≤ 1048576 := by
    have h : rkPt (.inl x) + 2 ≤ rkB b := rk_exs x hx
    omega
  have h := expr_any x W' (fun m => okN_all m _ hrx) ((exsB_in ib x hx).still (still_of hW (Nat.le_refl _)) hW.size)
  rw [acc_expr hrk hA x hx h1 h2 h3] at h
  exact h
theorem fns_cap (b : TB) (hrk : rkB b ≤ 1048576) : (fnsB b).length ≤ 1099511627777 := by
  obtain ⟨ys, hys⟩ : ∃ ys : List {x : TX // x.funcs.length ≤ 1048576}, ys.map (fun x => x.1) = exsB b := ⟨(exsB b).attachWith _ (fun x hx => Nat.le_trans (fns_small b x hx) hrk), by simp⟩
  have hyl : ys.length = (exsB b).length := by rw [← hys, List.length_map]
  have hlen : (exsB b).length ≤ 1048576 := Nat.le_trans (exsB_len b) hrk
  have hfin : fnsP b ys = fnsB b := by unfold fnsP fnsB; rw [hys]
  have h := fnsP_len (fun x h => h) b ys
  have h2 : ys.length * 1048576 ≤ 1048576 * 1048576 := Nat.mul_le_mul_right _ (by omega)
  rw [hfin] at h
  omega
set_option maxHeartbeats 8000000 in
set_option maxRecDepth 100000 in
theorem walk (b : TB) (w : World) (ib : InB w w.heap.size b) (hrk : rkB b ≤ 1048576) :
    Calls Try.prog 6 #[b.v] w fun e w' => e = .returned (.bool true) ∧ Below w.heap.size w w' := by
  have HE : Hid (∀ W, Calls Try.prog 14 #[b.v] W fun e w' => e = .returned (.func (.func 37) #[] #[.pointer (some ⟨W.heap.size, 0, none⟩)]) ∧ w' = W.alloc (.cells #[b.v] 22)) := fun W => each_any b W
  have HR : Hid (∀ W, Below w.heap.size w W → Calls Try.prog 11 #[b.v] W fun e w' => e = .returned (.int .i64 (wrap64 (szSs b.l))) ∧ Below W.heap.size W w') := fun W hW => rsz_any b W (ib.still (still_of hW (Nat.le_refl _)) hW.size)
  have HC : Hid (∀ W, Below w.heap.size w W → Calls Try.prog 21 #[b.v] W fun e w' => e = .returned (.int .i64 (chE b (cbE b))) ∧ Below W.heap.size W w') := fun W hW => check_ok b W (okN_all _ (.inr b) hrk) (ib.still (still_of hW (Nat.le_refl _)) hW.size)
  have HFn : Hid (∀ W', Below w.heap.size w W' → Calls Try.prog 19 #[b.v] W' fun e w' => ∃ B cap, e = .returned (.slice (some ⟨B, 0, none⟩) (fnsB b).length cap) ∧ (fnsB b).length ≤ cap ∧ W'.heap.size ≤ B ∧ (∀ i, (hi : i < (fnsB b).length) → F5 w' B (i * 5) (fnsB b)[i]) ∧ Below W'.heap.size W' w') := fun W' h => funcs_any b W' (ib.still (still_of h (Nat.le_refl _)) h.size) hrk (fun x hx => Nat.le_trans (fns_small b x hx) hrk)
  have fr0 := fun i => frozen_out w (w.heap.size) i (by omega)
  have heq := eql_fn Try.underlying27
  obtain ⟨n, hn⟩ : ∃ n, wrap64 (szSs b.l) = n := ⟨_, rfl⟩
  rw [hn] at HR
  obtain ⟨c, hc⟩ : ∃ c, chE b (cbE b) = c := ⟨_, rfl⟩
  rw [hc] at HC
  refine (callsIn_wide (n := 6)).1 ?_
  refine callsIn_of_wp_marks Try.func6 rfl trivial ?_ rfl
  simp only [Try.ntmps6, List.size_toArray, List.length_cons, List.length_nil, Nat.reduceAdd, Nat.reduceSub, Array.replicate_succ, Array.replicate_zero, List.push_toArray, List.append_toArray, List.nil_append, List.cons_append]
  by_cases h6 : 600 < n
  · gi_wp2_with (first | (refine ⟨trivial, ?_⟩; gi_at_call 14; (with_reducible refine (callsIn_wide.2 (HE.out _)).mono ?_); rintro e w2 ⟨rfl, rfl⟩) | (refine ⟨trivial, ?_⟩; gi_at_call 11; (with_reducible refine (callsIn_wide.2 (HR.out _ ?_)).mono ?_); (focus ((repeat' (first | (with_reducible exact Below.refl _ _) | (with_reducible assumption) | (with_reducible refine Below.alloc ?_ ?_ _) | (with_reducible refine below_drewN ?_ _) | (with_reducible refine Below.drew ?_) | (with_reducible refine Below.setCell ?_ ?_ _) | (with_reducible refine below_via (by assumption) ?_ ?_) | (with_reducible refine below_via (later_below _) ?_ ?_) | (with_reducible exact Nat.le_refl _) | omega | (simp; omega) | (simp; done))))); rintro e w1 ⟨rfl, hb⟩; (refine mem hb ?_; intro N hN hz hc hf; (try simp at hN); subst hN)) | (refine ⟨trivial, ?_⟩; gi_at_call 9; (with_reducible refine (callsIn_wide.2 (awake_any _)).mono ?_); rintro e w1 ⟨rfl, hb⟩; (refine mem hb ?_; intro N hN hz hc hf; (try simp at hN); subst hN)) | (refine ⟨trivial, ?_⟩; go_at_K))
    refine ⟨_, (by first | (simp [results, Try.results6, go_sem, *]; done) | (simp [results, Try.results6, go_sem, *]; rfl) | (simp [results, Try.results6, go_sem, ↓IntWalk.iteOmega, *]; try rfl)), rfl, ?_⟩
    (repeat' (first | (with_reducible exact Below.refl _ _) | (with_reducible assumption) | (with_reducible refine Below.alloc ?_ ?_ _) | (with_reducible refine below_drewN ?_ _) | (with_reducible refine Below.drew ?_) | (with_reducible refine Below.setCell ?_ ?_ _) | (with_reducible refine below_via (by assumption) ?_ ?_) | (with_reducible refine below_via (later_below _) ?_ ?_) | (with_reducible exact Nat.le_refl _) | omega | (simp; omega) | (simp; done)))
  · have hd6 : decide (600 < n) = false := by simp; omega
    by_cases h0 : c = 0
    · subst h0
      gi_wp2_with (first | (refine ⟨trivial, ?_⟩; gi_at_call 14; (with_reducible refine (callsIn_wide.2 (HE.out _)).mono ?_); rintro e w2 ⟨rfl, rfl⟩) | (refine ⟨trivial, ?_⟩; gi_at_call 11; (with_reducible refine (callsIn_wide.2 (HR.out _ ?_)).mono ?_); (focus ((repeat' (first | (with_reducible exact Below.refl _ _) | (with_reducible assumption) | (with_reducible refine Below.alloc ?_ ?_ _) | (with_reducible refine below_drewN ?_ _) | (with_reducible refine Below.drew ?_) | (with_reducible refine Below.setCell ?_ ?_ _) | (with_reducible refine below_via (by assumption) ?_ ?_) | (with_reducible refine below_via (later_below _) ?_ ?_) | (with_reducible exact Nat.le_refl _) | omega | (simp; omega) | (simp; done))))); rintro e w1 ⟨rfl, hb⟩; have hb1 := hb; have hz1 : w.heap.size + 1 + 1 ≤ w1.heap.size := (by have := hb.size; simpa using this); (refine mem hb ?_; intro N hN hz hc hf; (try simp at hN); subst hN)) | (refine ⟨trivial, ?_⟩; gi_at_call 21; (with_reducible refine (callsIn_wide.2 (HC.out _ ?_)).mono ?_); (focus ((repeat' (first | (with_reducible exact Below.refl _ _) | (with_reducible assumption) | (with_reducible refine Below.alloc ?_ ?_ _) | (with_reducible refine below_drewN ?_ _) | (with_reducible refine Below.drew ?_) | (with_reducible refine Below.setCell ?_ ?_ _) | (with_reducible refine below_via (by assumption) ?_ ?_) | (with_reducible refine below_via (later_below _) ?_ ?_) | (with_reducible exact Nat.le_refl _) | omega | (simp; omega) | (simp; done))))); rintro e w3 ⟨rfl, hb⟩; have hb3 := hb; have hz3 := hb.size; (refine mem hb ?_; intro N hN hz hc hf; (try simp at hN); subst hN)) | (refine ⟨trivial, ?_⟩; gi_at_call 19; ((with_reducible refine (callsIn_wide.2 (HFn.out _ ?_)).mono ?_); (focus ((repeat' (first | (with_reducible exact Below.refl _ _) | (with_reducible assumption) | (with_reducible refine Below.alloc ?_ ?_ _) | (with_reducible refine below_drewN ?_ _) | (with_reducible refine Below.drew ?_) | (with_reducible refine Below.setCell ?_ ?_ _) | (with_reducible refine below_via (by assumption) ?_ ?_) | (with_reducible refine below_via (later_below _) ?_ ?_) | (with_reducible exact Nat.le_refl _) | omega | (simp; omega) | (simp; done))))); rintro e w4 ⟨B, cap, rfl, hcap, hBz, hF5, hb⟩; have HF5 := Lib.hid hF5; clear hF5; have hb4 := hb; have hz4 := hb.size; (refine mem hb ?_; intro N hN hz hc hf; (try simp at hN); subst hN))))
      have hB1 : Below w.heap.size w w1 := by (repeat' (first | (with_reducible exact Below.refl _ _) | (with_reducible assumption) | (with_reducible refine Below.alloc ?_ ?_ _) | (with_reducible refine below_drewN ?_ _) | (with_reducible refine Below.drew ?_) | (with_reducible refine Below.setCell ?_ ?_ _) | (with_reducible refine below_via (by assumption) ?_ ?_) | (with_reducible refine below_via (later_below _) ?_ ?_) | (with_reducible exact Nat.le_refl _) | omega | (simp; omega) | (simp; done)))
      have hB3 : Below w.heap.size w w3 := hB1.trans (hb3.mono (by omega))
      have hB4 : Below w.heap.size w w4 := hB3.trans (hb4.mono (by omega))
      have r1 : w1.cell? ⟨w.heap.size, 0, none⟩ = some (.bool false) := (hb1.cell (p := ⟨w.heap.size, 0, none⟩) (by first | (simp; done) | (simp; omega))).trans (by first | (simp [cell_alloc_if]; done) | (simp [cell_alloc_if]; omega))
      have rf1 : w1.frozen? ⟨w.heap.size, 0, none⟩ = false := (hb1.frozen (p := ⟨w.heap.size, 0, none⟩) (by first | (simp; done) | (simp; omega))).trans (by simp [frozen_alloc, fr0])
      have y1 : w1.cell? ⟨w.heap.size + 1, 0, none⟩ = some b.v := (hb1.cell (p := ⟨w.heap.size + 1, 0, none⟩) (by simp)).trans (by simp [cell_alloc_if])
      have r4 : w4.cell? ⟨w.heap.size, 0, none⟩ = some (.bool false) := (hb4.cell (p := ⟨w.heap.size, 0, none⟩) (by show w.heap.size < _; omega)).trans ((hb3.cell (p := ⟨w.heap.size, 0, none⟩) (by show w.heap.size < _; omega)).trans r1)
      have rf4 : w4.frozen? ⟨w.heap.size, 0, none⟩ = false := (hb4.frozen (p := ⟨w.heap.size, 0, none⟩) (by show w.heap.size < _; omega)).trans ((hb3.frozen (p := ⟨w.heap.size, 0, none⟩) (by show w.heap.size < _; omega)).trans rf1)
      have y4 : w4.cell? ⟨w.heap.size + 1, 0, none⟩ = some b.v := (hb4.cell (p := ⟨w.heap.size + 1, 0, none⟩) (by show w.heap.size + 1 < _; omega)).trans ((hb3.cell (p := ⟨w.heap.size + 1, 0, none⟩) (by show w.heap.size + 1 < _; omega)).trans y1)
      have hACC : chE b (cbE b) = 0 := by assumption
      have HCk : Hid (∀ k (hk : k < (fnsB b).length) W', Below w.heap.size w W' → Calls Try.prog 21 #[.slice ((fnsB b)[k]).bA ((fnsB b)[k]).body.length ((fnsB b)[k]).bC] W' fun e w' => e = .returned (.int .i64 0) ∧ Below W'.heap.size W' w') := fun k hk W' hW => body_ok b w ib hrk hACC _ (List.getElem_mem hk) W' hW
      have HXe : Hid (∀ x ∈ exsB b, x.k ≠ 13 → x.k ≠ 14 → (∀ f, x.funcs = [f] → x.k = 11 → f.name.toList = []) → ∀ W', Below w.heap.size w W' → Calls Try.prog 22 #[x.v] W' fun e w' => e = .returned (.int .i64 0) ∧ Below W'.heap.size W' w') := fun x hx h1 h2 h3 W' hW => part_ok b w ib hrk hACC x hx h1 h2 h3 W' hW
      have hFC := fns_cap b hrk
      obtain ⟨nF, hnF⟩ : ∃ m, (fnsB b).length = m := ⟨_, rfl⟩
      have HNF := Lib.hid hnF
      have HB4 := Lib.hid hB4
      have HIB := Lib.hid ib
      have hz0 : w.heap.size + 1 < w4.heap.size := by omega
      rw [hnF] at hcap hFC
      rw [hnF]
      clear hB1 hB3 hB4 r1 rf1 y1 hb1 hb3 hb4 hACC hnF HE HR HC HFn ib hb fr0 heq
      gi_loopw [24] (fun i wr => ∃ k : Nat, k ≤ nF ∧ i = .int .i64 k ∧ Hid (Below w4.heap.size w4 wr)) (fun i _ => nF - (intOf i).toNat)
      case atStart => exact ⟨0, Nat.zero_le _, rfl, Below.refl _ _⟩
      case round =>
        obtain ⟨k, hk, rfl, HG⟩ := hrel
        have hg := HG.out
        have hgz := hg.size
        by_cases hlt : k < nF
        · have hkF : k < (fnsB b).length := by rw [HNF.out]; exact hlt
          have HS1 := Lib.hid (HCk.out k hkF)
          have hf5 := HF5.out k hkF
          obtain ⟨f, hf⟩ : ∃ f, (fnsB b)[k] = f := ⟨_, rfl⟩
          rw [hf] at HS1 hf5
          have hBl := cell_lt hf5.1
          have f3 : wr.cell? ⟨B, k * 5 + 3, none⟩ = some (.slice f.bA f.body.length f.bC) := (hg.cell (p := ⟨B, k * 5 + 3, none⟩) hBl).trans hf5.2.2.2.1
          clear hf5 hf
          gi_wp2_with (refine ⟨trivial, ?_⟩; gi_at_call 21; (with_reducible refine (callsIn_wide.2 (HS1.out _ ?_)).mono ?_); (focus (exact HB4.out.trans (HG.out.mono (by omega)))); rintro e w5 ⟨rfl, hb⟩; have hb5 := hb; (refine mem hb ?_; intro N hN hz hc hf; (try simp at hN); subst hN))
          exact ⟨⟨k + 1, by omega, by go_num, HG.out.trans (hb5.mono hgz)⟩, by simp [intOf]; omega⟩
        · obtain rfl : k = nF := by omega
          have r9 : wr.cell? ⟨w.heap.size, 0, none⟩ = some (.bool false) := (hg.cell (p := ⟨w.heap.size, 0, none⟩) (by show w.heap.size < _; omega)).trans r4
          have rf9 : wr.frozen? ⟨w.heap.size, 0, none⟩ = false := (hg.frozen (p := ⟨w.heap.size, 0, none⟩) (by show w.heap.size < _; omega)).trans rf4
          have y9 : wr.cell? ⟨w.heap.size + 1, 0, none⟩ = some b.v := (hg.cell (p := ⟨w.heap.size + 1, 0, none⟩) (by show w.heap.size + 1 < _; omega)).trans y4
          have hBr : Below w.heap.size w wr := HB4.out.trans (hg.mono (by omega))
          have HBr := Lib.hid hBr
          obtain ⟨ys, hys⟩ : ∃ ys : List {x : TX // x ∈ exsB b}, ys.map (fun x => x.1) = exsB b := ⟨(exsB b).attachWith _ (fun x hx => hx), by simp⟩
          have EXACT := Lib.hid (each_stops 5 wr.heap.size wr.heap.size (w.heap.size + 1) b ys hys (Nat.le_refl _) wr ((HIB.out.still (still_of hBr (Nat.le_refl _)) hBr.size)) (Nat.le_refl _) y9)
          clear hys hBr
          gi_wp2
          refine wpIn_rangeFunc_ownH rfl (by decide) (gf := 37) (lb := #[.pointer (some ⟨w.heap.size + 1, 0, none⟩)]) rfl trivial (enters_of Try.func37 (by kernel_rfl) rfl)
            EXACT.out keptK_t (keptK_b (Nat.le_refl _)) (Below.refl _ _) (fun _ => rfl)
            (fun _ W => Below wr.heap.size wr W)
            (fun _ _ _ => False)
            (ownFrom_below (Nat.le_refl _) (Nat.le_refl _))
            (fun _ _ _ _ _ hs _ _ => hs)
            (Below.refl _ _)
            (fun x a' W => ∃ Bx, wr.heap.size ≤ Bx ∧ XBox W Bx x.1 ∧ a' = { tmps := #[b.v, undef, .pointer (some ⟨w.heap.size, 0, none⟩), .func (.func 37) #[] #[.pointer (some ⟨w.heap.size + 1, 0, none⟩)], .slice (some ⟨B, 0, none⟩) k cap, u5, .pointer (some ⟨Bx, 0, none⟩), b.v, .func (.func 37) #[] #[.pointer (some ⟨w.heap.size + 1, 0, none⟩)], .func (.func 37) #[] #[.pointer (some ⟨w.heap.size + 1, 0, none⟩)], .bool false, b.v, .int .i64 n, .bool false, .bool false, b.v, .int .i64 0, .bool false, .bool false, undef, b.v, .slice (some ⟨B, 0, none⟩) k cap, .slice (some ⟨B, 0, none⟩) k cap, .int .i64 k, .int .i64 k, .bool false, u26, u27, u28, u29, u30, u31, u32, u33, u34, .func (.func 37) #[] #[.pointer (some ⟨w.heap.size + 1, 0, none⟩)], x.1.v, undef, undef, undef, undef, undef, undef, undef, undef, undef, undef, undef, undef, undef, undef, undef, undef, undef, undef, undef, undef, undef, undef, undef, undef, undef, undef, undef, undef, undef, undef, undef], defers := [] })
            (fun x a' _ X Y row hs hg hr => by
              obtain ⟨Bx, h1, h2, h3⟩ := hs
              exact ⟨Bx, h1, h2.kept hg (fun e => by obtain ⟨-, o, ho, hc⟩ := hr Bx e.symm; rw [show X.heap[Bx]? = _ from h2] at ho; cases ho; cases hc), h3⟩) ?assign ?body ?done ?stop
          case assign =>
            rintro l pre x W K hB hK
            have hz := hB.size
            gi_wp2
            exact hK _ _ ((KeepsOthers.alloc _ _).from _) (kept_of ((Below.refl _ W).alloc (Nat.le_refl _) _) hz) (hB.alloc hz _) ⟨W.heap.size, hz, XBox.new W x.1, rfl⟩
          case body =>
            rintro l pre x a' W hl ⟨r, hr⟩ hB ⟨Bx, hBx, bX, rfl⟩ hlt2
            have hzB := hB.size
            have hBl := cell_lt bX.cells.1
            obtain ⟨x0, x1, x2, x3, x4, x5, x6, x7⟩ := bX.cells
            have hBW : Below w.heap.size w W := HBr.out.trans (hB.mono (by have := HBr.out.size; omega))
            have hX0 := ((inX_iff x.1).1 ((exsB_in HIB.out x.1 x.2).still (still_of hBW (Nat.le_refl _)) hBW.size)).1
            have HXx := Lib.hid (HXe.out x.1 x.2)
            obtain ⟨hf1, hf2, -⟩ := hX0.fi
            have HBW := Lib.hid hBW
            by_cases h13 : x.1.k = 13
            · have t13 : (x.1.k != 13) = false := by simp [h13]
              have t11 : (x.1.k == 11) = false := by simp [h13]
              clear h13
              gi_wp2_with (refine ⟨trivial, ?_⟩; go_at_K)
              exact ⟨(KeepsOthers.refl W).from _, Kept.refl _ _ _, hB⟩
            · have t13 : (x.1.k != 13) = true := by simpa using h13
              by_cases h14 : x.1.k = 14
              · have t14 : (x.1.k != 14) = false := by simp [h14]
                have t11 : (x.1.k == 11) = false := by simp [h14]
                clear h13 h14
                gi_wp2_with (refine ⟨trivial, ?_⟩; go_at_K)
                exact ⟨(KeepsOthers.refl W).from _, Kept.refl _ _ _, hB⟩
              · have t14 : (x.1.k != 14) = true := by simpa using h14
                by_cases h11 : x.1.k = 11
                · have t11 : (x.1.k == 11) = true := by simpa using h11
                  by_cases hl1 : x.1.funcs.length = 1
                  · have tl : ((x.1.funcs.length : Int) == 1) = true := by rw [hl1]; rfl
                    obtain ⟨f, hf⟩ : ∃ f, x.1.funcs = [f] := by
                      match hq : x.1.funcs with
                      | [f] => exact ⟨f, rfl⟩
                      | [] => rw [hq] at hl1; cases hl1
                      | _ :: _ :: _ => rw [hq] at hl1; simp at hl1
                    obtain ⟨b2, o2, ha2, hb2, hc2⟩ := hX0.fAt.resolve_left (by omega)
                    have hc0 := hc2 0 (by omega)
                    rw [Nat.zero_mul, Nat.add_zero, show x.1.funcs[0] = f by simp [hf]] at hc0
                    obtain ⟨e0, -⟩ := hc0
                    rw [ha2] at x7
                    have hpos : 0 < x.1.funcs.length := by omega
                    cases hnm : f.name.toList.isEmpty with
                    | true =>
                      have hn0 : f.name.toList = [] := by simpa using hnm
                      have hn1 : (f.name.toList == []) = true := by simpa using hnm
                      have HX1 := Lib.hid (fun W' (hW : Below W.heap.size W W') => HXx.out h13 h14 (fun g hg _ => by
                        rw [hf] at hg
                        injection hg with hg _
                        rw [← hg]
                        simpa using hnm) W' (HBW.out.trans (hW.mono HBW.out.size)))
                      have hv : x.1.v = .agg #[.int .i64 x.1.k, .int .i64 x.1.op, .int .i64 x.1.ln, .int .i64 x.1.p, .int .i64 x.1.q, .string x.1.s, .slice x.1.aA x.1.args.length x.1.aC, .slice (some ⟨b2, o2, none⟩) x.1.funcs.length x.1.fC] := by show Value.agg _ = _; rw [ha2]
                      rw [hv] at HX1
                      clear h13 h14 h11 hl1 hf hc2 hBW hX0 ha2 hv hn0 hn1
                      gi_wp2_with (first | (refine ⟨trivial, ?_⟩; gi_at_call 22; refine (CallsIn.inRound l (callsIn_wide.2 (HX1.out W (Below.refl _ _)))).mono ?_; rintro e w7 ⟨rfl, hb⟩; have hb7 := hb; (refine mem hb ?_; intro N hN hz hc hf; (try simp at hN); subst hN)) | (refine ⟨trivial, ?_⟩; go_at_K))
                      exact ⟨(keeps_of hb7).from _, kept_of hb7 hzB, hB.trans (hb7.mono hzB)⟩
                    | false =>
                      clear h13 h14 h11 hl1 hf hc2 hBW hX0 ha2
                      gi_wp2_with (refine ⟨trivial, ?_⟩; go_at_K)
                      exact ⟨(KeepsOthers.refl W).from _, Kept.refl _ _ _, hB⟩
                  · have tl : ((x.1.funcs.length : Int) == 1) = false := by simp; omega
                    have HX1 := Lib.hid (fun W' (hW : Below W.heap.size W W') => HXx.out h13 h14 (fun g hg _ => absurd (by rw [hg]; rfl) hl1) W' (HBW.out.trans (hW.mono HBW.out.size)))
                    clear h13 h14 h11 hl1 hBW hX0
                    gi_wp2_with (first | (refine ⟨trivial, ?_⟩; gi_at_call 22; refine (CallsIn.inRound l (callsIn_wide.2 (HX1.out W (Below.refl _ _)))).mono ?_; rintro e w7 ⟨rfl, hb⟩; have hb7 := hb; (refine mem hb ?_; intro N hN hz hc hf; (try simp at hN); subst hN)) | (refine ⟨trivial, ?_⟩; go_at_K))
                    exact ⟨(keeps_of hb7).from _, kept_of hb7 hzB, hB.trans (hb7.mono hzB)⟩
                · have t11 : (x.1.k == 11) = false := by simpa using h11
                  have HX1 := Lib.hid (fun W' (hW : Below W.heap.size W W') => HXx.out h13 h14 (fun g hg h => absurd h h11) W' (HBW.out.trans (hW.mono HBW.out.size)))
                  clear h13 h14 h11 hBW hX0
                  gi_wp2_with (first | (refine ⟨trivial, ?_⟩; gi_at_call 22; refine (CallsIn.inRound l (callsIn_wide.2 (HX1.out W (Below.refl _ _)))).mono ?_; rintro e w7 ⟨rfl, hb⟩; have hb7 := hb; (refine mem hb ?_; intro N hN hz hc hf; (try simp at hN); subst hN)) | (refine ⟨trivial, ?_⟩; go_at_K))
                  exact ⟨(keeps_of hb7).from _, kept_of hb7 hzB, hB.trans (hb7.mono hzB)⟩
          case done =>
            rintro D xs W hD rfl hB hK
            have hz := hB.size
            have rW : W.cell? ⟨w.heap.size, 0, none⟩ = some (.bool false) := (hB.cell (p := ⟨w.heap.size, 0, none⟩) (by show w.heap.size < _; omega)).trans r9
            have rfW : W.frozen? ⟨w.heap.size, 0, none⟩ = false := (hB.frozen (p := ⟨w.heap.size, 0, none⟩) (by show w.heap.size < _; omega)).trans rf9
            have hzw : w.heap.size < W.heap.size := by omega
            gi_wp2_with (refine ⟨trivial, ?_⟩; gi_at_call 9; (with_reducible refine (callsIn_wide.2 (awake_any _)).mono ?_); rintro e w9 ⟨rfl, hb⟩; have hb9 := hb; (refine mem hb ?_; intro N hN hz hc hf; (try simp at hN); subst hN))
            have hzl := hb9.size
            have g4 : w9.cell? ⟨w.heap.size, 0, none⟩ = some (.bool false) := (hb9.cell (p := ⟨w.heap.size, 0, none⟩) (by show w.heap.size < _; omega)).trans rW
            have hK8 := (hb9.block D (Array.getElem?_eq_some_iff.1 hK).1).trans hK
            have hK9 : (w9.setCell ⟨w.heap.size, 0, none⟩ (.bool true)).heap[D]? = some (.deferred (some [])) := (Below.heap_setCell _ _ _ _ (by show D ≠ w.heap.size; omega)).trans hK8
            have h9 : ((w9.setCell ⟨w.heap.size, 0, none⟩ (.bool true)).putObj D (.deferred none)).cell? ⟨w.heap.size, 0, none⟩ = some (.bool true) := cell_kept (World.cell?_setCell_same _ _ _ g4) (grownBy_putObj' _ D (.deferred none)) (fun r e => by cases e; exact ⟨_, hK9, rfl⟩)
            refine ⟨by simp, .inl ⟨_, _, rfl, run_takeDeferred hK9, ?_⟩⟩
            refine ⟨_, (by first | (simp [results, Try.results6, go_sem, *]; done) | (simp [results, Try.results6, go_sem, *]; rfl) | (simp [results, Try.results6, go_sem, ↓IntWalk.iteOmega, *]; try rfl)), rfl, ?_⟩
            refine (((HBr.out.trans (hB.mono (by omega))).trans (hb9.mono (by omega))).setCell (p := ⟨w.heap.size, 0, none⟩) (Nat.le_refl _) (.bool true)).trans ?_
            exact belowK_b (w := w) (Nat.le_refl _) _ D _ _ (by omega) hK9 rfl rfl
          case stop =>
            rintro D c pre W hD _ h _
            exact h.elim
    · have hc0 : (c != 0) = true := by simpa using h0
      gi_wp2_with (first | (refine ⟨trivial, ?_⟩; gi_at_call 14; (with_reducible refine (callsIn_wide.2 (HE.out _)).mono ?_); rintro e w2 ⟨rfl, rfl⟩) | (refine ⟨trivial, ?_⟩; gi_at_call 11; (with_reducible refine (callsIn_wide.2 (HR.out _ ?_)).mono ?_); (focus ((repeat' (first | (with_reducible exact Below.refl _ _) | (with_reducible assumption) | (with_reducible refine Below.alloc ?_ ?_ _) | (with_reducible refine below_drewN ?_ _) | (with_reducible refine Below.drew ?_) | (with_reducible refine Below.setCell ?_ ?_ _) | (with_reducible refine below_via (by assumption) ?_ ?_) | (with_reducible refine below_via (later_below _) ?_ ?_) | (with_reducible exact Nat.le_refl _) | omega | (simp; omega) | (simp; done))))); rintro e w1 ⟨rfl, hb⟩; (refine mem hb ?_; intro N hN hz hc hf; (try simp at hN); subst hN)) | (refine ⟨trivial, ?_⟩; gi_at_call 21; (with_reducible refine (callsIn_wide.2 (HC.out _ ?_)).mono ?_); (focus ((repeat' (first | (with_reducible exact Below.refl _ _) | (with_reducible assumption) | (with_reducible refine Below.alloc ?_ ?_ _) | (with_reducible refine below_drewN ?_ _) | (with_reducible refine Below.drew ?_) | (with_reducible refine Below.setCell ?_ ?_ _) | (with_reducible refine below_via (by assumption) ?_ ?_) | (with_reducible refine below_via (later_below _) ?_ ?_) | (with_reducible exact Nat.le_refl _) | omega | (simp; omega) | (simp; done))))); rintro e w3 ⟨rfl, hb⟩; (refine mem hb ?_; intro N hN hz hc hf; (try simp at hN); subst hN)) | (refine ⟨trivial, ?_⟩; gi_at_call 9; (with_reducible refine (callsIn_wide.2 (awake_any _)).mono ?_); rintro e w1 ⟨rfl, hb⟩; (refine mem hb ?_; intro N hN hz hc hf; (try simp at hN); subst hN)) | (refine ⟨trivial, ?_⟩; go_at_K))
      refine ⟨_, (by first | (simp [results, Try.results6, go_sem, *]; done) | (simp [results, Try.results6, go_sem, *]; rfl) | (simp [results, Try.results6, go_sem, ↓IntWalk.iteOmega, *]; try rfl)), rfl, ?_⟩
      (repeat' (first | (with_reducible exact Below.refl _ _) | (with_reducible assumption) | (with_reducible refine Below.alloc ?_ ?_ _) | (with_reducible refine below_drewN ?_ _) | (with_reducible refine Below.drew ?_) | (with_reducible refine Below.setCell ?_ ?_ _) | (with_reducible refine below_via (by assumption) ?_ ?_) | (with_reducible refine below_via (later_below _) ?_ ?_) | (with_reducible exact Nat.le_refl _) | omega | (simp; omega) | (simp; done)))

set_option maxRecDepth 100000 in
theorem contract (H : Type) (enc : TypeId × Value → H) (W : World) (base : Nat) (args : Array Value) (ds gs : List (DataW H)) (before : List MemPlace)
    (hval : ∀ (j : Nat) t v, Try.f6.params[j]? = some t → args[j]? = some v → Value.okWide Try.prog W .any base t v)
    (hW : DataW.Whole enc Try.prog Try.f6.params.toList Rows.treeAcceptsSpec.vars false W args.toList ds gs before) (hk : Rows.uptoSmall H (ds ++ gs) = true) :
    Calls Try.prog 6 args W fun e W' => ∃ v, e = .returned v ∧ Rows.treeAcceptsSpec.post enc Try.prog Try.f6 false true false false W args v W' := by
  have hW' := hW
  obtain ⟨p, q, hA0, hV, rfl, hfz, hnd⟩ := hW
  have hA : DataW.TrodAll enc Try.prog W 0 (fun _ => true) true Try.f6.params.toList args.toList ds p := hA0
  rw [Try.params6] at hA hval
  obtain ⟨v0, vs0, d0, ds0, p0, q0, hargs, rfl, rfl, h0, r0⟩ := trodAll_cons hA
  obtain ⟨rfl, rfl, rfl⟩ := trodAll_nil r0
  obtain rfl : args = #[v0] := by cases args; simp_all
  obtain ⟨rfl, rfl⟩ := trodVars_none hV
  have k0 := h0
  have lt0 : ∀ x ∈ p0, x.block < W.heap.size := by obtain ⟨m, hm⟩ := k0; exact DataW.trod_lt m _ _ _ hm
  obtain ⟨a0, n0, c0, e0⟩ := okWide_slice Try.underlying22 (hval 0 22 v0 rfl rfl)
  obtain ⟨b, g0, ib, rb⟩ := open_blk h0 (by rw [e0]; rfl)
  subst g0
  have hsm := of_decide_eq_true hk
  simp only [List.append_nil, Rows.uptoBulkAll] at hsm
  clear hA0
  refine (walk b W ib (by omega)).mono fun e W' ⟨he, bel⟩ => ?_
  subst he
  exact ⟨_, rfl, _, _, _, [], _, [], hW', trodAll_mk1 (shut_bool Try.underlying4 _), (trodAll_cons_mk (Below.trod laidOut (by kernel_rfl) (of_decide_eq_true (by kernel_rfl)) k0 bel lt0) trodAll_mk0), rfl, bel.frame _, fun h => by cases h⟩

set_option maxRecDepth 100000 in
theorem lifted (os : Os) (started : os.Started) (H : Type) (enc : TypeId × Value → H) (F : Stop.Interp) :
    ReturnsInHanded {} Try.checked os 6 .any ((Rows.OpenSpec.upto Rows.treeAcceptsSpec).pre6 enc Try.prog Try.f6 Rows.treeAcceptsUptoRow.domain false) (((Rows.OpenSpec.upto Rows.treeAcceptsSpec).at F).post enc Try.prog Try.f6 false true false false) := by
  refine returnsInHanded_of_cond (C := Try.checked) (s := Rows.OpenSpec.upto Rows.treeAcceptsSpec) (k := Rows.uptoSmall) rfl own started (by kernel_rfl) Try.func6
    (OpenSpec.witness (enc := enc) (C := Try.checked) (s := Rows.OpenSpec.upto Rows.treeAcceptsSpec) (k := Rows.uptoSmall) rfl false ⟨#[], #[.slice none 0 0], []⟩ 8 (by kernel_rfl) (by kernel_rfl) (by kernel_rfl)
      (x := ([.nil], [], [])) (by kernel_rfl) rfl (by kernel_rfl)) ?_
  intro W base args ds gs before hval hW _ hk _
  exact contract H enc W base args ds gs before hval hW hk

theorem over : Rows.treeAcceptsUptoRow.holds Try.pinned (Rows.OpenSpec.upto Rows.treeAcceptsSpec) :=
  OpenClaim.holds_of_cond 6 Try.f6 rfl rfl rfl rfl rfl rfl rfl ⟨rfl, rfl, rfl, rfl, rfl⟩ rfl rfl rfl rfl rfl (by kernel_rfl) Try.func6 (by kernel_rfl)
    (of_decide_eq_true (by kernel_rfl)) (by unfold Func.isWrapper; first | (rw [if_pos (by decide +kernel)]; kernel_rfl) | (rw [if_neg (by decide +kernel)]; exact ⟨rfl, rfl⟩))
    (fun os started H enc _ F => lifted os started H enc F)

/-- The given statement. -/
theorem proved : Rows.TreeAcceptsUptoSaid := over
#print axioms proved
end Go.Proofs.Ythkpggpnbdedjaa.treeAccepts
