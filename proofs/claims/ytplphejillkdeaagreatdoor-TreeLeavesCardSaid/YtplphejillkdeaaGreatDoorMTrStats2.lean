/- The program's stats at an if. -/
import Derived.Test.YtplphejillkdeaaGreatDoorMTrS
import Derived.Test.YtplphejillkdeaaGreatDoorMTrReg
namespace Go.Proofs.YtplphejillkdeaaGreatDoor
open Go.RowKit Go.Instr
set_option linter.unusedVariables false
theorem kept_old {a b : Nat} {W W' : World} (k : Kept a b W W') {g o : Nat} (hg : g < a) {v : Value} (h : W.cell? ⟨g, o, none⟩ = some v) : W'.cell? ⟨g, o, none⟩ = some v := ((k.still (Nat.le_refl _)).cell hg).trans h
theorem panic_put {Q : Exit → Act → World → Prop} (h : ∀ c (a : Act) (d : Tmp) v w, Q (.panic c) (a.put (some d) v) w → Q (.panic c) a w) (c : List PanicEntry) (a : Act) (d : Option Tmp) (v : Value) (w : World) (hh : Q (.panic c) (a.put d v) w) : Q (.panic c) a w := by
  cases d with
  | none => exact hh
  | some d => exact h c a d v w hh
section
variable (a b p : Nat) (J : Nat → World → Prop) (X : Ending → World → Prop) (fe fb : Value) (s : TS) (w : World)
  (hin : InS w a s) (hab : a ≤ b) (hbw : b ≤ w.heap.size) (hfe : IsFn fe) (hfb : IsFn fb)
  (hJ : ∀ j W W', J j W → Below W.heap.size W W' → J j W')
  (H : ∀ j x, (partsS s)[j]? = some x → ∀ W, J (p + j) W → CBp fe fb x W (RJ a b (J (p + (j + 1))) X W))
include hab hbw hfe hJ H hfb hin

set_option maxHeartbeats 3200000 in
set_option maxRecDepth 100000 in
theorem stats_if1 (hk8 : s.k = 8) (hRB : s.right.length < s.blocks.length) (h0 : J p w) : Calls Tryz.prog 34 #[s.v, fe, fb] w (RJ a b (J (p + (partsS s).length)) X w) := by
  have hp : partsS s = s.left.map .inl ++ zipP s.right s.blocks := by unfold partsS; rw [if_neg (by omega), if_pos hk8]
  have H1 := stats_part1 a b p J X fe fb s w hab hbw hfe hJ H 0 s.left s.lA s.lC hin.lf (fun j h => by rw [hp, Nat.zero_add, List.getElem?_append_left (by simpa using h)]; simp [h])
  have HX : Hid (∀ i (h : i < s.right.length) W, J (p + (s.left.length + (i + min i s.blocks.length))) W → CB fe #[(s.right[i]).v] W (RJ a b (J (p + (s.left.length + (i + min i s.blocks.length) + 1))) X W)) := fun i h W hW => H (s.left.length + (i + min i s.blocks.length)) (.inl s.right[i]) (by rw [hp, List.getElem?_append_right (by simp)]; simp only [List.length_map, Nat.add_sub_cancel_left]; exact zipP_x _ _ i h) W hW
  have HY : Hid (∀ i (h : i < s.blocks.length) W, J (p + (s.left.length + (min (i + 1) s.right.length + i))) W → CB fb #[(s.blocks[i]).v] W (RJ a b (J (p + (s.left.length + (min (i + 1) s.right.length + i) + 1))) X W)) := fun i h W hW => H (s.left.length + (min (i + 1) s.right.length + i)) (.inr s.blocks[i]) (by rw [hp, List.getElem?_append_right (by simp)]; simp only [List.length_map, Nat.add_sub_cancel_left]; exact zipP_b _ _ i h) W hW
  have hlen : p + (partsS s).length = p + (s.left.length + (s.right.length + s.blocks.length)) := by rw [hp, List.length_append, zipP_len]; simp
  rw [hlen]
  have HJ := Lib.hid hJ
  have H0 := Lib.hid h0
  have HIN := Lib.hid hin
  obtain ⟨r1, r2, -⟩ := hin.rt.1
  obtain ⟨q1, q2, -⟩ := hin.bs.1
  have hR : (s.right.length : Int) ≤ 9223372036854775807 := by omega
  have hBl : (s.blocks.length : Int) ≤ 9223372036854775807 := by omega
  have d7 : (s.k == 7) = false := by simp; omega
  have d8 : (s.k == 8) = true := by simpa using hk8
  obtain ⟨g1, fi1, cp1, rfl, hg1⟩ := hfe
  obtain ⟨g2, fi2, cp2, rfl, hg2⟩ := hfb
  clear H hJ hp h0 hlen hin hk8
  have HB0 := Lib.hid (Bx.new s (.func (.func g1) fi1 cp1) (.func (.func g2) fi2 cp2) w 41 53 73)
  go_enter Tryz.func34, Tryz.ntmps34
  go_wp2_with fail
  refine (H1.out _ HB0.out (kept_of (by (repeat' (first | (with_reducible exact Below.refl _ _) | (with_reducible assumption) | (with_reducible refine Below.alloc ?_ ?_ _) | (with_reducible refine below_drewN ?_ _) | (with_reducible refine Below.drew ?_) | (with_reducible refine Below.setCell ?_ ?_ _) | (with_reducible refine below_via (by assumption) ?_ ?_) | (with_reducible refine below_via (later_below _) ?_ ?_) | (with_reducible exact Nat.le_refl _) | omega | (simp; omega) | (simp; done)))) (by omega)) (HJ.out p w _ H0.out (by (repeat' (first | (with_reducible exact Below.refl _ _) | (with_reducible assumption) | (with_reducible refine Below.alloc ?_ ?_ _) | (with_reducible refine below_drewN ?_ _) | (with_reducible refine Below.drew ?_) | (with_reducible refine Below.setCell ?_ ?_ _) | (with_reducible refine below_via (by assumption) ?_ ?_) | (with_reducible refine below_via (later_below _) ?_ ?_) | (with_reducible exact Nat.le_refl _) | omega | (simp; omega) | (simp; done)))))).mono ?_
  rintro e w1 (⟨rfl, hT1, hk1⟩ | ⟨rfl | ⟨ch, rfl⟩, hX⟩)
  · have hB1 := HB0.out.kept hk1 hbw
    have HB1 := Lib.hid hB1
    have HK1 : Hid (Kept a b w w1) := (kept_of (by (repeat' (first | (with_reducible exact Below.refl _ _) | (with_reducible assumption) | (with_reducible refine Below.alloc ?_ ?_ _) | (with_reducible refine below_drewN ?_ _) | (with_reducible refine Below.drew ?_) | (with_reducible refine Below.setCell ?_ ?_ _) | (with_reducible refine below_via (by assumption) ?_ ?_) | (with_reducible refine below_via (later_below _) ?_ ?_) | (with_reducible exact Nat.le_refl _) | omega | (simp; omega) | (simp; done)))) (by omega)).trans hk1
    have HT1 : Hid (J (p + s.left.length) w1) := by have h := hT1; rwa [Nat.add_zero] at h
    obtain ⟨⟨b0, b1, b2, b3, b4, b5, b6⟩, b7, b8⟩ := hB1
    have hz1 := cell_lt b8
    clear hk1 hT1
    go_wp2_with fail
    go_loopw [40] (fun i wr => ∃ k : Nat, k ≤ max s.right.length s.blocks.length ∧ i = .int .i64 k ∧ Hid (J (p + (s.left.length + (min k s.right.length + min k s.blocks.length))) wr) ∧ Hid (Kept a b w wr) ∧ Hid (Bx w.heap.size s (.func (.func g1) fi1 cp1) (.func (.func g2) fi2 cp2) wr)) (fun i _ => max s.right.length s.blocks.length - (intOf i).toNat)
    case atStart => exact ⟨0, Nat.zero_le _, rfl, (by have h := HT1.out; simpa [Hid] using h), HK1.out, HB1.out⟩
    case round =>
      obtain ⟨k, hk, rfl, HK, HE, HB⟩ := hrel
      obtain ⟨⟨e0, e1, e2, e3, e4, e5, e6⟩, e7, e8⟩ := HB.out
      have hzr := cell_lt e8
      by_cases hy : k < s.blocks.length
      · by_cases hx : k < s.right.length
        · have HK1 : Hid (J (p + (s.left.length + (k + min k s.blocks.length))) wr) := by have h := HK.out; rwa [show min k s.right.length + min k s.blocks.length = (k + min k s.blocks.length) by omega] at h
          obtain ⟨br, or_, hra, hbr, hcx, -⟩ := (HIN.out.rt.still (HE.out.still (Nat.le_refl _)) (Nat.le_refl _)).at_ hx
          rw [hra] at e4
          obtain ⟨x, hxe⟩ : ∃ x, s.right[k] = x := ⟨_, rfl⟩
          have HCX := Lib.hid (fun W => hxe ▸ HX.out k hx W)
          rw [hxe] at hcx
          clear hxe
          obtain ⟨bb, ob, hba, hbb, hcy, -⟩ := (HIN.out.bs.still (HE.out.still (Nat.le_refl _)) (Nat.le_refl _)).at_ hy
          rw [hba] at e5
          obtain ⟨y, hye⟩ : ∃ y, s.blocks[k] = y := ⟨_, rfl⟩
          have HCY := Lib.hid (fun W => hye ▸ HY.out k hy W)
          rw [hye] at hcy
          have y0 : wr.cell? ⟨bb, ob + k, none⟩ = some (.slice y.a y.l.length y.c) := hcy
          clear hcy hye
          obtain ⟨x0, x1, x2, x3, x4, x5, x6, x7⟩ := hcx
          have hTA2 : ∀ W, J (p + (s.left.length + (k + min k s.blocks.length) + 1)) W → J (p + (s.left.length + (min (k + 1) s.right.length + k))) W := fun W h => by rwa [show s.left.length + (k + min k s.blocks.length) + 1 = s.left.length + (min (k + 1) s.right.length + k) by omega] at h
          have HTA2 := Lib.hid hTA2
          clear hTA2
          go_wp2_with fail
          refine wp_region_lex (fun W => W.cell? ⟨w.heap.size, 4, none⟩ = some (.slice (some ⟨br, or_, none⟩) s.right.length s.rC) ∧ W.cell? ⟨w.heap.size, 5, none⟩ = some (.slice (some ⟨bb, ob, none⟩) s.blocks.length s.bC) ∧ W.cell? ⟨w.heap.size + 1, 0, none⟩ = some (.func (.func g1) fi1 cp1) ∧ W.cell? ⟨w.heap.size + 1 + 1, 0, none⟩ = some (.func (.func g2) fi2 cp2) ∧ W.cell? ⟨br, or_ + k * 8, none⟩ = some (.int .i64 x.k) ∧ W.cell? ⟨br, or_ + k * 8 + 1, none⟩ = some (.int .i64 x.op) ∧ W.cell? ⟨br, or_ + k * 8 + 2, none⟩ = some (.int .i64 x.ln) ∧ W.cell? ⟨br, or_ + k * 8 + 3, none⟩ = some (.int .i64 x.p) ∧ W.cell? ⟨br, or_ + k * 8 + 4, none⟩ = some (.int .i64 x.q) ∧ W.cell? ⟨br, or_ + k * 8 + 5, none⟩ = some (.string x.s) ∧ W.cell? ⟨br, or_ + k * 8 + 6, none⟩ = some (.slice x.aA x.args.length x.aC) ∧ W.cell? ⟨br, or_ + k * 8 + 7, none⟩ = some (.slice x.fA x.funcs.length x.fC) ∧ W.cell? ⟨bb, ob + k, none⟩ = some (.slice y.a y.l.length y.c)) (by kernel_rfl) (by kernel_rfl) (panic_put (fun _ _ _ _ _ h => h)) ⟨e4, e5, e7, e8, x0, x1, x2, x3, x4, x5, x6, x7, y0⟩ ?_
          (repeat (first | (refine lex_no (by rfl) ?_; (try simp only [Act.put, List.setIfInBounds_toArray, List.set_cons_zero, List.set_cons_succ])) | (refine lex_rd (by rfl) (by rfl) ?_; apply Exists.intro; refine ⟨fun w' hSw => ?_, ?_⟩; (focus ((try dsimp only at hSw); go_split_ands; go_simp; (first | done | with_reducible rfl))); (try simp only [Act.put, List.setIfInBounds_toArray, List.set_cons_zero, List.set_cons_succ]))))
          refine lex_call (by rfl) (by rfl) (fun K hK => ?_)
          go_simp
          go_at_fn g1
          with_reducible refine (HCX.out _ (HJ.out _ wr _ HK1.out ?_)).calls1.mono ?_
          · (repeat' (first | (with_reducible exact Below.refl _ _) | (with_reducible assumption) | (with_reducible refine Below.alloc ?_ ?_ _) | (with_reducible refine below_drewN ?_ _) | (with_reducible refine Below.drew ?_) | (with_reducible refine Below.setCell ?_ ?_ _) | (with_reducible refine below_via (by assumption) ?_ ?_) | (with_reducible refine below_via (later_below _) ?_ ?_) | (with_reducible exact Nat.le_refl _) | omega | (simp; omega) | (simp; done)))
          rintro e wA (⟨rfl, hTA, hkA⟩ | ⟨rfl | ⟨chA, rfl⟩, hXA⟩)
          · have KA : Kept a b wr wA := (kept_of (Below.drew (Below.refl _ _)) (by omega)).trans hkA
            refine hK (fun W => W.cell? ⟨w.heap.size, 4, none⟩ = some (.slice (some ⟨br, or_, none⟩) s.right.length s.rC) ∧ W.cell? ⟨w.heap.size, 5, none⟩ = some (.slice (some ⟨bb, ob, none⟩) s.blocks.length s.bC) ∧ W.cell? ⟨w.heap.size + 1, 0, none⟩ = some (.func (.func g1) fi1 cp1) ∧ W.cell? ⟨w.heap.size + 1 + 1, 0, none⟩ = some (.func (.func g2) fi2 cp2) ∧ W.cell? ⟨br, or_ + k * 8, none⟩ = some (.int .i64 x.k) ∧ W.cell? ⟨br, or_ + k * 8 + 1, none⟩ = some (.int .i64 x.op) ∧ W.cell? ⟨br, or_ + k * 8 + 2, none⟩ = some (.int .i64 x.ln) ∧ W.cell? ⟨br, or_ + k * 8 + 3, none⟩ = some (.int .i64 x.p) ∧ W.cell? ⟨br, or_ + k * 8 + 4, none⟩ = some (.int .i64 x.q) ∧ W.cell? ⟨br, or_ + k * 8 + 5, none⟩ = some (.string x.s) ∧ W.cell? ⟨br, or_ + k * 8 + 6, none⟩ = some (.slice x.aA x.args.length x.aC) ∧ W.cell? ⟨br, or_ + k * 8 + 7, none⟩ = some (.slice x.fA x.funcs.length x.fC) ∧ W.cell? ⟨bb, ob + k, none⟩ = some (.slice y.a y.l.length y.c)) _ _ ⟨(KA.cell e0 e4 hbw), (KA.cell e0 e5 hbw), (KA.cell e7 e7 (by omega)), (KA.cell e8 e8 (by omega)), (kept_old KA hbr x0), (kept_old KA hbr x1), (kept_old KA hbr x2), (kept_old KA hbr x3), (kept_old KA hbr x4), (kept_old KA hbr x5), (kept_old KA hbr x6), (kept_old KA hbr x7), (kept_old KA hbb y0)⟩ ?_
            clear hK K
            (try simp only [Act.put, List.setIfInBounds_toArray, List.set_cons_zero, List.set_cons_succ])
            (repeat (first | (refine lex_no (by rfl) ?_; (try simp only [Act.put, List.setIfInBounds_toArray, List.set_cons_zero, List.set_cons_succ])) | (refine lex_rd (by rfl) (by rfl) ?_; apply Exists.intro; refine ⟨fun w' hSw => ?_, ?_⟩; (focus ((try dsimp only at hSw); go_split_ands; go_simp; (first | done | with_reducible rfl))); (try simp only [Act.put, List.setIfInBounds_toArray, List.set_cons_zero, List.set_cons_succ]))))
            refine lex_call (by rfl) (by rfl) (fun K hK => ?_)
            go_simp
            go_at_fn g2
            with_reducible refine (HCY.out _ (HTA2.out _ hTA)).calls1.mono ?_
            rintro e wB (⟨rfl, hTB, hkB⟩ | ⟨rfl | ⟨chB, rfl⟩, hXB⟩)
            · have KB : Kept a b wr wB := KA.trans hkB
              refine hK (fun W => W.cell? ⟨w.heap.size, 4, none⟩ = some (.slice (some ⟨br, or_, none⟩) s.right.length s.rC) ∧ W.cell? ⟨w.heap.size, 5, none⟩ = some (.slice (some ⟨bb, ob, none⟩) s.blocks.length s.bC) ∧ W.cell? ⟨w.heap.size + 1, 0, none⟩ = some (.func (.func g1) fi1 cp1) ∧ W.cell? ⟨w.heap.size + 1 + 1, 0, none⟩ = some (.func (.func g2) fi2 cp2) ∧ W.cell? ⟨br, or_ + k * 8, none⟩ = some (.int .i64 x.k) ∧ W.cell? ⟨br, or_ + k * 8 + 1, none⟩ = some (.int .i64 x.op) ∧ W.cell? ⟨br, or_ + k * 8 + 2, none⟩ = some (.int .i64 x.ln) ∧ W.cell? ⟨br, or_ + k * 8 + 3, none⟩ = some (.int .i64 x.p) ∧ W.cell? ⟨br, or_ + k * 8 + 4, none⟩ = some (.int .i64 x.q) ∧ W.cell? ⟨br, or_ + k * 8 + 5, none⟩ = some (.string x.s) ∧ W.cell? ⟨br, or_ + k * 8 + 6, none⟩ = some (.slice x.aA x.args.length x.aC) ∧ W.cell? ⟨br, or_ + k * 8 + 7, none⟩ = some (.slice x.fA x.funcs.length x.fC) ∧ W.cell? ⟨bb, ob + k, none⟩ = some (.slice y.a y.l.length y.c)) _ _ ⟨(KB.cell e0 e4 hbw), (KB.cell e0 e5 hbw), (KB.cell e7 e7 (by omega)), (KB.cell e8 e8 (by omega)), (kept_old KB hbr x0), (kept_old KB hbr x1), (kept_old KB hbr x2), (kept_old KB hbr x3), (kept_old KB hbr x4), (kept_old KB hbr x5), (kept_old KB hbr x6), (kept_old KB hbr x7), (kept_old KB hbb y0)⟩ ?_
              clear hK K
              (try simp only [Act.put, List.setIfInBounds_toArray, List.set_cons_zero, List.set_cons_succ])
              (repeat (first | (refine lex_no (by rfl) ?_; (try simp only [Act.put, List.setIfInBounds_toArray, List.set_cons_zero, List.set_cons_succ])) | (refine lex_rd (by rfl) (by rfl) ?_; apply Exists.intro; refine ⟨fun w' hSw => ?_, ?_⟩; (focus ((try dsimp only at hSw); go_split_ands; go_simp; (first | done | with_reducible rfl))); (try simp only [Act.put, List.setIfInBounds_toArray, List.set_cons_zero, List.set_cons_succ]))))
              refine lex_nil ?_
              go_wp2_with fail
              refine ⟨?_, by simp [intOf]; omega⟩
              repeat (apply Exists.intro)
              refine And.intro ?_ ?_
              rotate_left
              · (try rw [hra]); (try rw [hba]); (try rfl)
              exact ⟨k + 1, by omega, by go_num, (by have h := hTB; rwa [show s.left.length + (min (k + 1) s.right.length + k) + 1 = s.left.length + (min (k + 1) s.right.length + min (k + 1) s.blocks.length) by omega] at h), HE.out.trans KB, HB.out.kept KB hbw⟩
            · have HXB := Lib.hid hXB
              clear hXB
              refine hK (fun _ => True) _ _ trivial ?_
              clear hK K
              (try simp only [Act.put, List.setIfInBounds_toArray, List.set_cons_zero, List.set_cons_succ])
              (repeat (first | (refine lex_no (by rfl) ?_; (try simp only [Act.put, List.setIfInBounds_toArray, List.set_cons_zero, List.set_cons_succ])) | (refine lex_rd (by rfl) (by rfl) ?_; apply Exists.intro; refine ⟨fun w' hSw => ?_, ?_⟩; (focus ((try dsimp only at hSw); go_split_ands; go_simp; (first | done | with_reducible rfl))); (try simp only [Act.put, List.setIfInBounds_toArray, List.set_cons_zero, List.set_cons_succ]))))
              refine lex_nil ?_
              go_wp2_with fail
              go_returns
              exact .inr ⟨.inl rfl, HXB.out⟩
            · exact ⟨rfl, .inr ⟨.inr ⟨chB, rfl⟩, hXB⟩⟩
          · have HXA := Lib.hid hXA
            clear hXA
            refine hK (fun _ => True) _ _ trivial ?_
            clear hK K
            (try simp only [Act.put, List.setIfInBounds_toArray, List.set_cons_zero, List.set_cons_succ])
            (repeat (first | (refine lex_no (by rfl) ?_; (try simp only [Act.put, List.setIfInBounds_toArray, List.set_cons_zero, List.set_cons_succ])) | (refine lex_rd (by rfl) (by rfl) ?_; apply Exists.intro; refine ⟨fun w' hSw => ?_, ?_⟩; (focus ((try dsimp only at hSw); go_split_ands; go_simp; (first | done | with_reducible rfl))); (try simp only [Act.put, List.setIfInBounds_toArray, List.set_cons_zero, List.set_cons_succ]))))
            refine lex_nil ?_
            go_wp2_with fail
            go_returns
            exact .inr ⟨.inl rfl, HXA.out⟩
          · exact ⟨rfl, .inr ⟨.inr ⟨chA, rfl⟩, hXA⟩⟩
        · have HK1 : Hid (J (p + (s.left.length + (min (k + 1) s.right.length + k))) wr) := by have h := HK.out; rwa [show min k s.right.length + min k s.blocks.length = (min (k + 1) s.right.length + k) by omega] at h
          obtain ⟨bb, ob, hba, hbb, hcy, -⟩ := (HIN.out.bs.still (HE.out.still (Nat.le_refl _)) (Nat.le_refl _)).at_ hy
          rw [hba] at e5
          obtain ⟨y, hye⟩ : ∃ y, s.blocks[k] = y := ⟨_, rfl⟩
          have HCY := Lib.hid (fun W => hye ▸ HY.out k hy W)
          rw [hye] at hcy
          have y0 : wr.cell? ⟨bb, ob + k, none⟩ = some (.slice y.a y.l.length y.c) := hcy
          clear hcy hye
          go_wp2_with fail
          refine wp_region_lex (fun W => W.cell? ⟨w.heap.size, 4, none⟩ = some (.slice s.rA s.right.length s.rC) ∧ W.cell? ⟨w.heap.size, 5, none⟩ = some (.slice (some ⟨bb, ob, none⟩) s.blocks.length s.bC) ∧ W.cell? ⟨w.heap.size + 1, 0, none⟩ = some (.func (.func g1) fi1 cp1) ∧ W.cell? ⟨w.heap.size + 1 + 1, 0, none⟩ = some (.func (.func g2) fi2 cp2) ∧ W.cell? ⟨bb, ob + k, none⟩ = some (.slice y.a y.l.length y.c)) (by kernel_rfl) (by kernel_rfl) (panic_put (fun _ _ _ _ _ h => h)) ⟨e4, e5, e7, e8, y0⟩ ?_
          (repeat (first | (refine lex_no (by rfl) ?_; (try simp only [Act.put, List.setIfInBounds_toArray, List.set_cons_zero, List.set_cons_succ])) | (refine lex_rd (by rfl) (by rfl) ?_; apply Exists.intro; refine ⟨fun w' hSw => ?_, ?_⟩; (focus ((try dsimp only at hSw); go_split_ands; go_simp; (first | done | with_reducible rfl))); (try simp only [Act.put, List.setIfInBounds_toArray, List.set_cons_zero, List.set_cons_succ]))))
          refine lex_call (by rfl) (by rfl) (fun K hK => ?_)
          go_simp
          go_at_fn g2
          with_reducible refine (HCY.out _ (HJ.out _ wr _ HK1.out ?_)).calls1.mono ?_
          · (repeat' (first | (with_reducible exact Below.refl _ _) | (with_reducible assumption) | (with_reducible refine Below.alloc ?_ ?_ _) | (with_reducible refine below_drewN ?_ _) | (with_reducible refine Below.drew ?_) | (with_reducible refine Below.setCell ?_ ?_ _) | (with_reducible refine below_via (by assumption) ?_ ?_) | (with_reducible refine below_via (later_below _) ?_ ?_) | (with_reducible exact Nat.le_refl _) | omega | (simp; omega) | (simp; done)))
          rintro e wB (⟨rfl, hTB, hkB⟩ | ⟨rfl | ⟨chB, rfl⟩, hXB⟩)
          · have KB : Kept a b wr wB := (kept_of (Below.drew (Below.refl _ _)) (by omega)).trans hkB
            refine hK (fun W => W.cell? ⟨w.heap.size, 4, none⟩ = some (.slice s.rA s.right.length s.rC) ∧ W.cell? ⟨w.heap.size, 5, none⟩ = some (.slice (some ⟨bb, ob, none⟩) s.blocks.length s.bC) ∧ W.cell? ⟨w.heap.size + 1, 0, none⟩ = some (.func (.func g1) fi1 cp1) ∧ W.cell? ⟨w.heap.size + 1 + 1, 0, none⟩ = some (.func (.func g2) fi2 cp2) ∧ W.cell? ⟨bb, ob + k, none⟩ = some (.slice y.a y.l.length y.c)) _ _ ⟨(KB.cell e0 e4 hbw), (KB.cell e0 e5 hbw), (KB.cell e7 e7 (by omega)), (KB.cell e8 e8 (by omega)), (kept_old KB hbb y0)⟩ ?_
            clear hK K
            (try simp only [Act.put, List.setIfInBounds_toArray, List.set_cons_zero, List.set_cons_succ])
            (repeat (first | (refine lex_no (by rfl) ?_; (try simp only [Act.put, List.setIfInBounds_toArray, List.set_cons_zero, List.set_cons_succ])) | (refine lex_rd (by rfl) (by rfl) ?_; apply Exists.intro; refine ⟨fun w' hSw => ?_, ?_⟩; (focus ((try dsimp only at hSw); go_split_ands; go_simp; (first | done | with_reducible rfl))); (try simp only [Act.put, List.setIfInBounds_toArray, List.set_cons_zero, List.set_cons_succ]))))
            refine lex_nil ?_
            go_wp2_with fail
            refine ⟨?_, by simp [intOf]; omega⟩
            repeat (apply Exists.intro)
            refine And.intro ?_ ?_
            rotate_left
            · (try rw [hba]); (try rfl)
            exact ⟨k + 1, by omega, by go_num, (by have h := hTB; rwa [show s.left.length + (min (k + 1) s.right.length + k) + 1 = s.left.length + (min (k + 1) s.right.length + min (k + 1) s.blocks.length) by omega] at h), HE.out.trans KB, HB.out.kept KB hbw⟩
          · have HXB := Lib.hid hXB
            clear hXB
            refine hK (fun _ => True) _ _ trivial ?_
            clear hK K
            (try simp only [Act.put, List.setIfInBounds_toArray, List.set_cons_zero, List.set_cons_succ])
            (repeat (first | (refine lex_no (by rfl) ?_; (try simp only [Act.put, List.setIfInBounds_toArray, List.set_cons_zero, List.set_cons_succ])) | (refine lex_rd (by rfl) (by rfl) ?_; apply Exists.intro; refine ⟨fun w' hSw => ?_, ?_⟩; (focus ((try dsimp only at hSw); go_split_ands; go_simp; (first | done | with_reducible rfl))); (try simp only [Act.put, List.setIfInBounds_toArray, List.set_cons_zero, List.set_cons_succ]))))
            refine lex_nil ?_
            go_wp2_with fail
            go_returns
            exact .inr ⟨.inl rfl, HXB.out⟩
          · exact ⟨rfl, .inr ⟨.inr ⟨chB, rfl⟩, hXB⟩⟩
      · go_wp2_with fail
        go_returns
        exact .inl ⟨rfl, (by have h := HK.out; rwa [show min k s.right.length + min k s.blocks.length = s.right.length + s.blocks.length by omega] at h), HE.out⟩
  · go_wp2_with fail
    go_returns
    exact .inr ⟨.inl rfl, hX⟩
  · exact ⟨rfl, .inr ⟨.inr ⟨ch, rfl⟩, hX⟩⟩
set_option maxHeartbeats 3200000 in
set_option maxRecDepth 100000 in
theorem stats_if2 (hk8 : s.k = 8) (hRB : s.blocks.length ≤ s.right.length) (h0 : J p w) : Calls Tryz.prog 34 #[s.v, fe, fb] w (RJ a b (J (p + (partsS s).length)) X w) := by
  have hp : partsS s = s.left.map .inl ++ zipP s.right s.blocks := by unfold partsS; rw [if_neg (by omega), if_pos hk8]
  have H1 := stats_part1 a b p J X fe fb s w hab hbw hfe hJ H 0 s.left s.lA s.lC hin.lf (fun j h => by rw [hp, Nat.zero_add, List.getElem?_append_left (by simpa using h)]; simp [h])
  have HX : Hid (∀ i (h : i < s.right.length) W, J (p + (s.left.length + (i + min i s.blocks.length))) W → CB fe #[(s.right[i]).v] W (RJ a b (J (p + (s.left.length + (i + min i s.blocks.length) + 1))) X W)) := fun i h W hW => H (s.left.length + (i + min i s.blocks.length)) (.inl s.right[i]) (by rw [hp, List.getElem?_append_right (by simp)]; simp only [List.length_map, Nat.add_sub_cancel_left]; exact zipP_x _ _ i h) W hW
  have HY : Hid (∀ i (h : i < s.blocks.length) W, J (p + (s.left.length + (min (i + 1) s.right.length + i))) W → CB fb #[(s.blocks[i]).v] W (RJ a b (J (p + (s.left.length + (min (i + 1) s.right.length + i) + 1))) X W)) := fun i h W hW => H (s.left.length + (min (i + 1) s.right.length + i)) (.inr s.blocks[i]) (by rw [hp, List.getElem?_append_right (by simp)]; simp only [List.length_map, Nat.add_sub_cancel_left]; exact zipP_b _ _ i h) W hW
  have hlen : p + (partsS s).length = p + (s.left.length + (s.right.length + s.blocks.length)) := by rw [hp, List.length_append, zipP_len]; simp
  rw [hlen]
  have HJ := Lib.hid hJ
  have H0 := Lib.hid h0
  have HIN := Lib.hid hin
  obtain ⟨r1, r2, -⟩ := hin.rt.1
  obtain ⟨q1, q2, -⟩ := hin.bs.1
  have hR : (s.right.length : Int) ≤ 9223372036854775807 := by omega
  have hBl : (s.blocks.length : Int) ≤ 9223372036854775807 := by omega
  have d7 : (s.k == 7) = false := by simp; omega
  have d8 : (s.k == 8) = true := by simpa using hk8
  obtain ⟨g1, fi1, cp1, rfl, hg1⟩ := hfe
  obtain ⟨g2, fi2, cp2, rfl, hg2⟩ := hfb
  clear H hJ hp h0 hlen hin hk8
  have HB0 := Lib.hid (Bx.new s (.func (.func g1) fi1 cp1) (.func (.func g2) fi2 cp2) w 41 53 73)
  go_enter Tryz.func34, Tryz.ntmps34
  go_wp2_with fail
  refine (H1.out _ HB0.out (kept_of (by (repeat' (first | (with_reducible exact Below.refl _ _) | (with_reducible assumption) | (with_reducible refine Below.alloc ?_ ?_ _) | (with_reducible refine below_drewN ?_ _) | (with_reducible refine Below.drew ?_) | (with_reducible refine Below.setCell ?_ ?_ _) | (with_reducible refine below_via (by assumption) ?_ ?_) | (with_reducible refine below_via (later_below _) ?_ ?_) | (with_reducible exact Nat.le_refl _) | omega | (simp; omega) | (simp; done)))) (by omega)) (HJ.out p w _ H0.out (by (repeat' (first | (with_reducible exact Below.refl _ _) | (with_reducible assumption) | (with_reducible refine Below.alloc ?_ ?_ _) | (with_reducible refine below_drewN ?_ _) | (with_reducible refine Below.drew ?_) | (with_reducible refine Below.setCell ?_ ?_ _) | (with_reducible refine below_via (by assumption) ?_ ?_) | (with_reducible refine below_via (later_below _) ?_ ?_) | (with_reducible exact Nat.le_refl _) | omega | (simp; omega) | (simp; done)))))).mono ?_
  rintro e w1 (⟨rfl, hT1, hk1⟩ | ⟨rfl | ⟨ch, rfl⟩, hX⟩)
  · have hB1 := HB0.out.kept hk1 hbw
    have HB1 := Lib.hid hB1
    have HK1 : Hid (Kept a b w w1) := (kept_of (by (repeat' (first | (with_reducible exact Below.refl _ _) | (with_reducible assumption) | (with_reducible refine Below.alloc ?_ ?_ _) | (with_reducible refine below_drewN ?_ _) | (with_reducible refine Below.drew ?_) | (with_reducible refine Below.setCell ?_ ?_ _) | (with_reducible refine below_via (by assumption) ?_ ?_) | (with_reducible refine below_via (later_below _) ?_ ?_) | (with_reducible exact Nat.le_refl _) | omega | (simp; omega) | (simp; done)))) (by omega)).trans hk1
    have HT1 : Hid (J (p + s.left.length) w1) := by have h := hT1; rwa [Nat.add_zero] at h
    obtain ⟨⟨b0, b1, b2, b3, b4, b5, b6⟩, b7, b8⟩ := hB1
    have hz1 := cell_lt b8
    clear hk1 hT1
    go_wp2_with fail
    go_loopw [40] (fun i wr => ∃ k : Nat, k ≤ max s.right.length s.blocks.length ∧ i = .int .i64 k ∧ Hid (J (p + (s.left.length + (min k s.right.length + min k s.blocks.length))) wr) ∧ Hid (Kept a b w wr) ∧ Hid (Bx w.heap.size s (.func (.func g1) fi1 cp1) (.func (.func g2) fi2 cp2) wr)) (fun i _ => max s.right.length s.blocks.length - (intOf i).toNat)
    case atStart => exact ⟨0, Nat.zero_le _, rfl, (by have h := HT1.out; simpa [Hid] using h), HK1.out, HB1.out⟩
    case round =>
      obtain ⟨k, hk, rfl, HK, HE, HB⟩ := hrel
      obtain ⟨⟨e0, e1, e2, e3, e4, e5, e6⟩, e7, e8⟩ := HB.out
      have hzr := cell_lt e8
      by_cases hx : k < s.right.length
      · by_cases hy : k < s.blocks.length
        · have HK1 : Hid (J (p + (s.left.length + (k + min k s.blocks.length))) wr) := by have h := HK.out; rwa [show min k s.right.length + min k s.blocks.length = (k + min k s.blocks.length) by omega] at h
          obtain ⟨br, or_, hra, hbr, hcx, -⟩ := (HIN.out.rt.still (HE.out.still (Nat.le_refl _)) (Nat.le_refl _)).at_ hx
          rw [hra] at e4
          obtain ⟨x, hxe⟩ : ∃ x, s.right[k] = x := ⟨_, rfl⟩
          have HCX := Lib.hid (fun W => hxe ▸ HX.out k hx W)
          rw [hxe] at hcx
          clear hxe
          obtain ⟨bb, ob, hba, hbb, hcy, -⟩ := (HIN.out.bs.still (HE.out.still (Nat.le_refl _)) (Nat.le_refl _)).at_ hy
          rw [hba] at e5
          obtain ⟨y, hye⟩ : ∃ y, s.blocks[k] = y := ⟨_, rfl⟩
          have HCY := Lib.hid (fun W => hye ▸ HY.out k hy W)
          rw [hye] at hcy
          have y0 : wr.cell? ⟨bb, ob + k, none⟩ = some (.slice y.a y.l.length y.c) := hcy
          clear hcy hye
          obtain ⟨x0, x1, x2, x3, x4, x5, x6, x7⟩ := hcx
          have hTA2 : ∀ W, J (p + (s.left.length + (k + min k s.blocks.length) + 1)) W → J (p + (s.left.length + (min (k + 1) s.right.length + k))) W := fun W h => by rwa [show s.left.length + (k + min k s.blocks.length) + 1 = s.left.length + (min (k + 1) s.right.length + k) by omega] at h
          have HTA2 := Lib.hid hTA2
          clear hTA2
          go_wp2_with fail
          refine wp_region_lex (fun W => W.cell? ⟨w.heap.size, 4, none⟩ = some (.slice (some ⟨br, or_, none⟩) s.right.length s.rC) ∧ W.cell? ⟨w.heap.size, 5, none⟩ = some (.slice (some ⟨bb, ob, none⟩) s.blocks.length s.bC) ∧ W.cell? ⟨w.heap.size + 1, 0, none⟩ = some (.func (.func g1) fi1 cp1) ∧ W.cell? ⟨w.heap.size + 1 + 1, 0, none⟩ = some (.func (.func g2) fi2 cp2) ∧ W.cell? ⟨br, or_ + k * 8, none⟩ = some (.int .i64 x.k) ∧ W.cell? ⟨br, or_ + k * 8 + 1, none⟩ = some (.int .i64 x.op) ∧ W.cell? ⟨br, or_ + k * 8 + 2, none⟩ = some (.int .i64 x.ln) ∧ W.cell? ⟨br, or_ + k * 8 + 3, none⟩ = some (.int .i64 x.p) ∧ W.cell? ⟨br, or_ + k * 8 + 4, none⟩ = some (.int .i64 x.q) ∧ W.cell? ⟨br, or_ + k * 8 + 5, none⟩ = some (.string x.s) ∧ W.cell? ⟨br, or_ + k * 8 + 6, none⟩ = some (.slice x.aA x.args.length x.aC) ∧ W.cell? ⟨br, or_ + k * 8 + 7, none⟩ = some (.slice x.fA x.funcs.length x.fC) ∧ W.cell? ⟨bb, ob + k, none⟩ = some (.slice y.a y.l.length y.c)) (by kernel_rfl) (by kernel_rfl) (panic_put (fun _ _ _ _ _ h => h)) ⟨e4, e5, e7, e8, x0, x1, x2, x3, x4, x5, x6, x7, y0⟩ ?_
          (repeat (first | (refine lex_no (by rfl) ?_; (try simp only [Act.put, List.setIfInBounds_toArray, List.set_cons_zero, List.set_cons_succ])) | (refine lex_rd (by rfl) (by rfl) ?_; apply Exists.intro; refine ⟨fun w' hSw => ?_, ?_⟩; (focus ((try dsimp only at hSw); go_split_ands; go_simp; (first | done | with_reducible rfl))); (try simp only [Act.put, List.setIfInBounds_toArray, List.set_cons_zero, List.set_cons_succ]))))
          refine lex_call (by rfl) (by rfl) (fun K hK => ?_)
          go_simp
          go_at_fn g1
          with_reducible refine (HCX.out _ (HJ.out _ wr _ HK1.out ?_)).calls1.mono ?_
          · (repeat' (first | (with_reducible exact Below.refl _ _) | (with_reducible assumption) | (with_reducible refine Below.alloc ?_ ?_ _) | (with_reducible refine below_drewN ?_ _) | (with_reducible refine Below.drew ?_) | (with_reducible refine Below.setCell ?_ ?_ _) | (with_reducible refine below_via (by assumption) ?_ ?_) | (with_reducible refine below_via (later_below _) ?_ ?_) | (with_reducible exact Nat.le_refl _) | omega | (simp; omega) | (simp; done)))
          rintro e wA (⟨rfl, hTA, hkA⟩ | ⟨rfl | ⟨chA, rfl⟩, hXA⟩)
          · have KA : Kept a b wr wA := (kept_of (Below.drew (Below.refl _ _)) (by omega)).trans hkA
            refine hK (fun W => W.cell? ⟨w.heap.size, 4, none⟩ = some (.slice (some ⟨br, or_, none⟩) s.right.length s.rC) ∧ W.cell? ⟨w.heap.size, 5, none⟩ = some (.slice (some ⟨bb, ob, none⟩) s.blocks.length s.bC) ∧ W.cell? ⟨w.heap.size + 1, 0, none⟩ = some (.func (.func g1) fi1 cp1) ∧ W.cell? ⟨w.heap.size + 1 + 1, 0, none⟩ = some (.func (.func g2) fi2 cp2) ∧ W.cell? ⟨br, or_ + k * 8, none⟩ = some (.int .i64 x.k) ∧ W.cell? ⟨br, or_ + k * 8 + 1, none⟩ = some (.int .i64 x.op) ∧ W.cell? ⟨br, or_ + k * 8 + 2, none⟩ = some (.int .i64 x.ln) ∧ W.cell? ⟨br, or_ + k * 8 + 3, none⟩ = some (.int .i64 x.p) ∧ W.cell? ⟨br, or_ + k * 8 + 4, none⟩ = some (.int .i64 x.q) ∧ W.cell? ⟨br, or_ + k * 8 + 5, none⟩ = some (.string x.s) ∧ W.cell? ⟨br, or_ + k * 8 + 6, none⟩ = some (.slice x.aA x.args.length x.aC) ∧ W.cell? ⟨br, or_ + k * 8 + 7, none⟩ = some (.slice x.fA x.funcs.length x.fC) ∧ W.cell? ⟨bb, ob + k, none⟩ = some (.slice y.a y.l.length y.c)) _ _ ⟨(KA.cell e0 e4 hbw), (KA.cell e0 e5 hbw), (KA.cell e7 e7 (by omega)), (KA.cell e8 e8 (by omega)), (kept_old KA hbr x0), (kept_old KA hbr x1), (kept_old KA hbr x2), (kept_old KA hbr x3), (kept_old KA hbr x4), (kept_old KA hbr x5), (kept_old KA hbr x6), (kept_old KA hbr x7), (kept_old KA hbb y0)⟩ ?_
            clear hK K
            (try simp only [Act.put, List.setIfInBounds_toArray, List.set_cons_zero, List.set_cons_succ])
            (repeat (first | (refine lex_no (by rfl) ?_; (try simp only [Act.put, List.setIfInBounds_toArray, List.set_cons_zero, List.set_cons_succ])) | (refine lex_rd (by rfl) (by rfl) ?_; apply Exists.intro; refine ⟨fun w' hSw => ?_, ?_⟩; (focus ((try dsimp only at hSw); go_split_ands; go_simp; (first | done | with_reducible rfl))); (try simp only [Act.put, List.setIfInBounds_toArray, List.set_cons_zero, List.set_cons_succ]))))
            refine lex_call (by rfl) (by rfl) (fun K hK => ?_)
            go_simp
            go_at_fn g2
            with_reducible refine (HCY.out _ (HTA2.out _ hTA)).calls1.mono ?_
            rintro e wB (⟨rfl, hTB, hkB⟩ | ⟨rfl | ⟨chB, rfl⟩, hXB⟩)
            · have KB : Kept a b wr wB := KA.trans hkB
              refine hK (fun W => W.cell? ⟨w.heap.size, 4, none⟩ = some (.slice (some ⟨br, or_, none⟩) s.right.length s.rC) ∧ W.cell? ⟨w.heap.size, 5, none⟩ = some (.slice (some ⟨bb, ob, none⟩) s.blocks.length s.bC) ∧ W.cell? ⟨w.heap.size + 1, 0, none⟩ = some (.func (.func g1) fi1 cp1) ∧ W.cell? ⟨w.heap.size + 1 + 1, 0, none⟩ = some (.func (.func g2) fi2 cp2) ∧ W.cell? ⟨br, or_ + k * 8, none⟩ = some (.int .i64 x.k) ∧ W.cell? ⟨br, or_ + k * 8 + 1, none⟩ = some (.int .i64 x.op) ∧ W.cell? ⟨br, or_ + k * 8 + 2, none⟩ = some (.int .i64 x.ln) ∧ W.cell? ⟨br, or_ + k * 8 + 3, none⟩ = some (.int .i64 x.p) ∧ W.cell? ⟨br, or_ + k * 8 + 4, none⟩ = some (.int .i64 x.q) ∧ W.cell? ⟨br, or_ + k * 8 + 5, none⟩ = some (.string x.s) ∧ W.cell? ⟨br, or_ + k * 8 + 6, none⟩ = some (.slice x.aA x.args.length x.aC) ∧ W.cell? ⟨br, or_ + k * 8 + 7, none⟩ = some (.slice x.fA x.funcs.length x.fC) ∧ W.cell? ⟨bb, ob + k, none⟩ = some (.slice y.a y.l.length y.c)) _ _ ⟨(KB.cell e0 e4 hbw), (KB.cell e0 e5 hbw), (KB.cell e7 e7 (by omega)), (KB.cell e8 e8 (by omega)), (kept_old KB hbr x0), (kept_old KB hbr x1), (kept_old KB hbr x2), (kept_old KB hbr x3), (kept_old KB hbr x4), (kept_old KB hbr x5), (kept_old KB hbr x6), (kept_old KB hbr x7), (kept_old KB hbb y0)⟩ ?_
              clear hK K
              (try simp only [Act.put, List.setIfInBounds_toArray, List.set_cons_zero, List.set_cons_succ])
              (repeat (first | (refine lex_no (by rfl) ?_; (try simp only [Act.put, List.setIfInBounds_toArray, List.set_cons_zero, List.set_cons_succ])) | (refine lex_rd (by rfl) (by rfl) ?_; apply Exists.intro; refine ⟨fun w' hSw => ?_, ?_⟩; (focus ((try dsimp only at hSw); go_split_ands; go_simp; (first | done | with_reducible rfl))); (try simp only [Act.put, List.setIfInBounds_toArray, List.set_cons_zero, List.set_cons_succ]))))
              refine lex_nil ?_
              go_wp2_with fail
              refine ⟨?_, by simp [intOf]; omega⟩
              repeat (apply Exists.intro)
              refine And.intro ?_ ?_
              rotate_left
              · (try rw [hra]); (try rw [hba]); (try rfl)
              exact ⟨k + 1, by omega, by go_num, (by have h := hTB; rwa [show s.left.length + (min (k + 1) s.right.length + k) + 1 = s.left.length + (min (k + 1) s.right.length + min (k + 1) s.blocks.length) by omega] at h), HE.out.trans KB, HB.out.kept KB hbw⟩
            · have HXB := Lib.hid hXB
              clear hXB
              refine hK (fun _ => True) _ _ trivial ?_
              clear hK K
              (try simp only [Act.put, List.setIfInBounds_toArray, List.set_cons_zero, List.set_cons_succ])
              (repeat (first | (refine lex_no (by rfl) ?_; (try simp only [Act.put, List.setIfInBounds_toArray, List.set_cons_zero, List.set_cons_succ])) | (refine lex_rd (by rfl) (by rfl) ?_; apply Exists.intro; refine ⟨fun w' hSw => ?_, ?_⟩; (focus ((try dsimp only at hSw); go_split_ands; go_simp; (first | done | with_reducible rfl))); (try simp only [Act.put, List.setIfInBounds_toArray, List.set_cons_zero, List.set_cons_succ]))))
              refine lex_nil ?_
              go_wp2_with fail
              go_returns
              exact .inr ⟨.inl rfl, HXB.out⟩
            · exact ⟨rfl, .inr ⟨.inr ⟨chB, rfl⟩, hXB⟩⟩
          · have HXA := Lib.hid hXA
            clear hXA
            refine hK (fun _ => True) _ _ trivial ?_
            clear hK K
            (try simp only [Act.put, List.setIfInBounds_toArray, List.set_cons_zero, List.set_cons_succ])
            (repeat (first | (refine lex_no (by rfl) ?_; (try simp only [Act.put, List.setIfInBounds_toArray, List.set_cons_zero, List.set_cons_succ])) | (refine lex_rd (by rfl) (by rfl) ?_; apply Exists.intro; refine ⟨fun w' hSw => ?_, ?_⟩; (focus ((try dsimp only at hSw); go_split_ands; go_simp; (first | done | with_reducible rfl))); (try simp only [Act.put, List.setIfInBounds_toArray, List.set_cons_zero, List.set_cons_succ]))))
            refine lex_nil ?_
            go_wp2_with fail
            go_returns
            exact .inr ⟨.inl rfl, HXA.out⟩
          · exact ⟨rfl, .inr ⟨.inr ⟨chA, rfl⟩, hXA⟩⟩
        · have HK1 : Hid (J (p + (s.left.length + (k + min k s.blocks.length))) wr) := by have h := HK.out; rwa [show min k s.right.length + min k s.blocks.length = (k + min k s.blocks.length) by omega] at h
          obtain ⟨br, or_, hra, hbr, hcx, -⟩ := (HIN.out.rt.still (HE.out.still (Nat.le_refl _)) (Nat.le_refl _)).at_ hx
          rw [hra] at e4
          obtain ⟨x, hxe⟩ : ∃ x, s.right[k] = x := ⟨_, rfl⟩
          have HCX := Lib.hid (fun W => hxe ▸ HX.out k hx W)
          rw [hxe] at hcx
          clear hxe
          obtain ⟨x0, x1, x2, x3, x4, x5, x6, x7⟩ := hcx
          go_wp2_with fail
          refine wp_region_lex (fun W => W.cell? ⟨w.heap.size, 4, none⟩ = some (.slice (some ⟨br, or_, none⟩) s.right.length s.rC) ∧ W.cell? ⟨w.heap.size, 5, none⟩ = some (.slice s.bA s.blocks.length s.bC) ∧ W.cell? ⟨w.heap.size + 1, 0, none⟩ = some (.func (.func g1) fi1 cp1) ∧ W.cell? ⟨w.heap.size + 1 + 1, 0, none⟩ = some (.func (.func g2) fi2 cp2) ∧ W.cell? ⟨br, or_ + k * 8, none⟩ = some (.int .i64 x.k) ∧ W.cell? ⟨br, or_ + k * 8 + 1, none⟩ = some (.int .i64 x.op) ∧ W.cell? ⟨br, or_ + k * 8 + 2, none⟩ = some (.int .i64 x.ln) ∧ W.cell? ⟨br, or_ + k * 8 + 3, none⟩ = some (.int .i64 x.p) ∧ W.cell? ⟨br, or_ + k * 8 + 4, none⟩ = some (.int .i64 x.q) ∧ W.cell? ⟨br, or_ + k * 8 + 5, none⟩ = some (.string x.s) ∧ W.cell? ⟨br, or_ + k * 8 + 6, none⟩ = some (.slice x.aA x.args.length x.aC) ∧ W.cell? ⟨br, or_ + k * 8 + 7, none⟩ = some (.slice x.fA x.funcs.length x.fC)) (by kernel_rfl) (by kernel_rfl) (panic_put (fun _ _ _ _ _ h => h)) ⟨e4, e5, e7, e8, x0, x1, x2, x3, x4, x5, x6, x7⟩ ?_
          (repeat (first | (refine lex_no (by rfl) ?_; (try simp only [Act.put, List.setIfInBounds_toArray, List.set_cons_zero, List.set_cons_succ])) | (refine lex_rd (by rfl) (by rfl) ?_; apply Exists.intro; refine ⟨fun w' hSw => ?_, ?_⟩; (focus ((try dsimp only at hSw); go_split_ands; go_simp; (first | done | with_reducible rfl))); (try simp only [Act.put, List.setIfInBounds_toArray, List.set_cons_zero, List.set_cons_succ]))))
          refine lex_call (by rfl) (by rfl) (fun K hK => ?_)
          go_simp
          go_at_fn g1
          with_reducible refine (HCX.out _ (HJ.out _ wr _ HK1.out ?_)).calls1.mono ?_
          · (repeat' (first | (with_reducible exact Below.refl _ _) | (with_reducible assumption) | (with_reducible refine Below.alloc ?_ ?_ _) | (with_reducible refine below_drewN ?_ _) | (with_reducible refine Below.drew ?_) | (with_reducible refine Below.setCell ?_ ?_ _) | (with_reducible refine below_via (by assumption) ?_ ?_) | (with_reducible refine below_via (later_below _) ?_ ?_) | (with_reducible exact Nat.le_refl _) | omega | (simp; omega) | (simp; done)))
          rintro e wA (⟨rfl, hTA, hkA⟩ | ⟨rfl | ⟨chA, rfl⟩, hXA⟩)
          · have KA : Kept a b wr wA := (kept_of (Below.drew (Below.refl _ _)) (by omega)).trans hkA
            refine hK (fun W => W.cell? ⟨w.heap.size, 4, none⟩ = some (.slice (some ⟨br, or_, none⟩) s.right.length s.rC) ∧ W.cell? ⟨w.heap.size, 5, none⟩ = some (.slice s.bA s.blocks.length s.bC) ∧ W.cell? ⟨w.heap.size + 1, 0, none⟩ = some (.func (.func g1) fi1 cp1) ∧ W.cell? ⟨w.heap.size + 1 + 1, 0, none⟩ = some (.func (.func g2) fi2 cp2) ∧ W.cell? ⟨br, or_ + k * 8, none⟩ = some (.int .i64 x.k) ∧ W.cell? ⟨br, or_ + k * 8 + 1, none⟩ = some (.int .i64 x.op) ∧ W.cell? ⟨br, or_ + k * 8 + 2, none⟩ = some (.int .i64 x.ln) ∧ W.cell? ⟨br, or_ + k * 8 + 3, none⟩ = some (.int .i64 x.p) ∧ W.cell? ⟨br, or_ + k * 8 + 4, none⟩ = some (.int .i64 x.q) ∧ W.cell? ⟨br, or_ + k * 8 + 5, none⟩ = some (.string x.s) ∧ W.cell? ⟨br, or_ + k * 8 + 6, none⟩ = some (.slice x.aA x.args.length x.aC) ∧ W.cell? ⟨br, or_ + k * 8 + 7, none⟩ = some (.slice x.fA x.funcs.length x.fC)) _ _ ⟨(KA.cell e0 e4 hbw), (KA.cell e0 e5 hbw), (KA.cell e7 e7 (by omega)), (KA.cell e8 e8 (by omega)), (kept_old KA hbr x0), (kept_old KA hbr x1), (kept_old KA hbr x2), (kept_old KA hbr x3), (kept_old KA hbr x4), (kept_old KA hbr x5), (kept_old KA hbr x6), (kept_old KA hbr x7)⟩ ?_
            clear hK K
            (try simp only [Act.put, List.setIfInBounds_toArray, List.set_cons_zero, List.set_cons_succ])
            (repeat (first | (refine lex_no (by rfl) ?_; (try simp only [Act.put, List.setIfInBounds_toArray, List.set_cons_zero, List.set_cons_succ])) | (refine lex_rd (by rfl) (by rfl) ?_; apply Exists.intro; refine ⟨fun w' hSw => ?_, ?_⟩; (focus ((try dsimp only at hSw); go_split_ands; go_simp; (first | done | with_reducible rfl))); (try simp only [Act.put, List.setIfInBounds_toArray, List.set_cons_zero, List.set_cons_succ]))))
            refine lex_nil ?_
            go_wp2_with fail
            refine ⟨?_, by simp [intOf]; omega⟩
            repeat (apply Exists.intro)
            refine And.intro ?_ ?_
            rotate_left
            · (try rw [hra]); (try rfl)
            exact ⟨k + 1, by omega, by go_num, (by have h := hTA; rwa [show s.left.length + (k + min k s.blocks.length) + 1 = s.left.length + (min (k + 1) s.right.length + min (k + 1) s.blocks.length) by omega] at h), HE.out.trans KA, HB.out.kept KA hbw⟩
          · have HXA := Lib.hid hXA
            clear hXA
            refine hK (fun _ => True) _ _ trivial ?_
            clear hK K
            (try simp only [Act.put, List.setIfInBounds_toArray, List.set_cons_zero, List.set_cons_succ])
            (repeat (first | (refine lex_no (by rfl) ?_; (try simp only [Act.put, List.setIfInBounds_toArray, List.set_cons_zero, List.set_cons_succ])) | (refine lex_rd (by rfl) (by rfl) ?_; apply Exists.intro; refine ⟨fun w' hSw => ?_, ?_⟩; (focus ((try dsimp only at hSw); go_split_ands; go_simp; (first | done | with_reducible rfl))); (try simp only [Act.put, List.setIfInBounds_toArray, List.set_cons_zero, List.set_cons_succ]))))
            refine lex_nil ?_
            go_wp2_with fail
            go_returns
            exact .inr ⟨.inl rfl, HXA.out⟩
          · exact ⟨rfl, .inr ⟨.inr ⟨chA, rfl⟩, hXA⟩⟩
      · go_wp2_with fail
        go_returns
        exact .inl ⟨rfl, (by have h := HK.out; rwa [show min k s.right.length + min k s.blocks.length = s.right.length + s.blocks.length by omega] at h), HE.out⟩
  · go_wp2_with fail
    go_returns
    exact .inr ⟨.inl rfl, hX⟩
  · exact ⟨rfl, .inr ⟨.inr ⟨ch, rfl⟩, hX⟩⟩
end
end Go.Proofs.YtplphejillkdeaaGreatDoor
