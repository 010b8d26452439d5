/- The reference's Fixed: what each call returns. -/
import Derived.Test.YtfclmnglckikbaaGreatDoorMRefC
import Derived.Test.YtfclmnglckikbaaGreatDoorMRefA
import Derived.Deep.DeepCutAuto
import Derived.Test.YtfclmnglckikbaaGreatDoorMNumW16
namespace Go.Proofs.YtfclmnglckikbaaGreatDoor
open Go.RowKit
set_option linter.unusedVariables false

theorem dV_byte {ds : List Nat} (h : ∀ d ∈ ds, d < 10) : ds.map dV = (ds.map digC).map fun b => Value.int .u8 b.toNat := by
  rw [List.map_map]
  apply List.map_congr_left
  intro d hd
  simp only [Function.comp, dV, digC_nat d (h d hd)]
theorem up_no {q W l : Nat} {ds : List Nat} (h : 2 * l < q ∨ 2 * l = q ∧ tieN W ds ≠ 1) : upB q W l ds = false := by
  unfold upB
  rw [Bool.eq_false_iff]
  simp only [ne_eq, Bool.or_eq_true, decide_eq_true_eq, Bool.and_eq_true, beq_iff_eq]
  omega
theorem up_yes {q W l : Nat} {ds : List Nat} (h : q < 2 * l ∨ 2 * l = q ∧ tieN W ds = 1) : upB q W l ds = true := by
  unfold upB
  simp only [Bool.or_eq_true, decide_eq_true_eq, Bool.and_eq_true, beq_iff_eq]
  omega
theorem tie_mod (W : Nat) (ds : List Nat) : tieN W ds ≤ 1 := by unfold tieN; split <;> omega
theorem round_bd {q W l : Nat} {ds : List Nat} : (roundT q W l ds).1 ≤ W + 1 := by unfold roundT; split <;> (try split) <;> dsimp only <;> omega
theorem dec_cat (W : Nat) (ds : List Nat) (h : ds ≠ []) : mkS (Lib.itoa (W : Int)) ++ ⟨#[46]⟩ ++ mkS (ds.map digC) = mkS (bodyL W ds) := by
  rw [show (⟨#[46]⟩ : ByteArray) = mkS [46] from rfl, cat_mk, cat_mk]
  unfold bodyL
  rw [if_neg h]
  simp
theorem dec_none (W : Nat) : mkS (Lib.itoa (W : Int)) = mkS (bodyL W []) := by unfold bodyL; rw [if_pos rfl, List.append_nil]
theorem dec_pos (W : Nat) (ds : List Nat) : mkS (decL false (W : Int) ds) = mkS (bodyL W ds) := by unfold decL; rw [Bool.false_and, if_neg (by simp)]
theorem dec_min {W : Nat} {ds : List Nat} (h : zeroB (W : Int) ds = false) : mkS (decL true (W : Int) ds) = ⟨#[45]⟩ ++ mkS (bodyL W ds) := by
  unfold decL; rw [h, Bool.not_false, Bool.true_and, if_pos rfl, show (⟨#[45]⟩ : ByteArray) = mkS [45] from rfl, cat_mk]; rfl
theorem dec_zero {W : Nat} {ds : List Nat} (h : zeroB (W : Int) ds = true) : mkS (decL true (W : Int) ds) = mkS (bodyL W ds) := by
  unfold decL; rw [h, Bool.not_true, Bool.and_false, if_neg (by simp)]
abbrev RZeros (base : Nat) (v : Value) (xs : List Value) (b : Bool) : Prop := ∀ w, OwnF w base v xs → Calls Tryz.prog 98 #[v] w fun e w' => e = .returned (.bool b) ∧ w = w'
abbrev RInc (base : Nat) (v : Value) (xs : List Value) (b : Bool) (ys : List Value) : Prop := ∀ w, OwnF w base v xs → Calls Tryz.prog 96 #[v] w fun e w' => e = .returned (.tuple #[v, .bool b]) ∧ OwnF w' base v ys ∧ Below base w w'

set_option maxHeartbeats 8000000 in
set_option maxRecDepth 100000 in
theorem rfixed_pos (P Q n : Nat) (w : World) (hn : n ≤ 12) (hv : vldB (P) Q = true) :
    Calls Tryz.prog 74 #[.agg #[.int .i64 (P), .int .i64 Q], .int .i64 n] w fun e w' => e = .returned (.tuple #[.string (mkS (decL false (fixT P Q n).1 (fixT P Q n).2)), .int .i64 0]) ∧ Below w.heap.size w w' := by
  obtain ⟨b1, b2, b3, b4⟩ := vld_bd hv
  obtain ⟨i0, hi, hz0, hz1, hz2⟩ := info_parts uint8_info
  obtain ⟨W, R, hW, hR, hWe, hRe, hRQ, hWP⟩ := quo_rem P Q (by omega)
  have HFX : Hid (fixT P Q n = roundT Q W (leftN Q R n) (digsN Q R n)) := by rw [hWe, hRe]; rfl
  have HL := Lib.hid (leftN_lt Q R (by omega) hRQ)
  have HD := Lib.hid (digsN_lt Q R (by omega) hRQ n)
  clear hWe hRe
  go_enter Tryz.func74, Tryz.ntmps74
  go_wp2_with (first | (go_at_call 30; refine (rvalid_any _ _ _ (by omega) (by omega)).mono ?_; rintro e w1 ⟨rfl, hb⟩; (refine mem hb ?_; intro N hN hz hc hf; (try simp at hN); subst hN))) -- head
  have HB1 := Lib.hid hb
  have hc0 := hc w.heap.size 0
  have hc1 := hc w.heap.size 1
  rw [if_pos (by omega), cell_alloc_if, if_pos rfl] at hc0 hc1
  clear hb hc hf
  simp only [hR]
  go_loopw [8, 9, 10, 11] (fun left l last i wr => ∃ (k x : Nat), k ≤ n ∧ i = .int .i64 k ∧ left = .int .i64 (leftN Q R k) ∧ last = .int .i64 x ∧ x < 10 ∧ Hid (x % 2 = tieN W (digsN Q R k)) ∧ OwnF wr w1.heap.size l ((digsN Q R k).map dV) ∧ Below w1.heap.size w1 wr) (fun _ _ _ i _ => n - (intOf i).toNat)
  case atStart => exact ⟨0, W % 10, Nat.zero_le _, rfl, by simp only [leftN]; try (simp only [hR]), by first | rfl | (push_cast; rfl), by omega, by show _ = _; simp [digsN, tieN], OwnF.empty _ _ _ (Nat.le_refl _) (by simp), by (repeat' (first | (with_reducible exact Below.refl _ _) | (with_reducible assumption) | (with_reducible refine Below.alloc ?_ ?_ _) | (with_reducible refine below_drewN ?_ _) | (with_reducible refine Below.drew ?_) | (with_reducible refine Below.setCell ?_ ?_ _) | (with_reducible refine below_via (by assumption) ?_ ?_) | (with_reducible refine below_via (later_below _) ?_ ?_) | (with_reducible exact Nat.le_refl _) | omega | (simp; omega) | (simp; done)))⟩
  case round =>
    obtain ⟨k, x, hk, rfl, rfl, rfl, hx10, htie, hown, hbel⟩ := hrel
    have hq := (hbel.cell (p := ⟨w.heap.size, 1, none⟩) (by simp; omega)).trans hc1
    have hsz := hbel.size
    obtain ⟨a, cap, hsh⟩ := hown.shape
    rw [List.length_map, digsN_len] at hsh
    subst hsh
    by_cases hlt : k < n
    · have hlQ := HL.out k
      obtain ⟨l, hl⟩ : ∃ l, leftN Q R k = l := ⟨_, rfl⟩
      rw [hl] at hlQ
      have hl10 : ((l * 10 : Nat) : Int) = (l : Int) * 10 := by push_cast; rfl
      obtain ⟨d, l', hd, hl', hde, hle, hlQ', hdl⟩ := quo_rem (l * 10) Q (by omega)
      rw [hl10] at hd hl'
      have hd10 : d < 10 := by rw [hde]; exact dig_lt Q l hlQ
      have HL1 : Hid (leftN Q R (k + 1) = l') := by show leftN Q R k * 10 % Q = l'; rw [hl, hle]
      have HD1 : Hid (digsN Q R (k + 1) = digsN Q R k ++ [d]) := by rw [digsN_succ, hl, hde]; exact rfl
      have HO := Lib.hid hown
      have HB := Lib.hid hbel
      have HLL := Lib.hid hl
      clear hown hbel hde hle hl10 hl htie
      rw [HLL.out]
      go_wp2_with (first | (at_builtin; (refine wp_pushF rfl _ _ 96 rfl 5 i0 (.int .u8 0) 1 Tryz.underlying96 hi hz0 hz1 hz2 rfl w1.heap.size _ _ (HO.out.alloc _) rfl _ _ _ rfl (cell_new1 _ _ _) rfl ?_ ?_ ?_ ?_); (focus (simp <;> omega)); (focus (unfold maxLen; simp [digsN_len] <;> omega)); (focus (simp [digsN_len] <;> omega)); intro v' w' ho' hb'; (have hsz' := hb'.size); (simp at hsz'); (have HB2 : Hid (Below w1.heap.size w1 w') := (by (have hbel := HB.out); show Below _ _ _; (repeat' (first | (with_reducible exact Below.refl _ _) | (with_reducible assumption) | (with_reducible refine Below.alloc ?_ ?_ _) | (with_reducible refine below_drewN ?_ _) | (with_reducible refine Below.drew ?_) | (with_reducible refine Below.setCell ?_ ?_ _) | (with_reducible refine below_via (by assumption) ?_ ?_) | (with_reducible refine below_via (later_below _) ?_ ?_) | (with_reducible exact Nat.le_refl _) | omega | (simp; omega) | (simp; done))))); (have hq2 := (HB2.out.cell (p := ⟨w.heap.size, 1, none⟩) (by simp; omega)).trans hc1); (have HO' := Lib.hid ho'); clear ho' hb')) -- round
      refine ⟨⟨k + 1, d, hlt, by go_num, by rw [HL1.out]; try (simp only [hl']), by first | rfl | (simp only [hd]), hd10, ?_, ?_, HB2.out⟩, by simp [intOf] <;> omega⟩
      · show _ = _
        rw [HD1.out, tie_snoc]
      · rw [HD1.out, List.map_append]
        exact ownF_eq HO'.out rfl
    · obtain rfl : k = n := by omega
      have hp := (hbel.cell (p := ⟨w.heap.size, 0, none⟩) (by simp; omega)).trans hc0
      obtain ⟨l, hl⟩ : ∃ l, leftN Q R k = l := ⟨_, rfl⟩
      have hlQ := HL.out k
      rw [hl] at hlQ HFX ⊢
      obtain ⟨D, hDD⟩ : ∃ D, digsN Q R k = D := ⟨_, rfl⟩
      have hDlen := digsN_len Q R k
      rw [hDD] at hDlen HFX HD hown htie
      have HO := Lib.hid hown
      have HB := Lib.hid hbel
      have HDL := Lib.hid hDlen
      clear hown hbel hDD hl HL hW hR hDlen
      have HC0 := Lib.hid hc0
      have HC1 := Lib.hid hc1
      clear hc0 hc1
      go_upto_region 17 with fail
      go_cut [80] (fun s wx => s = .bool (upB Q W l D) ∧ wx = wr)
      case first =>
        have hcs : 2 * l < Q ∨ Q < 2 * l ∨ 2 * l = Q ∧ x % 2 = 1 ∨ 2 * l = Q ∧ x % 2 = 0 := by omega
        rcases hcs with h | h | ⟨h, h2⟩ | ⟨h, h2⟩
        · have hu := Lib.hid (up_no (q := Q) (W := W) (l := l) (ds := D) (.inl h))
          go_wp2_with fail
          go_meet
          exact ⟨by rw [hu.out]; try (first | rfl | (simp; done) | (simp; omega)), rfl⟩
        · have hu := Lib.hid (up_yes (q := Q) (W := W) (l := l) (ds := D) (.inl h))
          go_wp2_with fail
          go_meet
          exact ⟨by rw [hu.out]; try (first | rfl | (simp; done) | (simp; omega)), rfl⟩
        · have hu := Lib.hid (up_yes (q := Q) (W := W) (l := l) (ds := D) (.inr ⟨h, by rw [← htie.out]; exact h2⟩))
          have h3 : ((x : Int) % 2 == 1) = true := by simp; omega
          clear h2
          go_wp2_with fail
          go_meet
          exact ⟨by rw [hu.out]; try (first | rfl | (simp; done) | (simp; omega)), rfl⟩
        · have hu := Lib.hid (up_no (q := Q) (W := W) (l := l) (ds := D) (.inr ⟨h, by rw [← htie.out]; omega⟩))
          have h3 : ((x : Int) % 2 == 1) = false := by simp; omega
          clear h2
          go_wp2_with fail
          go_meet
          exact ⟨by rw [hu.out]; try (first | rfl | (simp; done) | (simp; omega)), rfl⟩
      case rest =>
        obtain ⟨rfl, rfl⟩ := hcut
        have HR : Hid (upB Q W l D = true → roundT Q W l D = (if (incL D).2 then W + 1 else W, (incL D).1)) := fun h => by unfold roundT; rw [if_pos h]
        have HRN : Hid (upB Q W l D = false → roundT Q W l D = (W, D)) := fun h => by unfold roundT; rw [h]; rfl
        obtain ⟨u, hu⟩ : ∃ u, upB Q W l D = u := ⟨_, rfl⟩
        rw [hu] at HR HRN ⊢
        have HINC : Hid (RInc w1.heap.size (.slice a k cap) (D.map dV) (incL D).2 ((incL D).1.map dV)) := fun w2 ho => rinc_any D HD.out (by rw [HDL.out]; exact hn) _ _ w2 ho
        obtain ⟨c, hc⟩ : ∃ c, (incL D).2 = c := ⟨_, rfl⟩
        rw [hc] at HINC HR
        clear hu hc
        go_upto_if 80 with fail
        go_cut [7, 9, 12, 13] (fun s7 s9 s12 s13 wx => ∃ (W' : Nat) (D' : List Nat), s7 = .int .i64 W' ∧ W' ≤ 2147483648 ∧ Hid (roundT Q W l D = (W', D')) ∧ s9 = .slice a k cap ∧ Hid (D'.length = k ∧ ∀ d ∈ D', d < 10) ∧ OwnF wx w1.heap.size (.slice a k cap) (D'.map dV) ∧ Below w1.heap.size w1 wx)
        case first =>
          cases u
          · go_wp2_with fail
            go_meet
            exact ⟨W, D, rfl, by omega, HRN.out (by first | rfl | trivial), rfl, ⟨HDL.out, HD.out⟩, HO.out, HB.out⟩
          · cases c
            · go_wp2_with (first | (go_at_call 96; refine (HINC.out _ HO.out).mono ?_; rintro e w3 ⟨rfl, ho3, hb3⟩))
              go_meet
              exact ⟨W, (incL D).1, rfl, by omega, HR.out (by first | rfl | trivial), rfl, ⟨by rw [incL_len]; exact HDL.out, incL_lt D HD.out⟩, ho3, HB.out.trans hb3⟩
            · go_wp2_with (first | (go_at_call 96; refine (HINC.out _ HO.out).mono ?_; rintro e w3 ⟨rfl, ho3, hb3⟩))
              go_meet
              exact ⟨W + 1, (incL D).1, by first | rfl | (push_cast; rfl), by omega, HR.out (by first | rfl | trivial), rfl, ⟨by rw [incL_len]; exact HDL.out, incL_lt D HD.out⟩, ho3, HB.out.trans hb3⟩
        case rest =>
          obtain ⟨W', D', rfl, hW', hround, rfl, hD', hown, hbel⟩ := hcut
          have hfx := HFX.out.trans hround.out
          have hsz2 := hbel.size
          have hp2 := (hbel.cell (p := ⟨w.heap.size, 0, none⟩) (by simp; omega)).trans HC0.out
          have HDEC : Hid (RDec (W' : Int) (mkS (Lib.itoa (W' : Int)))) := fun w2 => rdec_any (W' : Int) (by omega) (by omega) w2
          have HZ : Hid (RZeros w1.heap.size (.slice a k cap) (D'.map dV) (D'.all fun d => d == 0)) := fun w2 ho => rzeros_any D' hD'.out.2 (by rw [hD'.out.1]; exact hn) _ _ w2 ho
          have HD'L := hD'.out.1
          have hzb : zeroB (W' : Int) D' = (decide (W' = 0) && (D'.all fun d => d == 0)) := by
            unfold zeroB
            congr 1
            rw [Bool.eq_iff_iff]; simp
          have HCV : Hid (¬ k = 0 → ∀ w2, OwnF w2 w1.heap.size (.slice a k cap) (D'.map dV) → (convert 96 9 (.slice a k cap)).run Tryz.prog w2 = .ok (.string (mkS (D'.map digC))) w2) := fun h0 w2 ho =>
            Own.str (own_eq ho.own (dV_byte hD'.out.2)) (by intro e; have h := congrArg List.length e; rw [List.length_map, HD'L, List.length_nil] at h; exact h0 h) _ _ 5 Tryz.underlying96 Tryz.underlying5 Tryz.underlying9
          have hT1 : ¬ k = 0 → mkS (Lib.itoa (W' : Int)) ++ ⟨#[46]⟩ ++ mkS (D'.map digC) = mkS (bodyL W' D') := fun h0 => dec_cat W' D' (by intro e; rw [e] at HD'L; exact h0 HD'L.symm)
          have hT0 : k = 0 → mkS (Lib.itoa (W' : Int)) = mkS (bodyL W' D') := fun h0 => by
            have : D' = [] := List.eq_nil_of_length_eq_zero (by omega)
            rw [this]; exact dec_none W'
          have HT1 := Lib.hid hT1
          have HT0 := Lib.hid hT0
          have HFX2 := Lib.hid hfx
          have HO2 := Lib.hid hown
          have HB2 := Lib.hid hbel
          have HZB := Lib.hid hzb
          obtain ⟨z, hz⟩ : ∃ z, (D'.all fun d => d == 0) = z := ⟨_, rfl⟩
          rw [hz] at HZ HZB
          obtain ⟨I, hI⟩ : ∃ I, mkS (Lib.itoa (W' : Int)) = I := ⟨_, rfl⟩
          obtain ⟨J, hJ⟩ : ∃ J, mkS (D'.map digC) = J := ⟨_, rfl⟩
          rw [hI] at HDEC HT1 HT0
          rw [hJ] at HCV HT1
          have hIs : I.size ≤ 30 := by rw [← hI, mkS_size]; exact Nat.le_trans (Lib.itoa_length_le _ (by omega) (by omega)) (by omega)
          have hJs : J.size ≤ 12 := by rw [← hJ, mkS_size, List.length_map, HD'L]; exact hn
          clear hfx hT1 hT0 hown hbel hzb hz hI hJ hround HD'L HR HRN HINC HFX HO HB HC0 HC1 HD HDL htie
          by_cases hk0 : k = 0
          all_goals try have hcvs := Lib.hid (HCV.out hk0)
          · subst hk0
            go_wp2_with (first | (go_at_call 97; refine (HDEC.out _).mono ?_; rintro e w3 ⟨rfl, hb⟩; (have hp3 := (hb.cell (p := ⟨w.heap.size, 0, none⟩) (by simp; omega)).trans hp2)))
            ((try simp only [Exit.inBlock, Exit.then]); refine bodyPost_ret (by first | (simp [results, Tryz.results74, go_sem, *]; done) | (simp [results, Tryz.results74, go_sem, *]; rfl) | (simp [results, Tryz.results74, go_sem, ↓IntWalk.iteOmega, *]; try rfl)) rfl ?_)
            refine ⟨by rw [HFX2.out, dec_pos, ← HT0.out (by first | rfl | trivial)], ?_⟩
            (have h1 := HB1.out); (have h2 := HB2.out)
            (repeat' (first | (with_reducible exact Below.refl _ _) | (with_reducible assumption) | (with_reducible refine Below.alloc ?_ ?_ _) | (with_reducible refine below_drewN ?_ _) | (with_reducible refine Below.drew ?_) | (with_reducible refine Below.setCell ?_ ?_ _) | (with_reducible refine below_via (by assumption) ?_ ?_) | (with_reducible refine below_via (later_below _) ?_ ?_) | (with_reducible exact Nat.le_refl _) | omega | (simp; omega) | (simp; done)))
          · go_wp2_with (first | (go_at_call 97; refine (HDEC.out _).mono ?_; rintro e w3 ⟨rfl, hb⟩; (have hp3 := (hb.cell (p := ⟨w.heap.size, 0, none⟩) (by simp; omega)).trans hp2); (have hcv := hcvs.out _ (HO2.out.below hb))))
            ((try simp only [Exit.inBlock, Exit.then]); refine bodyPost_ret (by first | (simp [results, Tryz.results74, go_sem, *]; done) | (simp [results, Tryz.results74, go_sem, *]; rfl) | (simp [results, Tryz.results74, go_sem, ↓IntWalk.iteOmega, *]; try rfl)) rfl ?_)
            refine ⟨by rw [HFX2.out, dec_pos, ← HT1.out hk0], ?_⟩
            (have h1 := HB1.out); (have h2 := HB2.out)
            (repeat' (first | (with_reducible exact Below.refl _ _) | (with_reducible assumption) | (with_reducible refine Below.alloc ?_ ?_ _) | (with_reducible refine below_drewN ?_ _) | (with_reducible refine Below.drew ?_) | (with_reducible refine Below.setCell ?_ ?_ _) | (with_reducible refine below_via (by assumption) ?_ ?_) | (with_reducible refine below_via (later_below _) ?_ ?_) | (with_reducible exact Nat.le_refl _) | omega | (simp; omega) | (simp; done)))

set_option maxHeartbeats 8000000 in
set_option maxRecDepth 100000 in
theorem rfixed_neg (P Q n : Nat) (w : World) (hn : n ≤ 12) (hv : vldB (-(P : Int)) Q = true) (hP : 0 < P) :
    Calls Tryz.prog 74 #[.agg #[.int .i64 (-(P : Int)), .int .i64 Q], .int .i64 n] w fun e w' => e = .returned (.tuple #[.string (mkS (decL true (fixT P Q n).1 (fixT P Q n).2)), .int .i64 0]) ∧ Below w.heap.size w w' := by
  obtain ⟨b1, b2, b3, b4⟩ := vld_bd hv
  obtain ⟨i0, hi, hz0, hz1, hz2⟩ := info_parts uint8_info
  obtain ⟨W, R, hW, hR, hWe, hRe, hRQ, hWP⟩ := quo_rem P Q (by omega)
  have HFX : Hid (fixT P Q n = roundT Q W (leftN Q R n) (digsN Q R n)) := by rw [hWe, hRe]; rfl
  have HL := Lib.hid (leftN_lt Q R (by omega) hRQ)
  have HD := Lib.hid (digsN_lt Q R (by omega) hRQ n)
  clear hWe hRe
  go_enter Tryz.func74, Tryz.ntmps74
  go_wp2_with (first | (go_at_call 30; refine (rvalid_any _ _ _ (by omega) (by omega)).mono ?_; rintro e w1 ⟨rfl, hb⟩; (refine mem hb ?_; intro N hN hz hc hf; (try simp at hN); subst hN))) -- head
  have HB1 := Lib.hid hb
  have hc0 := hc w.heap.size 0
  have hc1 := hc w.heap.size 1
  rw [if_pos (by omega), cell_alloc_if, if_pos rfl] at hc0 hc1
  clear hb hc hf
  simp only [hR]
  go_loopw [8, 9, 10, 11] (fun left l last i wr => ∃ (k x : Nat), k ≤ n ∧ i = .int .i64 k ∧ left = .int .i64 (leftN Q R k) ∧ last = .int .i64 x ∧ x < 10 ∧ Hid (x % 2 = tieN W (digsN Q R k)) ∧ OwnF wr w1.heap.size l ((digsN Q R k).map dV) ∧ Below w1.heap.size w1 wr) (fun _ _ _ i _ => n - (intOf i).toNat)
  case atStart => exact ⟨0, W % 10, Nat.zero_le _, rfl, by simp only [leftN]; try (simp only [hR]), by first | rfl | (push_cast; rfl), by omega, by show _ = _; simp [digsN, tieN], OwnF.empty _ _ _ (Nat.le_refl _) (by simp), by (repeat' (first | (with_reducible exact Below.refl _ _) | (with_reducible assumption) | (with_reducible refine Below.alloc ?_ ?_ _) | (with_reducible refine below_drewN ?_ _) | (with_reducible refine Below.drew ?_) | (with_reducible refine Below.setCell ?_ ?_ _) | (with_reducible refine below_via (by assumption) ?_ ?_) | (with_reducible refine below_via (later_below _) ?_ ?_) | (with_reducible exact Nat.le_refl _) | omega | (simp; omega) | (simp; done)))⟩
  case round =>
    obtain ⟨k, x, hk, rfl, rfl, rfl, hx10, htie, hown, hbel⟩ := hrel
    have hq := (hbel.cell (p := ⟨w.heap.size, 1, none⟩) (by simp; omega)).trans hc1
    have hsz := hbel.size
    obtain ⟨a, cap, hsh⟩ := hown.shape
    rw [List.length_map, digsN_len] at hsh
    subst hsh
    by_cases hlt : k < n
    · have hlQ := HL.out k
      obtain ⟨l, hl⟩ : ∃ l, leftN Q R k = l := ⟨_, rfl⟩
      rw [hl] at hlQ
      have hl10 : ((l * 10 : Nat) : Int) = (l : Int) * 10 := by push_cast; rfl
      obtain ⟨d, l', hd, hl', hde, hle, hlQ', hdl⟩ := quo_rem (l * 10) Q (by omega)
      rw [hl10] at hd hl'
      have hd10 : d < 10 := by rw [hde]; exact dig_lt Q l hlQ
      have HL1 : Hid (leftN Q R (k + 1) = l') := by show leftN Q R k * 10 % Q = l'; rw [hl, hle]
      have HD1 : Hid (digsN Q R (k + 1) = digsN Q R k ++ [d]) := by rw [digsN_succ, hl, hde]; exact rfl
      have HO := Lib.hid hown
      have HB := Lib.hid hbel
      have HLL := Lib.hid hl
      clear hown hbel hde hle hl10 hl htie
      rw [HLL.out]
      go_wp2_with (first | (at_builtin; (refine wp_pushF rfl _ _ 96 rfl 5 i0 (.int .u8 0) 1 Tryz.underlying96 hi hz0 hz1 hz2 rfl w1.heap.size _ _ (HO.out.alloc _) rfl _ _ _ rfl (cell_new1 _ _ _) rfl ?_ ?_ ?_ ?_); (focus (simp <;> omega)); (focus (unfold maxLen; simp [digsN_len] <;> omega)); (focus (simp [digsN_len] <;> omega)); intro v' w' ho' hb'; (have hsz' := hb'.size); (simp at hsz'); (have HB2 : Hid (Below w1.heap.size w1 w') := (by (have hbel := HB.out); show Below _ _ _; (repeat' (first | (with_reducible exact Below.refl _ _) | (with_reducible assumption) | (with_reducible refine Below.alloc ?_ ?_ _) | (with_reducible refine below_drewN ?_ _) | (with_reducible refine Below.drew ?_) | (with_reducible refine Below.setCell ?_ ?_ _) | (with_reducible refine below_via (by assumption) ?_ ?_) | (with_reducible refine below_via (later_below _) ?_ ?_) | (with_reducible exact Nat.le_refl _) | omega | (simp; omega) | (simp; done))))); (have hq2 := (HB2.out.cell (p := ⟨w.heap.size, 1, none⟩) (by simp; omega)).trans hc1); (have HO' := Lib.hid ho'); clear ho' hb')) -- round
      refine ⟨⟨k + 1, d, hlt, by go_num, by rw [HL1.out]; try (simp only [hl']), by first | rfl | (simp only [hd]), hd10, ?_, ?_, HB2.out⟩, by simp [intOf] <;> omega⟩
      · show _ = _
        rw [HD1.out, tie_snoc]
      · rw [HD1.out, List.map_append]
        exact ownF_eq HO'.out rfl
    · obtain rfl : k = n := by omega
      have hp := (hbel.cell (p := ⟨w.heap.size, 0, none⟩) (by simp; omega)).trans hc0
      obtain ⟨l, hl⟩ : ∃ l, leftN Q R k = l := ⟨_, rfl⟩
      have hlQ := HL.out k
      rw [hl] at hlQ HFX ⊢
      obtain ⟨D, hDD⟩ : ∃ D, digsN Q R k = D := ⟨_, rfl⟩
      have hDlen := digsN_len Q R k
      rw [hDD] at hDlen HFX HD hown htie
      have HO := Lib.hid hown
      have HB := Lib.hid hbel
      have HDL := Lib.hid hDlen
      clear hown hbel hDD hl HL hW hR hDlen
      have HC0 := Lib.hid hc0
      have HC1 := Lib.hid hc1
      clear hc0 hc1
      go_upto_region 17 with fail
      go_cut [80] (fun s wx => s = .bool (upB Q W l D) ∧ wx = wr)
      case first =>
        have hcs : 2 * l < Q ∨ Q < 2 * l ∨ 2 * l = Q ∧ x % 2 = 1 ∨ 2 * l = Q ∧ x % 2 = 0 := by omega
        rcases hcs with h | h | ⟨h, h2⟩ | ⟨h, h2⟩
        · have hu := Lib.hid (up_no (q := Q) (W := W) (l := l) (ds := D) (.inl h))
          go_wp2_with fail
          go_meet
          exact ⟨by rw [hu.out]; try (first | rfl | (simp; done) | (simp; omega)), rfl⟩
        · have hu := Lib.hid (up_yes (q := Q) (W := W) (l := l) (ds := D) (.inl h))
          go_wp2_with fail
          go_meet
          exact ⟨by rw [hu.out]; try (first | rfl | (simp; done) | (simp; omega)), rfl⟩
        · have hu := Lib.hid (up_yes (q := Q) (W := W) (l := l) (ds := D) (.inr ⟨h, by rw [← htie.out]; exact h2⟩))
          have h3 : ((x : Int) % 2 == 1) = true := by simp; omega
          clear h2
          go_wp2_with fail
          go_meet
          exact ⟨by rw [hu.out]; try (first | rfl | (simp; done) | (simp; omega)), rfl⟩
        · have hu := Lib.hid (up_no (q := Q) (W := W) (l := l) (ds := D) (.inr ⟨h, by rw [← htie.out]; omega⟩))
          have h3 : ((x : Int) % 2 == 1) = false := by simp; omega
          clear h2
          go_wp2_with fail
          go_meet
          exact ⟨by rw [hu.out]; try (first | rfl | (simp; done) | (simp; omega)), rfl⟩
      case rest =>
        obtain ⟨rfl, rfl⟩ := hcut
        have HR : Hid (upB Q W l D = true → roundT Q W l D = (if (incL D).2 then W + 1 else W, (incL D).1)) := fun h => by unfold roundT; rw [if_pos h]
        have HRN : Hid (upB Q W l D = false → roundT Q W l D = (W, D)) := fun h => by unfold roundT; rw [h]; rfl
        obtain ⟨u, hu⟩ : ∃ u, upB Q W l D = u := ⟨_, rfl⟩
        rw [hu] at HR HRN ⊢
        have HINC : Hid (RInc w1.heap.size (.slice a k cap) (D.map dV) (incL D).2 ((incL D).1.map dV)) := fun w2 ho => rinc_any D HD.out (by rw [HDL.out]; exact hn) _ _ w2 ho
        obtain ⟨c, hc⟩ : ∃ c, (incL D).2 = c := ⟨_, rfl⟩
        rw [hc] at HINC HR
        clear hu hc
        go_upto_if 80 with fail
        go_cut [7, 9, 12, 13] (fun s7 s9 s12 s13 wx => ∃ (W' : Nat) (D' : List Nat), s7 = .int .i64 W' ∧ W' ≤ 2147483648 ∧ Hid (roundT Q W l D = (W', D')) ∧ s9 = .slice a k cap ∧ Hid (D'.length = k ∧ ∀ d ∈ D', d < 10) ∧ OwnF wx w1.heap.size (.slice a k cap) (D'.map dV) ∧ Below w1.heap.size w1 wx)
        case first =>
          cases u
          · go_wp2_with fail
            go_meet
            exact ⟨W, D, rfl, by omega, HRN.out (by first | rfl | trivial), rfl, ⟨HDL.out, HD.out⟩, HO.out, HB.out⟩
          · cases c
            · go_wp2_with (first | (go_at_call 96; refine (HINC.out _ HO.out).mono ?_; rintro e w3 ⟨rfl, ho3, hb3⟩))
              go_meet
              exact ⟨W, (incL D).1, rfl, by omega, HR.out (by first | rfl | trivial), rfl, ⟨by rw [incL_len]; exact HDL.out, incL_lt D HD.out⟩, ho3, HB.out.trans hb3⟩
            · go_wp2_with (first | (go_at_call 96; refine (HINC.out _ HO.out).mono ?_; rintro e w3 ⟨rfl, ho3, hb3⟩))
              go_meet
              exact ⟨W + 1, (incL D).1, by first | rfl | (push_cast; rfl), by omega, HR.out (by first | rfl | trivial), rfl, ⟨by rw [incL_len]; exact HDL.out, incL_lt D HD.out⟩, ho3, HB.out.trans hb3⟩
        case rest =>
          obtain ⟨W', D', rfl, hW', hround, rfl, hD', hown, hbel⟩ := hcut
          have hfx := HFX.out.trans hround.out
          have hsz2 := hbel.size
          have hp2 := (hbel.cell (p := ⟨w.heap.size, 0, none⟩) (by simp; omega)).trans HC0.out
          have HDEC : Hid (RDec (W' : Int) (mkS (Lib.itoa (W' : Int)))) := fun w2 => rdec_any (W' : Int) (by omega) (by omega) w2
          have HZ : Hid (RZeros w1.heap.size (.slice a k cap) (D'.map dV) (D'.all fun d => d == 0)) := fun w2 ho => rzeros_any D' hD'.out.2 (by rw [hD'.out.1]; exact hn) _ _ w2 ho
          have HD'L := hD'.out.1
          have hzb : zeroB (W' : Int) D' = (decide (W' = 0) && (D'.all fun d => d == 0)) := by
            unfold zeroB
            congr 1
            rw [Bool.eq_iff_iff]; simp
          have HCV : Hid (¬ k = 0 → ∀ w2, OwnF w2 w1.heap.size (.slice a k cap) (D'.map dV) → (convert 96 9 (.slice a k cap)).run Tryz.prog w2 = .ok (.string (mkS (D'.map digC))) w2) := fun h0 w2 ho =>
            Own.str (own_eq ho.own (dV_byte hD'.out.2)) (by intro e; have h := congrArg List.length e; rw [List.length_map, HD'L, List.length_nil] at h; exact h0 h) _ _ 5 Tryz.underlying96 Tryz.underlying5 Tryz.underlying9
          have hT1 : ¬ k = 0 → mkS (Lib.itoa (W' : Int)) ++ ⟨#[46]⟩ ++ mkS (D'.map digC) = mkS (bodyL W' D') := fun h0 => dec_cat W' D' (by intro e; rw [e] at HD'L; exact h0 HD'L.symm)
          have hT0 : k = 0 → mkS (Lib.itoa (W' : Int)) = mkS (bodyL W' D') := fun h0 => by
            have : D' = [] := List.eq_nil_of_length_eq_zero (by omega)
            rw [this]; exact dec_none W'
          have HT1 := Lib.hid hT1
          have HT0 := Lib.hid hT0
          have HFX2 := Lib.hid hfx
          have HO2 := Lib.hid hown
          have HB2 := Lib.hid hbel
          have HZB := Lib.hid hzb
          obtain ⟨z, hz⟩ : ∃ z, (D'.all fun d => d == 0) = z := ⟨_, rfl⟩
          rw [hz] at HZ HZB
          obtain ⟨I, hI⟩ : ∃ I, mkS (Lib.itoa (W' : Int)) = I := ⟨_, rfl⟩
          obtain ⟨J, hJ⟩ : ∃ J, mkS (D'.map digC) = J := ⟨_, rfl⟩
          rw [hI] at HDEC HT1 HT0
          rw [hJ] at HCV HT1
          have hIs : I.size ≤ 30 := by rw [← hI, mkS_size]; exact Nat.le_trans (Lib.itoa_length_le _ (by omega) (by omega)) (by omega)
          have hJs : J.size ≤ 12 := by rw [← hJ, mkS_size, List.length_map, HD'L]; exact hn
          clear hfx hT1 hT0 hown hbel hzb hz hI hJ hround HD'L HR HRN HINC HFX HO HB HC0 HC1 HD HDL htie
          by_cases hk0 : k = 0
          all_goals try have hcvs := Lib.hid (HCV.out hk0)
          · subst hk0
            rcases Nat.eq_zero_or_pos W' with hW0 | hW0
            · subst hW0
              cases z
              · go_wp2_with (first | (go_at_call 97; refine (HDEC.out _).mono ?_; rintro e w3 ⟨rfl, hb⟩; (have hp3 := (hb.cell (p := ⟨w.heap.size, 0, none⟩) (by simp; omega)).trans hp2); (have ho3 := HO2.out.below hb)) | (go_at_call 98; refine (HZ.out _ ho3).mono ?_; rintro e w4 ⟨rfl, rfl⟩))
                ((try simp only [Exit.inBlock, Exit.then]); refine bodyPost_ret (by first | (simp [results, Tryz.results74, go_sem, *]; done) | (simp [results, Tryz.results74, go_sem, *]; rfl) | (simp [results, Tryz.results74, go_sem, ↓IntWalk.iteOmega, *]; try rfl)) rfl ?_)
                refine ⟨by rw [HFX2.out, dec_min HZB.out, ← HT0.out (by first | rfl | trivial)], ?_⟩
                (have h1 := HB1.out); (have h2 := HB2.out)
                (repeat' (first | (with_reducible exact Below.refl _ _) | (with_reducible assumption) | (with_reducible refine Below.alloc ?_ ?_ _) | (with_reducible refine below_drewN ?_ _) | (with_reducible refine Below.drew ?_) | (with_reducible refine Below.setCell ?_ ?_ _) | (with_reducible refine below_via (by assumption) ?_ ?_) | (with_reducible refine below_via (later_below _) ?_ ?_) | (with_reducible exact Nat.le_refl _) | omega | (simp; omega) | (simp; done)))
              · go_wp2_with (first | (go_at_call 97; refine (HDEC.out _).mono ?_; rintro e w3 ⟨rfl, hb⟩; (have hp3 := (hb.cell (p := ⟨w.heap.size, 0, none⟩) (by simp; omega)).trans hp2); (have ho3 := HO2.out.below hb)) | (go_at_call 98; refine (HZ.out _ ho3).mono ?_; rintro e w4 ⟨rfl, rfl⟩))
                ((try simp only [Exit.inBlock, Exit.then]); refine bodyPost_ret (by first | (simp [results, Tryz.results74, go_sem, *]; done) | (simp [results, Tryz.results74, go_sem, *]; rfl) | (simp [results, Tryz.results74, go_sem, ↓IntWalk.iteOmega, *]; try rfl)) rfl ?_)
                refine ⟨by rw [HFX2.out, dec_zero HZB.out, ← HT0.out (by first | rfl | trivial)], ?_⟩
                (have h1 := HB1.out); (have h2 := HB2.out)
                (repeat' (first | (with_reducible exact Below.refl _ _) | (with_reducible assumption) | (with_reducible refine Below.alloc ?_ ?_ _) | (with_reducible refine below_drewN ?_ _) | (with_reducible refine Below.drew ?_) | (with_reducible refine Below.setCell ?_ ?_ _) | (with_reducible refine below_via (by assumption) ?_ ?_) | (with_reducible refine below_via (later_below _) ?_ ?_) | (with_reducible exact Nat.le_refl _) | omega | (simp; omega) | (simp; done)))
            · go_wp2_with (first | (go_at_call 97; refine (HDEC.out _).mono ?_; rintro e w3 ⟨rfl, hb⟩; (have hp3 := (hb.cell (p := ⟨w.heap.size, 0, none⟩) (by simp; omega)).trans hp2)))
              ((try simp only [Exit.inBlock, Exit.then]); refine bodyPost_ret (by first | (simp [results, Tryz.results74, go_sem, *]; done) | (simp [results, Tryz.results74, go_sem, *]; rfl) | (simp [results, Tryz.results74, go_sem, ↓IntWalk.iteOmega, *]; try rfl)) rfl ?_)
              refine ⟨by rw [HFX2.out, dec_min (by rw [HZB.out]; simp; omega), ← HT0.out (by first | rfl | trivial)], ?_⟩
              (have h1 := HB1.out); (have h2 := HB2.out)
              (repeat' (first | (with_reducible exact Below.refl _ _) | (with_reducible assumption) | (with_reducible refine Below.alloc ?_ ?_ _) | (with_reducible refine below_drewN ?_ _) | (with_reducible refine Below.drew ?_) | (with_reducible refine Below.setCell ?_ ?_ _) | (with_reducible refine below_via (by assumption) ?_ ?_) | (with_reducible refine below_via (later_below _) ?_ ?_) | (with_reducible exact Nat.le_refl _) | omega | (simp; omega) | (simp; done)))
          · rcases Nat.eq_zero_or_pos W' with hW0 | hW0
            · subst hW0
              cases z
              · go_wp2_with (first | (go_at_call 97; refine (HDEC.out _).mono ?_; rintro e w3 ⟨rfl, hb⟩; (have hp3 := (hb.cell (p := ⟨w.heap.size, 0, none⟩) (by simp; omega)).trans hp2); (have ho3 := HO2.out.below hb); (have hcv := hcvs.out _ ho3)) | (go_at_call 98; refine (HZ.out _ ho3).mono ?_; rintro e w4 ⟨rfl, rfl⟩))
                ((try simp only [Exit.inBlock, Exit.then]); refine bodyPost_ret (by first | (simp [results, Tryz.results74, go_sem, *]; done) | (simp [results, Tryz.results74, go_sem, *]; rfl) | (simp [results, Tryz.results74, go_sem, ↓IntWalk.iteOmega, *]; try rfl)) rfl ?_)
                refine ⟨by rw [HFX2.out, dec_min HZB.out, ← HT1.out hk0], ?_⟩
                (have h1 := HB1.out); (have h2 := HB2.out)
                (repeat' (first | (with_reducible exact Below.refl _ _) | (with_reducible assumption) | (with_reducible refine Below.alloc ?_ ?_ _) | (with_reducible refine below_drewN ?_ _) | (with_reducible refine Below.drew ?_) | (with_reducible refine Below.setCell ?_ ?_ _) | (with_reducible refine below_via (by assumption) ?_ ?_) | (with_reducible refine below_via (later_below _) ?_ ?_) | (with_reducible exact Nat.le_refl _) | omega | (simp; omega) | (simp; done)))
              · go_wp2_with (first | (go_at_call 97; refine (HDEC.out _).mono ?_; rintro e w3 ⟨rfl, hb⟩; (have hp3 := (hb.cell (p := ⟨w.heap.size, 0, none⟩) (by simp; omega)).trans hp2); (have ho3 := HO2.out.below hb); (have hcv := hcvs.out _ ho3)) | (go_at_call 98; refine (HZ.out _ ho3).mono ?_; rintro e w4 ⟨rfl, rfl⟩))
                ((try simp only [Exit.inBlock, Exit.then]); refine bodyPost_ret (by first | (simp [results, Tryz.results74, go_sem, *]; done) | (simp [results, Tryz.results74, go_sem, *]; rfl) | (simp [results, Tryz.results74, go_sem, ↓IntWalk.iteOmega, *]; try rfl)) rfl ?_)
                refine ⟨by rw [HFX2.out, dec_zero HZB.out, ← HT1.out hk0], ?_⟩
                (have h1 := HB1.out); (have h2 := HB2.out)
                (repeat' (first | (with_reducible exact Below.refl _ _) | (with_reducible assumption) | (with_reducible refine Below.alloc ?_ ?_ _) | (with_reducible refine below_drewN ?_ _) | (with_reducible refine Below.drew ?_) | (with_reducible refine Below.setCell ?_ ?_ _) | (with_reducible refine below_via (by assumption) ?_ ?_) | (with_reducible refine below_via (later_below _) ?_ ?_) | (with_reducible exact Nat.le_refl _) | omega | (simp; omega) | (simp; done)))
            · go_wp2_with (first | (go_at_call 97; refine (HDEC.out _).mono ?_; rintro e w3 ⟨rfl, hb⟩; (have hp3 := (hb.cell (p := ⟨w.heap.size, 0, none⟩) (by simp; omega)).trans hp2); (have hcv := hcvs.out _ (HO2.out.below hb))))
              ((try simp only [Exit.inBlock, Exit.then]); refine bodyPost_ret (by first | (simp [results, Tryz.results74, go_sem, *]; done) | (simp [results, Tryz.results74, go_sem, *]; rfl) | (simp [results, Tryz.results74, go_sem, ↓IntWalk.iteOmega, *]; try rfl)) rfl ?_)
              refine ⟨by rw [HFX2.out, dec_min (by rw [HZB.out]; simp; omega), ← HT1.out hk0], ?_⟩
              (have h1 := HB1.out); (have h2 := HB2.out)
              (repeat' (first | (with_reducible exact Below.refl _ _) | (with_reducible assumption) | (with_reducible refine Below.alloc ?_ ?_ _) | (with_reducible refine below_drewN ?_ _) | (with_reducible refine Below.drew ?_) | (with_reducible refine Below.setCell ?_ ?_ _) | (with_reducible refine below_via (by assumption) ?_ ?_) | (with_reducible refine below_via (later_below _) ?_ ?_) | (with_reducible exact Nat.le_refl _) | omega | (simp; omega) | (simp; done)))
end Go.Proofs.YtfclmnglckikbaaGreatDoor

/- The reference's Fixed, joined. -/
namespace Go.Proofs.YtfclmnglckikbaaGreatDoor
open Go.RowKit
set_option linter.unusedVariables false

set_option maxHeartbeats 1000000 in
set_option maxRecDepth 100000 in
theorem rfixed_out (p q n : Int) (w : World) (hp : -9223372036854775808 ≤ p) (hp' : p ≤ 9223372036854775807) (h : vldB p q = false ∨ (vldB p q = true ∧ n < 0) ∨ (vldB p q = true ∧ 0 ≤ n ∧ 12 < n)) :
    Calls Tryz.prog 74 #[.agg #[.int .i64 p, .int .i64 q], .int .i64 n] w fun e w' => e = .returned (.tuple #[.string (mkS []), .int .i64 2]) ∧ Below w.heap.size w w' := by
  rcases h with hv | ⟨hv, h1⟩ | ⟨hv, h0, h1⟩
  all_goals
    go_enter Tryz.func74, Tryz.ntmps74
    go_wp2_with (first | (go_at_call 30; refine (rvalid_any _ _ _ (by omega) (by omega)).mono ?_; rintro e w1 ⟨rfl, hb⟩; (refine mem hb ?_; intro N hN hz hc hf; (try simp at hN); subst hN)))
    ((try simp only [Exit.inBlock, Exit.then]); refine bodyPost_ret (by first | (simp [results, Tryz.results74, go_sem, *]; done) | (simp [results, Tryz.results74, go_sem, *]; rfl) | (simp [results, Tryz.results74, go_sem, ↓IntWalk.iteOmega, *]; try rfl)) rfl ?_)
    refine ⟨rfl, ?_⟩
    (repeat' (first | (with_reducible exact Below.refl _ _) | (with_reducible assumption) | (with_reducible refine Below.alloc ?_ ?_ _) | (with_reducible refine below_drewN ?_ _) | (with_reducible refine Below.drew ?_) | (with_reducible refine Below.setCell ?_ ?_ _) | (with_reducible refine below_via (by assumption) ?_ ?_) | (with_reducible refine below_via (later_below _) ?_ ?_) | (with_reducible exact Nat.le_refl _) | omega | (simp; omega) | (simp; done)))

theorem rfixed_any (p q n : Int) (w : World) (hp : -9223372036854775808 ≤ p) (hp' : p ≤ 9223372036854775807) :
    Calls Tryz.prog 74 #[.agg #[.int .i64 p, .int .i64 q], .int .i64 n] w fun e w' => e = .returned (strE (fixL p q n)) ∧ Below w.heap.size w w' := by
  unfold fixL
  cases hv : vldB p q
  · exact rfixed_out p q n w hp hp' (.inl hv)
  · by_cases h0 : 0 ≤ n
    · by_cases h1 : n ≤ 12
      · rw [if_pos (by simp [h0, h1])]
        obtain ⟨m, rfl⟩ : ∃ m : Nat, n = m := ⟨n.toNat, by omega⟩
        obtain ⟨Q, rfl⟩ : ∃ Q : Nat, q = Q := ⟨q.toNat, by have := vld_bd hv; omega⟩
        by_cases hn : p < 0
        · obtain ⟨P, rfl⟩ : ∃ P : Nat, p = -(P : Int) := ⟨p.natAbs, by omega⟩
          have e1 : (-(P : Int)).natAbs = P := by omega
          rw [decide_eq_true hn, e1, Int.toNat_natCast, Int.toNat_natCast]
          exact rfixed_neg P Q m w (by omega) hv (by omega)
        · obtain ⟨P, rfl⟩ : ∃ P : Nat, p = P := ⟨p.toNat, by omega⟩
          rw [decide_eq_false hn, Int.natAbs_natCast, Int.toNat_natCast, Int.toNat_natCast]
          exact rfixed_pos P Q m w (by omega) hv
      · rw [if_neg (by simp [h1])]
        exact rfixed_out p q n w hp hp' (.inr (.inr ⟨hv, h0, by omega⟩))
    · rw [if_neg (by simp [h0])]
      exact rfixed_out p q n w hp hp' (.inr (.inl ⟨hv, by omega⟩))
end Go.Proofs.YtfclmnglckikbaaGreatDoor
