/- The contract of numeral.Fixed. -/
import Derived.Test.YtfclmnglckikbaaGreatDoorMNumW14
import Derived.Test.YtfclmnglckikbaaGreatDoorMPlainC
import Derived.Test.YtfclmnglckikbaaGreatDoorMFb
namespace Go.Proofs.YtfclmnglckikbaaGreatDoor
open Go.RowKit
set_option linter.unusedVariables false

/-- Integers as cells. -/
def I64s (l : List Nat) : Array Value := (l.map fun (x : Nat) => Value.int .i64 (x : Int)).toArray
/-- The array of twelve places holds L, then zeros. -/
def Arr (w : World) (g : Nat) (L : List Nat) : Prop := L.length ≤ 12 ∧ Blk w g 76 (I64s (pad12 L))
theorem Arr.cell {w : World} {g : Nat} {L : List Nat} (h : Arr w g L) (i x : Nat) (hx : (pad12 L)[i]? = some x) : w.cell? ⟨g, i, none⟩ = some (.int .i64 x) := by
  rw [h.2.cell]; unfold I64s; simp [hx]
theorem Arr.some {w : World} {g : Nat} {L : List Nat} (h : Arr w g L) (i : Nat) (hi : i < 12) : (∃ x, w.cell? ⟨g, i, none⟩ = Option.some x) ∧ w.frozen? ⟨g, i, none⟩ = false := by
  have hl := pad12_len L h.1
  exact ⟨⟨_, h.cell i ((pad12 L)[i]'(by omega)) (List.getElem?_eq_getElem _)⟩, h.2.frozen i⟩
theorem Arr.upd {w : World} {g : Nat} {L L' : List Nat} (h : Arr w g L) (i x : Nat) (hl : L'.length ≤ 12) (hx : (pad12 L).set i x = pad12 L') : Arr (w.setCell ⟨g, i, none⟩ (.int .i64 x)) g L' := by
  refine ⟨hl, ?_⟩
  have := h.2.set_ i (.int .i64 (x : Int))
  have e : (I64s (pad12 L)).setIfInBounds i (.int .i64 (x : Int)) = I64s (pad12 L') := by
    unfold I64s
    rw [← hx, List.map_set]
    simp
  rw [e] at this
  exact this
theorem Arr.push {w : World} {g : Nat} {L : List Nat} (h : Arr w g L) (hl : L.length < 12) (x : Nat) : Arr (w.setCell ⟨g, L.length, none⟩ (.int .i64 x)) g (L ++ [x]) := h.upd _ x (by simp; omega) (pad12_push L x hl)
theorem Arr.zero {w : World} {g : Nat} {L : List Nat} {x : Nat} (h : Arr w g (L ++ [x])) : Arr (w.setCell ⟨g, L.length, none⟩ (.int .i64 0)) g L := by
  have hl := h.1
  simp only [List.length_append, List.length_singleton] at hl
  exact h.upd L.length 0 (by omega) (pad12_zero L x (by omega))
theorem Arr.turn {w : World} {g : Nat} {L : List Nat} {x : Nat} (h : Arr w g (L ++ [x])) (y : Nat) : Arr (w.setCell ⟨g, L.length, none⟩ (.int .i64 y)) g (L ++ [y]) := by
  have hl := h.1
  simp only [List.length_append, List.length_singleton] at hl
  exact h.upd L.length y (by simp; omega) (pad12_turn L x y (by omega))
theorem Arr.start (w : World) (g : Nat) (hg : g = w.heap.size) : Arr (w.alloc (.cells (I64s (pad12 [])) 76)) g [] := by
  subst hg
  exact ⟨Nat.zero_le _, Blk.new _ _ _⟩

theorem Arr.of_eq {w : World} {g : Nat} {L L' : List Nat} (h : Arr w g L) (e : L = L') : Arr w g L' := by rw [← e]; exact h
theorem pad12_zeros (l : List Nat) (m : Nat) (h : (l ++ List.replicate m 0).length ≤ 12) : pad12 (l ++ List.replicate m 0) = pad12 l := by
  unfold pad12
  rw [List.append_assoc, List.replicate_append_replicate]
  congr 2
  simp at h ⊢
  omega
theorem Arr.zeros {w : World} {g : Nat} {L : List Nat} (h : Arr w g L) (m : Nat) (hl : (L ++ List.replicate m 0).length ≤ 12) : Arr w g (L ++ List.replicate m 0) :=
  ⟨hl, by rw [pad12_zeros L m hl]; exact h.2⟩
theorem Arr.lt {w : World} {g : Nat} {L : List Nat} (h : Arr w g L) : g < w.heap.size := by
  obtain ⟨⟨x, hx⟩, _⟩ := h.some 0 (by omega)
  exact cell_lt hx

/-- decimal, called in a later world. -/
abbrev DecSays (W0 : World) (m : Bool) (whole : Int) (g n : Nat) (s : ByteArray) : Prop := ∀ w, Below W0.heap.size W0 w → Calls Tryz.prog 50 #[.bool m, .int .i64 whole, .slice (some ⟨g, 0, none⟩) n 12] w fun e w' => e = .returned (.string s) ∧ Below w.heap.size w w'
theorem dec_says (W0 : World) (m : Bool) (whole : Int) (g n : Nat) (ds : List Nat) (harr : Arr W0 g ds) (hn : ds.length = n) (hd : ∀ d ∈ ds, d < 10) (h0 : 0 ≤ whole) (h1 : whole ≤ 4294967296) (hT : Tabs W0) : DecSays W0 m whole g n (mkS (decL m whole ds)) := by
  subst hn
  intro w hb
  refine decimal_any m whole g 12 ds hd w (Nat.lt_of_lt_of_le harr.lt hb.size) ?_ harr.1 h0 h1 (hT.later hb)
  intro j hj
  rw [hb.cell (p := ⟨g, j, none⟩) harr.lt]
  exact harr.cell j _ (pad12_at ds j hj)

theorem tie_nil (W : Nat) : tieN W [] = W % 2 := rfl
theorem tie_snoc (W : Nat) (D : List Nat) (x : Nat) : tieN W (D ++ [x]) = x % 2 := by unfold tieN; simp
theorem round_no {q W l : Nat} {ds : List Nat} (h : 2 * l < q ∨ 2 * l = q ∧ tieN W ds ≠ 1) : roundT q W l ds = (W, ds) := by
  unfold roundT
  rw [if_neg]
  unfold upB
  simp only [Bool.or_eq_true, decide_eq_true_eq, Bool.and_eq_true, beq_iff_eq]
  omega
theorem round_up {q W l : Nat} {ds : List Nat} (h : q < 2 * l ∨ 2 * l = q ∧ tieN W ds = 1) : roundT q W l ds = (if (incL ds).2 then W + 1 else W, (incL ds).1) := by
  unfold roundT
  rw [if_pos]
  unfold upB
  simp only [Bool.or_eq_true, decide_eq_true_eq, Bool.and_eq_true, beq_iff_eq]
  omega
/-- The last place, if there is one; the number whose oddness decides a tie. -/
theorem tie_of (D : List Nat) (W : Nat) : (D = [] ∧ tieN W D = W % 2) ∨ ∃ D' x, D = D' ++ [x] ∧ tieN W D = x % 2 := by
  rcases List.eq_nil_or_concat D with h | ⟨D', x, h⟩
  · left; rw [h]; exact ⟨rfl, rfl⟩
  · right; refine ⟨D', x, by simpa using h, ?_⟩; rw [h]; simpa using tie_snoc W D' x

theorem quo_rem (a q : Nat) (hq : 0 < q) : ∃ d r : Nat, (a : Int) / (q : Int) = d ∧ (a : Int) % (q : Int) = r ∧ d = a / q ∧ r = a % q ∧ r < q ∧ d ≤ a := 
  ⟨a / q, a % q, (Int.natCast_ediv a q).symm, (Int.natCast_emod a q).symm, rfl, rfl, Nat.mod_lt _ hq, Nat.div_le_self _ _⟩

set_option maxHeartbeats 8000000 in
set_option maxRecDepth 100000 in
theorem fixed_pos (P Q n : Nat) (w : World) (hn : n ≤ 12) (hv : vldB (P) Q = true) (hT : Tabs w) :
    Calls Tryz.prog 22 #[.agg #[.int .i64 (P), .int .i64 Q], .int .i64 n] w fun e w' => e = .returned (.tuple #[.string (mkS (decL false (fixT P Q n).1 (fixT P Q n).2)), .int .i64 0]) ∧ Below w.heap.size w w' := by
  obtain ⟨b1, b2, b3, b4⟩ := vld_bd hv
  have HT := Lib.hid hT
  clear hT
  obtain ⟨W, R, hW, hR, hWe, hRe, hRQ, hWP⟩ := quo_rem P Q (by omega)
  have HFX : Hid (fixT P Q n = roundT Q W (leftN Q R n) (digsN Q R n)) := by rw [hWe, hRe]; rfl
  have HL := Lib.hid (leftN_lt Q R (by omega) hRQ)
  have HD := Lib.hid (digsN_lt Q R (by omega) hRQ n)
  clear hWe hRe
  go_enter Tryz.func22, Tryz.ntmps22
  go_wp2_with (first | (go_at_call 48; refine (valid_any _ _ _ (by omega) (by omega)).mono ?_; rintro e w1 ⟨rfl, hb⟩; (refine mem hb ?_; intro N hN hz hc hf; (try simp at hN); subst hN)))
  go_quiet (fail)
  go_wp2_with fail
  have HB1 := Lib.hid hb
  have hc0 := hc w.heap.size 0
  have hc1 := hc w.heap.size 1
  rw [if_pos (by omega), cell_alloc_if, if_pos rfl] at hc0 hc1
  clear hb hc hf
  have hwr : wrap64 (W : Int) = W := by unfold wrap64; omega
  simp only [hR]
  clear hwr
  go_loopw [9, 39] (fun left i wr => ∃ (k : Nat), k ≤ n ∧ i = .int .i64 k ∧ left = .int .i64 (leftN Q R k) ∧ Arr wr w1.heap.size (digsN Q R k) ∧ Below w1.heap.size w1 wr) (fun _ i _ => n - (intOf i).toNat)
  case atStart => exact ⟨0, Nat.zero_le _, rfl, rfl, Arr.start w1 _ rfl, by (repeat' (first | (with_reducible exact Below.refl _ _) | (with_reducible assumption) | (with_reducible refine Below.alloc ?_ ?_ _) | (with_reducible refine below_drewN ?_ _) | (with_reducible refine Below.drew ?_) | (with_reducible refine Below.setCell ?_ ?_ _) | (with_reducible refine below_via (by assumption) ?_ ?_) | (with_reducible refine below_via (later_below _) ?_ ?_) | (with_reducible exact Nat.le_refl _) | omega | (simp; omega) | (simp; done)))⟩
  case round =>
    obtain ⟨k, hk, rfl, rfl, harr, hbel⟩ := hrel
    have hq := (hbel.cell (p := ⟨w.heap.size, 1, none⟩) (by simp; omega)).trans hc1
    have hsz := hbel.size
    by_cases hlt : k < n
    · obtain ⟨⟨x, hx⟩, hfz⟩ := harr.some k (by omega)
      have hlQ := HL.out k
      obtain ⟨l, hl⟩ : ∃ l, leftN Q R k = l := ⟨_, rfl⟩
      rw [hl] at hlQ
      have hl10 : ((l * 10 : Nat) : Int) = (l : Int) * 10 := by push_cast; rfl
      obtain ⟨d, l', hd, hl', hde, hle, hlQ', hdl⟩ := quo_rem (l * 10) Q (by omega)
      rw [hl10] at hd hl'
      have hd10 : d < 10 := by rw [hde]; exact dig_lt Q l hlQ
      have HL1 : Hid (leftN Q R (k + 1) = l') := by show leftN Q R k * 10 % Q = l'; rw [hl, hle]
      have HD1 : Hid (digsN Q R (k + 1) = digsN Q R k ++ [d]) := by rw [digsN_succ, hl, hde]; exact rfl
      have HA := Lib.hid harr
      have HB := Lib.hid hbel
      have HLL := Lib.hid hl
      clear harr hbel hde hle hl10 hl
      rw [HLL.out]
      go_wp2
      refine ⟨⟨k + 1, hlt, by go_num, by rw [HL1.out]; simp only [hl'], ?_, ?_⟩, by simp [intOf]; omega⟩
      · have ha := HA.out.push (by rw [digsN_len]; omega) d
        rw [digsN_len] at ha
        rw [HD1.out]
        exact ha
      · have hbel := HB.out
        (repeat' (first | (with_reducible exact Below.refl _ _) | (with_reducible assumption) | (with_reducible refine Below.alloc ?_ ?_ _) | (with_reducible refine below_drewN ?_ _) | (with_reducible refine Below.drew ?_) | (with_reducible refine Below.setCell ?_ ?_ _) | (with_reducible refine below_via (by assumption) ?_ ?_) | (with_reducible refine below_via (later_below _) ?_ ?_) | (with_reducible exact Nat.le_refl _) | omega | (simp; omega) | (simp; done)))
    · obtain rfl : k = n := by omega
      have hp := (hbel.cell (p := ⟨w.heap.size, 0, none⟩) (by simp; omega)).trans hc0
      obtain ⟨l, hl⟩ : ∃ l, leftN Q R k = l := ⟨_, rfl⟩
      have hlQ := HL.out k
      rw [hl] at hlQ HFX ⊢
      obtain ⟨D, hDD⟩ : ∃ D, digsN Q R k = D := ⟨_, rfl⟩
      have hDlen := digsN_len Q R k
      rw [hDD] at hDlen HFX HD harr
      have HA := Lib.hid harr
      have HB := Lib.hid hbel
      clear harr hbel hDD hl HL hW hR
      rcases tie_of D W with ⟨hD0, htie⟩ | ⟨D', x, hDx, htie⟩
      · subst hD0
        obtain rfl : k = 0 := by simpa using hDlen.symm
        by_cases hup : Q < 2 * l ∨ 2 * l = Q ∧ W % 2 = 1
        · have hres := HFX.out.trans (round_up (q := Q) (W := W) (l := l) (ds := []) (by rw [htie]; omega))
          have HR := Lib.hid hres
          clear hres htie
          have hup2 : Q < 2 * l ∨ 2 * l = Q ∧ ((W : Int) % 2 == 1) = true := by
            rcases hup with h | h
            · exact .inl h
            · right; exact ⟨h.1, by simp; omega⟩
          clear hup
          have HC0 := Lib.hid hc0
          have HC1 := Lib.hid hc1
          clear hc0 hc1
          have HDL := Lib.hid hDlen
          clear hDlen
          rcases hup2 with hup | ⟨hup, hup'⟩
          all_goals
            go_wp2_with fail -- up
            obtain ⟨wo, hwo⟩ : ∃ wo : World, wo = wr := ⟨_, rfl⟩
            subst hwo
            go_loopw [12] (fun at_ wr => ∃ (j : Nat), j ≤ 0 ∧ at_ = .int .i64 ((j : Int) - 1) ∧ Arr wr w1.heap.size (([]).take j) ∧ Below w1.heap.size w1 wr ∧ Hid (incL ([]) = ((incL (([]).take j)).1 ++ List.replicate (0 - j) 0, (incL (([]).take j)).2))) (fun at_ _ => (intOf at_ + 1).toNat)
            case atStart =>
              refine ⟨0, Nat.le_refl _, by go_num, ?_, HB.out, ?_⟩
              · rw [List.take_of_length_le (by rw [HDL.out]; exact Nat.le_refl _)]; exact HA.out
              · rw [List.take_of_length_le (by rw [HDL.out]; exact Nat.le_refl _)]; show _ = _; simp
            case round =>
              obtain ⟨j, hj, rfl, harr, hbel, hinc⟩ := hrel
              have hq := (hbel.cell (p := ⟨w.heap.size, 1, none⟩) (by simp; omega)).trans HC1.out
              have hp := (hbel.cell (p := ⟨w.heap.size, 0, none⟩) (by simp; omega)).trans HC0.out
              have hsz := hbel.size
              rcases Nat.eq_zero_or_pos j with hj0 | hj0
              · subst hj0
                have hfin : fixT P Q 0 = (W + 1, List.replicate 0 0) := by
                  rw [HR.out, hinc.out]; simp [incL]
                have harr2 : Arr wr w1.heap.size (List.replicate 0 0) := (harr.zeros 0 (by simp <;> omega)).of_eq (by simp)
                have HFIN := Lib.hid hfin
                have HA2 := Lib.hid harr2
                have HB2 := Lib.hid hbel
                clear harr hbel hinc hfin harr2
                go_wp2_with fail -- all nines
                have hbel := HB2.out
                have hb1 := HB1.out
                have hda := dec_says _ false ((W : Int) + 1) w1.heap.size 0 (List.replicate 0 0) (HA2.out) (by simp) (by simp) (by omega) (by omega) (HT.out.later (by (repeat' (first | (with_reducible exact Below.refl _ _) | (with_reducible assumption) | (with_reducible refine Below.alloc ?_ ?_ _) | (with_reducible refine below_drewN ?_ _) | (with_reducible refine Below.drew ?_) | (with_reducible refine Below.setCell ?_ ?_ _) | (with_reducible refine below_via (by assumption) ?_ ?_) | (with_reducible refine below_via (later_below _) ?_ ?_) | (with_reducible exact Nat.le_refl _) | omega | (simp; omega) | (simp; done)))))
                have HDA := Lib.hid hda
                have HBB := Lib.hid hbel
                have HBC := Lib.hid hb1
                clear hda hbel hb1
                (refine wp_region_calm (by kernel_rfl) (by kernel_rfl) ?_; refine calm_mem ?_; intro N hN hne hcu; (try simp at hN); subst hN; (repeat ((refine wpQuiet_step (fun K hK => ?_)); go_simp; (repeat (simp only [↓IntWalk.iteOmega]; go_simp)); (first | (refine hK _ ?_; clear hK K) | (apply Exists.intro; refine ⟨fun _ => ?_, hK _ ?_⟩; ((go_at_call 50; refine calm_of (HDA.out _ ?_); (repeat' (first | (with_reducible exact Below.refl _ _) | (with_reducible assumption) | (with_reducible refine Below.alloc ?_ ?_ _) | (with_reducible refine below_drewN ?_ _) | (with_reducible refine Below.drew ?_) | (with_reducible refine Below.setCell ?_ ?_ _) | (with_reducible refine below_via (by assumption) ?_ ?_) | (with_reducible refine below_via (later_below _) ?_ ?_) | (with_reducible exact Nat.le_refl _) | omega | (simp; omega) | (simp; done))))); clear hK K)))); refine wpQuiet_nil ?_; intro _ hw'; obtain ⟨⟨w1, hb⟩, hw''⟩ := hw'; subst hw''; clear hcu hne; (try dsimp only); (refine mem hb ?_; intro N hN hz hc hf; (try simp at hN); subst hN))
                go_wp2_with fail
                ((try simp only [Exit.inBlock, Exit.then]); refine bodyPost_ret (by first | (simp [results, Tryz.results22, go_sem, *]; done) | (simp [results, Tryz.results22, go_sem, *]; rfl) | (simp [results, Tryz.results22, go_sem, ↓IntWalk.iteOmega, *]; try rfl)) rfl ?_)
                have hbel := HBB.out
                have hb1 := HBC.out
                refine ⟨?_, ?_⟩
                · rw [HFIN.out]; rfl
                · (repeat' (first | (with_reducible exact Below.refl _ _) | (with_reducible assumption) | (with_reducible refine Below.alloc ?_ ?_ _) | (with_reducible refine below_drewN ?_ _) | (with_reducible refine Below.drew ?_) | (with_reducible refine Below.setCell ?_ ?_ _) | (with_reducible refine below_via (by assumption) ?_ ?_) | (with_reducible refine below_via (later_below _) ?_ ?_) | (with_reducible exact Nat.le_refl _) | omega | (simp; omega) | (simp; done)))
              · omega
        · have hres := HFX.out.trans (round_no (q := Q) (W := W) (l := l) (ds := []) (by rw [htie]; omega))
          have HR := Lib.hid hres
          clear hres htie
          have hup2 : 2 * l < Q ∨ 2 * l = Q ∧ ((W : Int) % 2 == 1) = false := by
            by_cases h : 2 * l < Q
            · exact .inl h
            · right; exact ⟨by omega, by simp; omega⟩
          clear hup
          rcases hup2 with hup | ⟨hup, hup'⟩
          all_goals
            go_wp2_with fail -- no
            have hbel := HB.out
            have hb1 := HB1.out
            have hda := dec_says _ false (W) w1.heap.size 0 [] (HA.out) (rfl) (by simp) (by omega) (by omega) (HT.out.later (by (repeat' (first | (with_reducible exact Below.refl _ _) | (with_reducible assumption) | (with_reducible refine Below.alloc ?_ ?_ _) | (with_reducible refine below_drewN ?_ _) | (with_reducible refine Below.drew ?_) | (with_reducible refine Below.setCell ?_ ?_ _) | (with_reducible refine below_via (by assumption) ?_ ?_) | (with_reducible refine below_via (later_below _) ?_ ?_) | (with_reducible exact Nat.le_refl _) | omega | (simp; omega) | (simp; done)))))
            have HDA := Lib.hid hda
            have HBB := Lib.hid hbel
            have HBC := Lib.hid hb1
            clear hda hbel hb1
            (refine wp_region_calm (by kernel_rfl) (by kernel_rfl) ?_; refine calm_mem ?_; intro N hN hne hcu; (try simp at hN); subst hN; (repeat ((refine wpQuiet_step (fun K hK => ?_)); go_simp; (repeat (simp only [↓IntWalk.iteOmega]; go_simp)); (first | (refine hK _ ?_; clear hK K) | (apply Exists.intro; refine ⟨fun _ => ?_, hK _ ?_⟩; ((go_at_call 50; refine calm_of (HDA.out _ ?_); (repeat' (first | (with_reducible exact Below.refl _ _) | (with_reducible assumption) | (with_reducible refine Below.alloc ?_ ?_ _) | (with_reducible refine below_drewN ?_ _) | (with_reducible refine Below.drew ?_) | (with_reducible refine Below.setCell ?_ ?_ _) | (with_reducible refine below_via (by assumption) ?_ ?_) | (with_reducible refine below_via (later_below _) ?_ ?_) | (with_reducible exact Nat.le_refl _) | omega | (simp; omega) | (simp; done))))); clear hK K)))); refine wpQuiet_nil ?_; intro _ hw'; obtain ⟨⟨w1, hb⟩, hw''⟩ := hw'; subst hw''; clear hcu hne; (try dsimp only); (refine mem hb ?_; intro N hN hz hc hf; (try simp at hN); subst hN))
            go_wp2_with fail
            ((try simp only [Exit.inBlock, Exit.then]); refine bodyPost_ret (by first | (simp [results, Tryz.results22, go_sem, *]; done) | (simp [results, Tryz.results22, go_sem, *]; rfl) | (simp [results, Tryz.results22, go_sem, ↓IntWalk.iteOmega, *]; try rfl)) rfl ?_)
            have hbel := HBB.out
            have hb1 := HBC.out
            refine ⟨?_, ?_⟩
            · rw [HR.out]
            · (repeat' (first | (with_reducible exact Below.refl _ _) | (with_reducible assumption) | (with_reducible refine Below.alloc ?_ ?_ _) | (with_reducible refine below_drewN ?_ _) | (with_reducible refine Below.drew ?_) | (with_reducible refine Below.setCell ?_ ?_ _) | (with_reducible refine below_via (by assumption) ?_ ?_) | (with_reducible refine below_via (later_below _) ?_ ?_) | (with_reducible exact Nat.le_refl _) | omega | (simp; omega) | (simp; done)))
      · have hkp : 0 < k := by rw [hDx] at hDlen; simp at hDlen; omega
        have hlx : D'.length = k - 1 := by rw [hDx] at hDlen; simp at hDlen; omega
        have hx := HA.out.cell (k - 1) x (by rw [pad12_at D (k - 1) (by omega)]; subst hDx; rw [List.getElem_append_right (by omega)]; simp)
        have hx10 := HD.out x (by rw [hDx]; simp)
        clear hDx hlx
        by_cases hup : Q < 2 * l ∨ 2 * l = Q ∧ x % 2 = 1
        · have hres := HFX.out.trans (round_up (q := Q) (W := W) (l := l) (ds := D) (by rw [htie]; omega))
          have HR := Lib.hid hres
          clear hres htie
          have hup2 : Q < 2 * l ∨ 2 * l = Q ∧ ((x : Int) % 2 == 1) = true := by
            rcases hup with h | h
            · exact .inl h
            · right; exact ⟨h.1, by simp; omega⟩
          clear hup
          have HC0 := Lib.hid hc0
          have HC1 := Lib.hid hc1
          clear hc0 hc1
          have HDL := Lib.hid hDlen
          clear hDlen
          rcases hup2 with hup | ⟨hup, hup'⟩
          all_goals
            go_wp2_with fail -- up
            obtain ⟨wo, hwo⟩ : ∃ wo : World, wo = wr := ⟨_, rfl⟩
            subst hwo
            go_loopw [12] (fun at_ wr => ∃ (j : Nat), j ≤ k ∧ at_ = .int .i64 ((j : Int) - 1) ∧ Arr wr w1.heap.size ((D).take j) ∧ Below w1.heap.size w1 wr ∧ Hid (incL (D) = ((incL ((D).take j)).1 ++ List.replicate (k - j) 0, (incL ((D).take j)).2))) (fun at_ _ => (intOf at_ + 1).toNat)
            case atStart =>
              refine ⟨k, Nat.le_refl _, by go_num, ?_, HB.out, ?_⟩
              · rw [List.take_of_length_le (by rw [HDL.out]; exact Nat.le_refl _)]; exact HA.out
              · rw [List.take_of_length_le (by rw [HDL.out]; exact Nat.le_refl _)]; show _ = _; simp
            case round =>
              obtain ⟨j, hj, rfl, harr, hbel, hinc⟩ := hrel
              have hq := (hbel.cell (p := ⟨w.heap.size, 1, none⟩) (by simp; omega)).trans HC1.out
              have hp := (hbel.cell (p := ⟨w.heap.size, 0, none⟩) (by simp; omega)).trans HC0.out
              have hsz := hbel.size
              rcases Nat.eq_zero_or_pos j with hj0 | hj0
              · subst hj0
                have hfin : fixT P Q k = (W + 1, List.replicate k 0) := by
                  rw [HR.out, hinc.out]; simp [incL]
                have harr2 : Arr wr w1.heap.size (List.replicate k 0) := (harr.zeros k (by simp <;> omega)).of_eq (by simp)
                have HFIN := Lib.hid hfin
                have HA2 := Lib.hid harr2
                have HB2 := Lib.hid hbel
                clear harr hbel hinc hfin harr2
                go_wp2_with fail -- all nines
                have hbel := HB2.out
                have hb1 := HB1.out
                have hda := dec_says _ false ((W : Int) + 1) w1.heap.size k (List.replicate k 0) (HA2.out) (by simp) (by intro d hd; simp [List.mem_replicate] at hd; omega) (by omega) (by omega) (HT.out.later (by (repeat' (first | (with_reducible exact Below.refl _ _) | (with_reducible assumption) | (with_reducible refine Below.alloc ?_ ?_ _) | (with_reducible refine below_drewN ?_ _) | (with_reducible refine Below.drew ?_) | (with_reducible refine Below.setCell ?_ ?_ _) | (with_reducible refine below_via (by assumption) ?_ ?_) | (with_reducible refine below_via (later_below _) ?_ ?_) | (with_reducible exact Nat.le_refl _) | omega | (simp; omega) | (simp; done)))))
                have HDA := Lib.hid hda
                have HBB := Lib.hid hbel
                have HBC := Lib.hid hb1
                clear hda hbel hb1
                (refine wp_region_calm (by kernel_rfl) (by kernel_rfl) ?_; refine calm_mem ?_; intro N hN hne hcu; (try simp at hN); subst hN; (repeat ((refine wpQuiet_step (fun K hK => ?_)); go_simp; (repeat (simp only [↓IntWalk.iteOmega]; go_simp)); (first | (refine hK _ ?_; clear hK K) | (apply Exists.intro; refine ⟨fun _ => ?_, hK _ ?_⟩; ((go_at_call 50; refine calm_of (HDA.out _ ?_); (repeat' (first | (with_reducible exact Below.refl _ _) | (with_reducible assumption) | (with_reducible refine Below.alloc ?_ ?_ _) | (with_reducible refine below_drewN ?_ _) | (with_reducible refine Below.drew ?_) | (with_reducible refine Below.setCell ?_ ?_ _) | (with_reducible refine below_via (by assumption) ?_ ?_) | (with_reducible refine below_via (later_below _) ?_ ?_) | (with_reducible exact Nat.le_refl _) | omega | (simp; omega) | (simp; done))))); clear hK K)))); refine wpQuiet_nil ?_; intro _ hw'; obtain ⟨⟨w1, hb⟩, hw''⟩ := hw'; subst hw''; clear hcu hne; (try dsimp only); (refine mem hb ?_; intro N hN hz hc hf; (try simp at hN); subst hN))
                go_wp2_with fail
                ((try simp only [Exit.inBlock, Exit.then]); refine bodyPost_ret (by first | (simp [results, Tryz.results22, go_sem, *]; done) | (simp [results, Tryz.results22, go_sem, *]; rfl) | (simp [results, Tryz.results22, go_sem, ↓IntWalk.iteOmega, *]; try rfl)) rfl ?_)
                have hbel := HBB.out
                have hb1 := HBC.out
                refine ⟨?_, ?_⟩
                · rw [HFIN.out]; rfl
                · (repeat' (first | (with_reducible exact Below.refl _ _) | (with_reducible assumption) | (with_reducible refine Below.alloc ?_ ?_ _) | (with_reducible refine below_drewN ?_ _) | (with_reducible refine Below.drew ?_) | (with_reducible refine Below.setCell ?_ ?_ _) | (with_reducible refine below_via (by assumption) ?_ ?_) | (with_reducible refine below_via (later_below _) ?_ ?_) | (with_reducible exact Nat.le_refl _) | omega | (simp; omega) | (simp; done)))
              · obtain ⟨i, rfl⟩ : ∃ i, j = i + 1 := ⟨j - 1, by omega⟩
                have hiD : i < D.length := by rw [HDL.out]; omega
                have htk : D.take (i + 1) = D.take i ++ [D[i]] := List.take_succ_eq_append_getElem hiD
                have hiE : (D.take i).length = i := by rw [List.length_take]; omega
                have hy10 := HD.out (D[i]) (List.getElem_mem hiD)
                have hE10 : ∀ d ∈ D.take i, d < 10 := fun d hd => HD.out d (List.mem_of_mem_take hd)
                obtain ⟨E, hE⟩ : ∃ E, D.take i = E := ⟨_, rfl⟩
                obtain ⟨y, hy⟩ : ∃ y, D[i] = y := ⟨_, rfl⟩
                rw [htk] at harr hinc
                rw [hy] at harr hinc hy10
                have hpi := pad12_at (D.take i ++ [y]) i (by simp; omega)
                rw [List.getElem_append_right (by omega)] at hpi
                have hx9 := harr.cell i y (by rw [hpi]; simp)
                have hfz9 := (harr.some i (by omega)).2
                rw [hE] at harr hinc hiE hE10
                clear htk hpi
                have HE := Lib.hid hE
                have HY := Lib.hid hy
                have HIE := Lib.hid hiE
                have HE10 := Lib.hid hE10
                have HA2 := Lib.hid harr
                have HB2 := Lib.hid hbel
                clear hE hy hiE hE10 harr hbel
                by_cases hy9 : y = 9
                · subst hy9
                  go_wp2_with fail -- a nine
                  refine ⟨⟨i, by omega, by go_num, ?_, ?_, ?_⟩, by simp [intOf] <;> omega⟩
                  · rw [HE.out]
                    have ha := HA2.out.zero
                    rw [HIE.out] at ha
                    exact ha
                  · have hbel := HB2.out
                    (repeat' (first | (with_reducible exact Below.refl _ _) | (with_reducible assumption) | (with_reducible refine Below.alloc ?_ ?_ _) | (with_reducible refine below_drewN ?_ _) | (with_reducible refine Below.drew ?_) | (with_reducible refine Below.setCell ?_ ?_ _) | (with_reducible refine below_via (by assumption) ?_ ?_) | (with_reducible refine below_via (later_below _) ?_ ?_) | (with_reducible exact Nat.le_refl _) | omega | (simp; omega) | (simp; done)))
                  · rw [HE.out]
                    show _ = _
                    rw [hinc.out, incL_snoc9]
                    have e : k - i = (k - (i + 1)) + 1 := by omega
                    rw [e, List.replicate_succ]
                    simp
                · have hy9' : ((y : Int) == 9) = false := by simp; omega
                  have hfin : fixT P Q k = (W, E ++ [y + 1] ++ List.replicate (k - (i + 1)) 0) := by
                    rw [HR.out, hinc.out, incL_snoc hy9]; simp
                  have HFIN := Lib.hid hfin
                  clear hfin hinc
                  go_wp2_with fail -- no nine
                  have ha2 := HA2.out.turn (y + 1)
                  rw [HIE.out, show (((y + 1 : Nat)) : Int) = (y : Int) + 1 from rfl] at ha2
                  have ha3 := ha2.zeros (k - (i + 1)) (by simp; have := HIE.out; omega)
                  have hl3 : (E ++ [y + 1] ++ List.replicate (k - (i + 1)) 0).length = k := by simp; have := HIE.out; omega
                  have hd3 : ∀ d ∈ E ++ [y + 1] ++ List.replicate (k - (i + 1)) 0, d < 10 := by
                    intro d hd
                    simp only [List.mem_append, List.mem_singleton, List.mem_replicate] at hd
                    rcases hd with (hd | hd) | hd
                    · exact HE10.out d hd
                    · omega
                    · omega
                  clear ha2
                  have hbel := HB2.out
                  have hb1 := HB1.out
                  have hda := dec_says _ false (W) w1.heap.size k (E ++ [y + 1] ++ List.replicate (k - (i + 1)) 0) (ha3) (hl3) (hd3) (by omega) (by omega) (HT.out.later (by (repeat' (first | (with_reducible exact Below.refl _ _) | (with_reducible assumption) | (with_reducible refine Below.alloc ?_ ?_ _) | (with_reducible refine below_drewN ?_ _) | (with_reducible refine Below.drew ?_) | (with_reducible refine Below.setCell ?_ ?_ _) | (with_reducible refine below_via (by assumption) ?_ ?_) | (with_reducible refine below_via (later_below _) ?_ ?_) | (with_reducible exact Nat.le_refl _) | omega | (simp; omega) | (simp; done)))))
                  have HDA := Lib.hid hda
                  have HBB := Lib.hid hbel
                  have HBC := Lib.hid hb1
                  clear hda hbel hb1 ha3 hl3 hd3
                  (refine wp_region_calm (by kernel_rfl) (by kernel_rfl) ?_; refine calm_mem ?_; intro N hN hne hcu; (try simp at hN); subst hN; (repeat ((refine wpQuiet_step (fun K hK => ?_)); go_simp; (repeat (simp only [↓IntWalk.iteOmega]; go_simp)); (first | (refine hK _ ?_; clear hK K) | (apply Exists.intro; refine ⟨fun _ => ?_, hK _ ?_⟩; ((go_at_call 50; refine calm_of (HDA.out _ ?_); (repeat' (first | (with_reducible exact Below.refl _ _) | (with_reducible assumption) | (with_reducible refine Below.alloc ?_ ?_ _) | (with_reducible refine below_drewN ?_ _) | (with_reducible refine Below.drew ?_) | (with_reducible refine Below.setCell ?_ ?_ _) | (with_reducible refine below_via (by assumption) ?_ ?_) | (with_reducible refine below_via (later_below _) ?_ ?_) | (with_reducible exact Nat.le_refl _) | omega | (simp; omega) | (simp; done))))); clear hK K)))); refine wpQuiet_nil ?_; intro _ hw'; obtain ⟨⟨w1, hb⟩, hw''⟩ := hw'; subst hw''; clear hcu hne; (try dsimp only); (refine mem hb ?_; intro N hN hz hc hf; (try simp at hN); subst hN))
                  go_wp2_with fail
                  ((try simp only [Exit.inBlock, Exit.then]); refine bodyPost_ret (by first | (simp [results, Tryz.results22, go_sem, *]; done) | (simp [results, Tryz.results22, go_sem, *]; rfl) | (simp [results, Tryz.results22, go_sem, ↓IntWalk.iteOmega, *]; try rfl)) rfl ?_)
                  have hbel := HBB.out
                  have hb1 := HBC.out
                  refine ⟨?_, ?_⟩
                  · rw [HFIN.out]; simp
                  · (repeat' (first | (with_reducible exact Below.refl _ _) | (with_reducible assumption) | (with_reducible refine Below.alloc ?_ ?_ _) | (with_reducible refine below_drewN ?_ _) | (with_reducible refine Below.drew ?_) | (with_reducible refine Below.setCell ?_ ?_ _) | (with_reducible refine below_via (by assumption) ?_ ?_) | (with_reducible refine below_via (later_below _) ?_ ?_) | (with_reducible exact Nat.le_refl _) | omega | (simp; omega) | (simp; done)))
        · have hres := HFX.out.trans (round_no (q := Q) (W := W) (l := l) (ds := D) (by rw [htie]; omega))
          have HR := Lib.hid hres
          clear hres htie
          have hup2 : 2 * l < Q ∨ 2 * l = Q ∧ ((x : Int) % 2 == 1) = false := by
            by_cases h : 2 * l < Q
            · exact .inl h
            · right; exact ⟨by omega, by simp; omega⟩
          clear hup
          rcases hup2 with hup | ⟨hup, hup'⟩
          all_goals
            go_wp2_with fail -- no
            have hbel := HB.out
            have hb1 := HB1.out
            have hda := dec_says _ false (W) w1.heap.size k D (HA.out) (hDlen) (HD.out) (by omega) (by omega) (HT.out.later (by (repeat' (first | (with_reducible exact Below.refl _ _) | (with_reducible assumption) | (with_reducible refine Below.alloc ?_ ?_ _) | (with_reducible refine below_drewN ?_ _) | (with_reducible refine Below.drew ?_) | (with_reducible refine Below.setCell ?_ ?_ _) | (with_reducible refine below_via (by assumption) ?_ ?_) | (with_reducible refine below_via (later_below _) ?_ ?_) | (with_reducible exact Nat.le_refl _) | omega | (simp; omega) | (simp; done)))))
            have HDA := Lib.hid hda
            have HBB := Lib.hid hbel
            have HBC := Lib.hid hb1
            clear hda hbel hb1
            (refine wp_region_calm (by kernel_rfl) (by kernel_rfl) ?_; refine calm_mem ?_; intro N hN hne hcu; (try simp at hN); subst hN; (repeat ((refine wpQuiet_step (fun K hK => ?_)); go_simp; (repeat (simp only [↓IntWalk.iteOmega]; go_simp)); (first | (refine hK _ ?_; clear hK K) | (apply Exists.intro; refine ⟨fun _ => ?_, hK _ ?_⟩; ((go_at_call 50; refine calm_of (HDA.out _ ?_); (repeat' (first | (with_reducible exact Below.refl _ _) | (with_reducible assumption) | (with_reducible refine Below.alloc ?_ ?_ _) | (with_reducible refine below_drewN ?_ _) | (with_reducible refine Below.drew ?_) | (with_reducible refine Below.setCell ?_ ?_ _) | (with_reducible refine below_via (by assumption) ?_ ?_) | (with_reducible refine below_via (later_below _) ?_ ?_) | (with_reducible exact Nat.le_refl _) | omega | (simp; omega) | (simp; done))))); clear hK K)))); refine wpQuiet_nil ?_; intro _ hw'; obtain ⟨⟨w1, hb⟩, hw''⟩ := hw'; subst hw''; clear hcu hne; (try dsimp only); (refine mem hb ?_; intro N hN hz hc hf; (try simp at hN); subst hN))
            go_wp2_with fail
            ((try simp only [Exit.inBlock, Exit.then]); refine bodyPost_ret (by first | (simp [results, Tryz.results22, go_sem, *]; done) | (simp [results, Tryz.results22, go_sem, *]; rfl) | (simp [results, Tryz.results22, go_sem, ↓IntWalk.iteOmega, *]; try rfl)) rfl ?_)
            have hbel := HBB.out
            have hb1 := HBC.out
            refine ⟨?_, ?_⟩
            · rw [HR.out]
            · (repeat' (first | (with_reducible exact Below.refl _ _) | (with_reducible assumption) | (with_reducible refine Below.alloc ?_ ?_ _) | (with_reducible refine below_drewN ?_ _) | (with_reducible refine Below.drew ?_) | (with_reducible refine Below.setCell ?_ ?_ _) | (with_reducible refine below_via (by assumption) ?_ ?_) | (with_reducible refine below_via (later_below _) ?_ ?_) | (with_reducible exact Nat.le_refl _) | omega | (simp; omega) | (simp; done)))

set_option maxHeartbeats 8000000 in
set_option maxRecDepth 100000 in
theorem fixed_neg (P Q n : Nat) (w : World) (hn : n ≤ 12) (hP0 : 0 < P) (hv : vldB (-(P : Int)) Q = true) (hT : Tabs w) :
    Calls Tryz.prog 22 #[.agg #[.int .i64 (-(P : Int)), .int .i64 Q], .int .i64 n] w fun e w' => e = .returned (.tuple #[.string (mkS (decL true (fixT P Q n).1 (fixT P Q n).2)), .int .i64 0]) ∧ Below w.heap.size w w' := by
  obtain ⟨b1, b2, b3, b4⟩ := vld_bd hv
  have HT := Lib.hid hT
  clear hT
  obtain ⟨W, R, hW, hR, hWe, hRe, hRQ, hWP⟩ := quo_rem P Q (by omega)
  have HFX : Hid (fixT P Q n = roundT Q W (leftN Q R n) (digsN Q R n)) := by rw [hWe, hRe]; rfl
  have HL := Lib.hid (leftN_lt Q R (by omega) hRQ)
  have HD := Lib.hid (digsN_lt Q R (by omega) hRQ n)
  clear hWe hRe
  go_enter Tryz.func22, Tryz.ntmps22
  go_wp2_with (first | (go_at_call 48; refine (valid_any _ _ _ (by omega) (by omega)).mono ?_; rintro e w1 ⟨rfl, hb⟩; (refine mem hb ?_; intro N hN hz hc hf; (try simp at hN); subst hN)))
  go_quiet (fail)
  go_wp2_with fail
  have HB1 := Lib.hid hb
  have hc0 := hc w.heap.size 0
  have hc1 := hc w.heap.size 1
  rw [if_pos (by omega), cell_alloc_if, if_pos rfl] at hc0 hc1
  clear hb hc hf
  have hwr : wrap64 (W : Int) = W := by unfold wrap64; omega
  simp only [hR]
  clear hwr
  go_loopw [9, 39] (fun left i wr => ∃ (k : Nat), k ≤ n ∧ i = .int .i64 k ∧ left = .int .i64 (leftN Q R k) ∧ Arr wr w1.heap.size (digsN Q R k) ∧ Below w1.heap.size w1 wr) (fun _ i _ => n - (intOf i).toNat)
  case atStart => exact ⟨0, Nat.zero_le _, rfl, rfl, Arr.start w1 _ rfl, by (repeat' (first | (with_reducible exact Below.refl _ _) | (with_reducible assumption) | (with_reducible refine Below.alloc ?_ ?_ _) | (with_reducible refine below_drewN ?_ _) | (with_reducible refine Below.drew ?_) | (with_reducible refine Below.setCell ?_ ?_ _) | (with_reducible refine below_via (by assumption) ?_ ?_) | (with_reducible refine below_via (later_below _) ?_ ?_) | (with_reducible exact Nat.le_refl _) | omega | (simp; omega) | (simp; done)))⟩
  case round =>
    obtain ⟨k, hk, rfl, rfl, harr, hbel⟩ := hrel
    have hq := (hbel.cell (p := ⟨w.heap.size, 1, none⟩) (by simp; omega)).trans hc1
    have hsz := hbel.size
    by_cases hlt : k < n
    · obtain ⟨⟨x, hx⟩, hfz⟩ := harr.some k (by omega)
      have hlQ := HL.out k
      obtain ⟨l, hl⟩ : ∃ l, leftN Q R k = l := ⟨_, rfl⟩
      rw [hl] at hlQ
      have hl10 : ((l * 10 : Nat) : Int) = (l : Int) * 10 := by push_cast; rfl
      obtain ⟨d, l', hd, hl', hde, hle, hlQ', hdl⟩ := quo_rem (l * 10) Q (by omega)
      rw [hl10] at hd hl'
      have hd10 : d < 10 := by rw [hde]; exact dig_lt Q l hlQ
      have HL1 : Hid (leftN Q R (k + 1) = l') := by show leftN Q R k * 10 % Q = l'; rw [hl, hle]
      have HD1 : Hid (digsN Q R (k + 1) = digsN Q R k ++ [d]) := by rw [digsN_succ, hl, hde]; exact rfl
      have HA := Lib.hid harr
      have HB := Lib.hid hbel
      have HLL := Lib.hid hl
      clear harr hbel hde hle hl10 hl
      rw [HLL.out]
      go_wp2
      refine ⟨⟨k + 1, hlt, by go_num, by rw [HL1.out]; simp only [hl'], ?_, ?_⟩, by simp [intOf]; omega⟩
      · have ha := HA.out.push (by rw [digsN_len]; omega) d
        rw [digsN_len] at ha
        rw [HD1.out]
        exact ha
      · have hbel := HB.out
        (repeat' (first | (with_reducible exact Below.refl _ _) | (with_reducible assumption) | (with_reducible refine Below.alloc ?_ ?_ _) | (with_reducible refine below_drewN ?_ _) | (with_reducible refine Below.drew ?_) | (with_reducible refine Below.setCell ?_ ?_ _) | (with_reducible refine below_via (by assumption) ?_ ?_) | (with_reducible refine below_via (later_below _) ?_ ?_) | (with_reducible exact Nat.le_refl _) | omega | (simp; omega) | (simp; done)))
    · obtain rfl : k = n := by omega
      have hp := (hbel.cell (p := ⟨w.heap.size, 0, none⟩) (by simp; omega)).trans hc0
      obtain ⟨l, hl⟩ : ∃ l, leftN Q R k = l := ⟨_, rfl⟩
      have hlQ := HL.out k
      rw [hl] at hlQ HFX ⊢
      obtain ⟨D, hDD⟩ : ∃ D, digsN Q R k = D := ⟨_, rfl⟩
      have hDlen := digsN_len Q R k
      rw [hDD] at hDlen HFX HD harr
      have HA := Lib.hid harr
      have HB := Lib.hid hbel
      clear harr hbel hDD hl HL hW hR
      rcases tie_of D W with ⟨hD0, htie⟩ | ⟨D', x, hDx, htie⟩
      · subst hD0
        obtain rfl : k = 0 := by simpa using hDlen.symm
        by_cases hup : Q < 2 * l ∨ 2 * l = Q ∧ W % 2 = 1
        · have hres := HFX.out.trans (round_up (q := Q) (W := W) (l := l) (ds := []) (by rw [htie]; omega))
          have HR := Lib.hid hres
          clear hres htie
          have hup2 : Q < 2 * l ∨ 2 * l = Q ∧ ((W : Int) % 2 == 1) = true := by
            rcases hup with h | h
            · exact .inl h
            · right; exact ⟨h.1, by simp; omega⟩
          clear hup
          have HC0 := Lib.hid hc0
          have HC1 := Lib.hid hc1
          clear hc0 hc1
          have HDL := Lib.hid hDlen
          clear hDlen
          rcases hup2 with hup | ⟨hup, hup'⟩
          all_goals
            go_wp2_with fail -- up
            obtain ⟨wo, hwo⟩ : ∃ wo : World, wo = wr := ⟨_, rfl⟩
            subst hwo
            go_loopw [12] (fun at_ wr => ∃ (j : Nat), j ≤ 0 ∧ at_ = .int .i64 ((j : Int) - 1) ∧ Arr wr w1.heap.size (([]).take j) ∧ Below w1.heap.size w1 wr ∧ Hid (incL ([]) = ((incL (([]).take j)).1 ++ List.replicate (0 - j) 0, (incL (([]).take j)).2))) (fun at_ _ => (intOf at_ + 1).toNat)
            case atStart =>
              refine ⟨0, Nat.le_refl _, by go_num, ?_, HB.out, ?_⟩
              · rw [List.take_of_length_le (by rw [HDL.out]; exact Nat.le_refl _)]; exact HA.out
              · rw [List.take_of_length_le (by rw [HDL.out]; exact Nat.le_refl _)]; show _ = _; simp
            case round =>
              obtain ⟨j, hj, rfl, harr, hbel, hinc⟩ := hrel
              have hq := (hbel.cell (p := ⟨w.heap.size, 1, none⟩) (by simp; omega)).trans HC1.out
              have hp := (hbel.cell (p := ⟨w.heap.size, 0, none⟩) (by simp; omega)).trans HC0.out
              have hsz := hbel.size
              rcases Nat.eq_zero_or_pos j with hj0 | hj0
              · subst hj0
                have hfin : fixT P Q 0 = (W + 1, List.replicate 0 0) := by
                  rw [HR.out, hinc.out]; simp [incL]
                have harr2 : Arr wr w1.heap.size (List.replicate 0 0) := (harr.zeros 0 (by simp <;> omega)).of_eq (by simp)
                have HFIN := Lib.hid hfin
                have HA2 := Lib.hid harr2
                have HB2 := Lib.hid hbel
                clear harr hbel hinc hfin harr2
                go_wp2_with fail -- all nines
                have hbel := HB2.out
                have hb1 := HB1.out
                have hda := dec_says _ true ((W : Int) + 1) w1.heap.size 0 (List.replicate 0 0) (HA2.out) (by simp) (by simp) (by omega) (by omega) (HT.out.later (by (repeat' (first | (with_reducible exact Below.refl _ _) | (with_reducible assumption) | (with_reducible refine Below.alloc ?_ ?_ _) | (with_reducible refine below_drewN ?_ _) | (with_reducible refine Below.drew ?_) | (with_reducible refine Below.setCell ?_ ?_ _) | (with_reducible refine below_via (by assumption) ?_ ?_) | (with_reducible refine below_via (later_below _) ?_ ?_) | (with_reducible exact Nat.le_refl _) | omega | (simp; omega) | (simp; done)))))
                have HDA := Lib.hid hda
                have HBB := Lib.hid hbel
                have HBC := Lib.hid hb1
                clear hda hbel hb1
                (refine wp_region_calm (by kernel_rfl) (by kernel_rfl) ?_; refine calm_mem ?_; intro N hN hne hcu; (try simp at hN); subst hN; (repeat ((refine wpQuiet_step (fun K hK => ?_)); go_simp; (repeat (simp only [↓IntWalk.iteOmega]; go_simp)); (first | (refine hK _ ?_; clear hK K) | (apply Exists.intro; refine ⟨fun _ => ?_, hK _ ?_⟩; ((go_at_call 50; refine calm_of (HDA.out _ ?_); (repeat' (first | (with_reducible exact Below.refl _ _) | (with_reducible assumption) | (with_reducible refine Below.alloc ?_ ?_ _) | (with_reducible refine below_drewN ?_ _) | (with_reducible refine Below.drew ?_) | (with_reducible refine Below.setCell ?_ ?_ _) | (with_reducible refine below_via (by assumption) ?_ ?_) | (with_reducible refine below_via (later_below _) ?_ ?_) | (with_reducible exact Nat.le_refl _) | omega | (simp; omega) | (simp; done))))); clear hK K)))); refine wpQuiet_nil ?_; intro _ hw'; obtain ⟨⟨w1, hb⟩, hw''⟩ := hw'; subst hw''; clear hcu hne; (try dsimp only); (refine mem hb ?_; intro N hN hz hc hf; (try simp at hN); subst hN))
                go_wp2_with fail
                ((try simp only [Exit.inBlock, Exit.then]); refine bodyPost_ret (by first | (simp [results, Tryz.results22, go_sem, *]; done) | (simp [results, Tryz.results22, go_sem, *]; rfl) | (simp [results, Tryz.results22, go_sem, ↓IntWalk.iteOmega, *]; try rfl)) rfl ?_)
                have hbel := HBB.out
                have hb1 := HBC.out
                refine ⟨?_, ?_⟩
                · rw [HFIN.out]; rfl
                · (repeat' (first | (with_reducible exact Below.refl _ _) | (with_reducible assumption) | (with_reducible refine Below.alloc ?_ ?_ _) | (with_reducible refine below_drewN ?_ _) | (with_reducible refine Below.drew ?_) | (with_reducible refine Below.setCell ?_ ?_ _) | (with_reducible refine below_via (by assumption) ?_ ?_) | (with_reducible refine below_via (later_below _) ?_ ?_) | (with_reducible exact Nat.le_refl _) | omega | (simp; omega) | (simp; done)))
              · omega
        · have hres := HFX.out.trans (round_no (q := Q) (W := W) (l := l) (ds := []) (by rw [htie]; omega))
          have HR := Lib.hid hres
          clear hres htie
          have hup2 : 2 * l < Q ∨ 2 * l = Q ∧ ((W : Int) % 2 == 1) = false := by
            by_cases h : 2 * l < Q
            · exact .inl h
            · right; exact ⟨by omega, by simp; omega⟩
          clear hup
          rcases hup2 with hup | ⟨hup, hup'⟩
          all_goals
            go_wp2_with fail -- no
            have hbel := HB.out
            have hb1 := HB1.out
            have hda := dec_says _ true (W) w1.heap.size 0 [] (HA.out) (rfl) (by simp) (by omega) (by omega) (HT.out.later (by (repeat' (first | (with_reducible exact Below.refl _ _) | (with_reducible assumption) | (with_reducible refine Below.alloc ?_ ?_ _) | (with_reducible refine below_drewN ?_ _) | (with_reducible refine Below.drew ?_) | (with_reducible refine Below.setCell ?_ ?_ _) | (with_reducible refine below_via (by assumption) ?_ ?_) | (with_reducible refine below_via (later_below _) ?_ ?_) | (with_reducible exact Nat.le_refl _) | omega | (simp; omega) | (simp; done)))))
            have HDA := Lib.hid hda
            have HBB := Lib.hid hbel
            have HBC := Lib.hid hb1
            clear hda hbel hb1
            (refine wp_region_calm (by kernel_rfl) (by kernel_rfl) ?_; refine calm_mem ?_; intro N hN hne hcu; (try simp at hN); subst hN; (repeat ((refine wpQuiet_step (fun K hK => ?_)); go_simp; (repeat (simp only [↓IntWalk.iteOmega]; go_simp)); (first | (refine hK _ ?_; clear hK K) | (apply Exists.intro; refine ⟨fun _ => ?_, hK _ ?_⟩; ((go_at_call 50; refine calm_of (HDA.out _ ?_); (repeat' (first | (with_reducible exact Below.refl _ _) | (with_reducible assumption) | (with_reducible refine Below.alloc ?_ ?_ _) | (with_reducible refine below_drewN ?_ _) | (with_reducible refine Below.drew ?_) | (with_reducible refine Below.setCell ?_ ?_ _) | (with_reducible refine below_via (by assumption) ?_ ?_) | (with_reducible refine below_via (later_below _) ?_ ?_) | (with_reducible exact Nat.le_refl _) | omega | (simp; omega) | (simp; done))))); clear hK K)))); refine wpQuiet_nil ?_; intro _ hw'; obtain ⟨⟨w1, hb⟩, hw''⟩ := hw'; subst hw''; clear hcu hne; (try dsimp only); (refine mem hb ?_; intro N hN hz hc hf; (try simp at hN); subst hN))
            go_wp2_with fail
            ((try simp only [Exit.inBlock, Exit.then]); refine bodyPost_ret (by first | (simp [results, Tryz.results22, go_sem, *]; done) | (simp [results, Tryz.results22, go_sem, *]; rfl) | (simp [results, Tryz.results22, go_sem, ↓IntWalk.iteOmega, *]; try rfl)) rfl ?_)
            have hbel := HBB.out
            have hb1 := HBC.out
            refine ⟨?_, ?_⟩
            · rw [HR.out]
            · (repeat' (first | (with_reducible exact Below.refl _ _) | (with_reducible assumption) | (with_reducible refine Below.alloc ?_ ?_ _) | (with_reducible refine below_drewN ?_ _) | (with_reducible refine Below.drew ?_) | (with_reducible refine Below.setCell ?_ ?_ _) | (with_reducible refine below_via (by assumption) ?_ ?_) | (with_reducible refine below_via (later_below _) ?_ ?_) | (with_reducible exact Nat.le_refl _) | omega | (simp; omega) | (simp; done)))
      · have hkp : 0 < k := by rw [hDx] at hDlen; simp at hDlen; omega
        have hlx : D'.length = k - 1 := by rw [hDx] at hDlen; simp at hDlen; omega
        have hx := HA.out.cell (k - 1) x (by rw [pad12_at D (k - 1) (by omega)]; subst hDx; rw [List.getElem_append_right (by omega)]; simp)
        have hx10 := HD.out x (by rw [hDx]; simp)
        clear hDx hlx
        by_cases hup : Q < 2 * l ∨ 2 * l = Q ∧ x % 2 = 1
        · have hres := HFX.out.trans (round_up (q := Q) (W := W) (l := l) (ds := D) (by rw [htie]; omega))
          have HR := Lib.hid hres
          clear hres htie
          have hup2 : Q < 2 * l ∨ 2 * l = Q ∧ ((x : Int) % 2 == 1) = true := by
            rcases hup with h | h
            · exact .inl h
            · right; exact ⟨h.1, by simp; omega⟩
          clear hup
          have HC0 := Lib.hid hc0
          have HC1 := Lib.hid hc1
          clear hc0 hc1
          have HDL := Lib.hid hDlen
          clear hDlen
          rcases hup2 with hup | ⟨hup, hup'⟩
          all_goals
            go_wp2_with fail -- up
            obtain ⟨wo, hwo⟩ : ∃ wo : World, wo = wr := ⟨_, rfl⟩
            subst hwo
            go_loopw [12] (fun at_ wr => ∃ (j : Nat), j ≤ k ∧ at_ = .int .i64 ((j : Int) - 1) ∧ Arr wr w1.heap.size ((D).take j) ∧ Below w1.heap.size w1 wr ∧ Hid (incL (D) = ((incL ((D).take j)).1 ++ List.replicate (k - j) 0, (incL ((D).take j)).2))) (fun at_ _ => (intOf at_ + 1).toNat)
            case atStart =>
              refine ⟨k, Nat.le_refl _, by go_num, ?_, HB.out, ?_⟩
              · rw [List.take_of_length_le (by rw [HDL.out]; exact Nat.le_refl _)]; exact HA.out
              · rw [List.take_of_length_le (by rw [HDL.out]; exact Nat.le_refl _)]; show _ = _; simp
            case round =>
              obtain ⟨j, hj, rfl, harr, hbel, hinc⟩ := hrel
              have hq := (hbel.cell (p := ⟨w.heap.size, 1, none⟩) (by simp; omega)).trans HC1.out
              have hp := (hbel.cell (p := ⟨w.heap.size, 0, none⟩) (by simp; omega)).trans HC0.out
              have hsz := hbel.size
              rcases Nat.eq_zero_or_pos j with hj0 | hj0
              · subst hj0
                have hfin : fixT P Q k = (W + 1, List.replicate k 0) := by
                  rw [HR.out, hinc.out]; simp [incL]
                have harr2 : Arr wr w1.heap.size (List.replicate k 0) := (harr.zeros k (by simp <;> omega)).of_eq (by simp)
                have HFIN := Lib.hid hfin
                have HA2 := Lib.hid harr2
                have HB2 := Lib.hid hbel
                clear harr hbel hinc hfin harr2
                go_wp2_with fail -- all nines
                have hbel := HB2.out
                have hb1 := HB1.out
                have hda := dec_says _ true ((W : Int) + 1) w1.heap.size k (List.replicate k 0) (HA2.out) (by simp) (by intro d hd; simp [List.mem_replicate] at hd; omega) (by omega) (by omega) (HT.out.later (by (repeat' (first | (with_reducible exact Below.refl _ _) | (with_reducible assumption) | (with_reducible refine Below.alloc ?_ ?_ _) | (with_reducible refine below_drewN ?_ _) | (with_reducible refine Below.drew ?_) | (with_reducible refine Below.setCell ?_ ?_ _) | (with_reducible refine below_via (by assumption) ?_ ?_) | (with_reducible refine below_via (later_below _) ?_ ?_) | (with_reducible exact Nat.le_refl _) | omega | (simp; omega) | (simp; done)))))
                have HDA := Lib.hid hda
                have HBB := Lib.hid hbel
                have HBC := Lib.hid hb1
                clear hda hbel hb1
                (refine wp_region_calm (by kernel_rfl) (by kernel_rfl) ?_; refine calm_mem ?_; intro N hN hne hcu; (try simp at hN); subst hN; (repeat ((refine wpQuiet_step (fun K hK => ?_)); go_simp; (repeat (simp only [↓IntWalk.iteOmega]; go_simp)); (first | (refine hK _ ?_; clear hK K) | (apply Exists.intro; refine ⟨fun _ => ?_, hK _ ?_⟩; ((go_at_call 50; refine calm_of (HDA.out _ ?_); (repeat' (first | (with_reducible exact Below.refl _ _) | (with_reducible assumption) | (with_reducible refine Below.alloc ?_ ?_ _) | (with_reducible refine below_drewN ?_ _) | (with_reducible refine Below.drew ?_) | (with_reducible refine Below.setCell ?_ ?_ _) | (with_reducible refine below_via (by assumption) ?_ ?_) | (with_reducible refine below_via (later_below _) ?_ ?_) | (with_reducible exact Nat.le_refl _) | omega | (simp; omega) | (simp; done))))); clear hK K)))); refine wpQuiet_nil ?_; intro _ hw'; obtain ⟨⟨w1, hb⟩, hw''⟩ := hw'; subst hw''; clear hcu hne; (try dsimp only); (refine mem hb ?_; intro N hN hz hc hf; (try simp at hN); subst hN))
                go_wp2_with fail
                ((try simp only [Exit.inBlock, Exit.then]); refine bodyPost_ret (by first | (simp [results, Tryz.results22, go_sem, *]; done) | (simp [results, Tryz.results22, go_sem, *]; rfl) | (simp [results, Tryz.results22, go_sem, ↓IntWalk.iteOmega, *]; try rfl)) rfl ?_)
                have hbel := HBB.out
                have hb1 := HBC.out
                refine ⟨?_, ?_⟩
                · rw [HFIN.out]; rfl
                · (repeat' (first | (with_reducible exact Below.refl _ _) | (with_reducible assumption) | (with_reducible refine Below.alloc ?_ ?_ _) | (with_reducible refine below_drewN ?_ _) | (with_reducible refine Below.drew ?_) | (with_reducible refine Below.setCell ?_ ?_ _) | (with_reducible refine below_via (by assumption) ?_ ?_) | (with_reducible refine below_via (later_below _) ?_ ?_) | (with_reducible exact Nat.le_refl _) | omega | (simp; omega) | (simp; done)))
              · obtain ⟨i, rfl⟩ : ∃ i, j = i + 1 := ⟨j - 1, by omega⟩
                have hiD : i < D.length := by rw [HDL.out]; omega
                have htk : D.take (i + 1) = D.take i ++ [D[i]] := List.take_succ_eq_append_getElem hiD
                have hiE : (D.take i).length = i := by rw [List.length_take]; omega
                have hy10 := HD.out (D[i]) (List.getElem_mem hiD)
                have hE10 : ∀ d ∈ D.take i, d < 10 := fun d hd => HD.out d (List.mem_of_mem_take hd)
                obtain ⟨E, hE⟩ : ∃ E, D.take i = E := ⟨_, rfl⟩
                obtain ⟨y, hy⟩ : ∃ y, D[i] = y := ⟨_, rfl⟩
                rw [htk] at harr hinc
                rw [hy] at harr hinc hy10
                have hpi := pad12_at (D.take i ++ [y]) i (by simp; omega)
                rw [List.getElem_append_right (by omega)] at hpi
                have hx9 := harr.cell i y (by rw [hpi]; simp)
                have hfz9 := (harr.some i (by omega)).2
                rw [hE] at harr hinc hiE hE10
                clear htk hpi
                have HE := Lib.hid hE
                have HY := Lib.hid hy
                have HIE := Lib.hid hiE
                have HE10 := Lib.hid hE10
                have HA2 := Lib.hid harr
                have HB2 := Lib.hid hbel
                clear hE hy hiE hE10 harr hbel
                by_cases hy9 : y = 9
                · subst hy9
                  go_wp2_with fail -- a nine
                  refine ⟨⟨i, by omega, by go_num, ?_, ?_, ?_⟩, by simp [intOf] <;> omega⟩
                  · rw [HE.out]
                    have ha := HA2.out.zero
                    rw [HIE.out] at ha
                    exact ha
                  · have hbel := HB2.out
                    (repeat' (first | (with_reducible exact Below.refl _ _) | (with_reducible assumption) | (with_reducible refine Below.alloc ?_ ?_ _) | (with_reducible refine below_drewN ?_ _) | (with_reducible refine Below.drew ?_) | (with_reducible refine Below.setCell ?_ ?_ _) | (with_reducible refine below_via (by assumption) ?_ ?_) | (with_reducible refine below_via (later_below _) ?_ ?_) | (with_reducible exact Nat.le_refl _) | omega | (simp; omega) | (simp; done)))
                  · rw [HE.out]
                    show _ = _
                    rw [hinc.out, incL_snoc9]
                    have e : k - i = (k - (i + 1)) + 1 := by omega
                    rw [e, List.replicate_succ]
                    simp
                · have hy9' : ((y : Int) == 9) = false := by simp; omega
                  have hfin : fixT P Q k = (W, E ++ [y + 1] ++ List.replicate (k - (i + 1)) 0) := by
                    rw [HR.out, hinc.out, incL_snoc hy9]; simp
                  have HFIN := Lib.hid hfin
                  clear hfin hinc
                  go_wp2_with fail -- no nine
                  have ha2 := HA2.out.turn (y + 1)
                  rw [HIE.out, show (((y + 1 : Nat)) : Int) = (y : Int) + 1 from rfl] at ha2
                  have ha3 := ha2.zeros (k - (i + 1)) (by simp; have := HIE.out; omega)
                  have hl3 : (E ++ [y + 1] ++ List.replicate (k - (i + 1)) 0).length = k := by simp; have := HIE.out; omega
                  have hd3 : ∀ d ∈ E ++ [y + 1] ++ List.replicate (k - (i + 1)) 0, d < 10 := by
                    intro d hd
                    simp only [List.mem_append, List.mem_singleton, List.mem_replicate] at hd
                    rcases hd with (hd | hd) | hd
                    · exact HE10.out d hd
                    · omega
                    · omega
                  clear ha2
                  have hbel := HB2.out
                  have hb1 := HB1.out
                  have hda := dec_says _ true (W) w1.heap.size k (E ++ [y + 1] ++ List.replicate (k - (i + 1)) 0) (ha3) (hl3) (hd3) (by omega) (by omega) (HT.out.later (by (repeat' (first | (with_reducible exact Below.refl _ _) | (with_reducible assumption) | (with_reducible refine Below.alloc ?_ ?_ _) | (with_reducible refine below_drewN ?_ _) | (with_reducible refine Below.drew ?_) | (with_reducible refine Below.setCell ?_ ?_ _) | (with_reducible refine below_via (by assumption) ?_ ?_) | (with_reducible refine below_via (later_below _) ?_ ?_) | (with_reducible exact Nat.le_refl _) | omega | (simp; omega) | (simp; done)))))
                  have HDA := Lib.hid hda
                  have HBB := Lib.hid hbel
                  have HBC := Lib.hid hb1
                  clear hda hbel hb1 ha3 hl3 hd3
                  (refine wp_region_calm (by kernel_rfl) (by kernel_rfl) ?_; refine calm_mem ?_; intro N hN hne hcu; (try simp at hN); subst hN; (repeat ((refine wpQuiet_step (fun K hK => ?_)); go_simp; (repeat (simp only [↓IntWalk.iteOmega]; go_simp)); (first | (refine hK _ ?_; clear hK K) | (apply Exists.intro; refine ⟨fun _ => ?_, hK _ ?_⟩; ((go_at_call 50; refine calm_of (HDA.out _ ?_); (repeat' (first | (with_reducible exact Below.refl _ _) | (with_reducible assumption) | (with_reducible refine Below.alloc ?_ ?_ _) | (with_reducible refine below_drewN ?_ _) | (with_reducible refine Below.drew ?_) | (with_reducible refine Below.setCell ?_ ?_ _) | (with_reducible refine below_via (by assumption) ?_ ?_) | (with_reducible refine below_via (later_below _) ?_ ?_) | (with_reducible exact Nat.le_refl _) | omega | (simp; omega) | (simp; done))))); clear hK K)))); refine wpQuiet_nil ?_; intro _ hw'; obtain ⟨⟨w1, hb⟩, hw''⟩ := hw'; subst hw''; clear hcu hne; (try dsimp only); (refine mem hb ?_; intro N hN hz hc hf; (try simp at hN); subst hN))
                  go_wp2_with fail
                  ((try simp only [Exit.inBlock, Exit.then]); refine bodyPost_ret (by first | (simp [results, Tryz.results22, go_sem, *]; done) | (simp [results, Tryz.results22, go_sem, *]; rfl) | (simp [results, Tryz.results22, go_sem, ↓IntWalk.iteOmega, *]; try rfl)) rfl ?_)
                  have hbel := HBB.out
                  have hb1 := HBC.out
                  refine ⟨?_, ?_⟩
                  · rw [HFIN.out]; simp
                  · (repeat' (first | (with_reducible exact Below.refl _ _) | (with_reducible assumption) | (with_reducible refine Below.alloc ?_ ?_ _) | (with_reducible refine below_drewN ?_ _) | (with_reducible refine Below.drew ?_) | (with_reducible refine Below.setCell ?_ ?_ _) | (with_reducible refine below_via (by assumption) ?_ ?_) | (with_reducible refine below_via (later_below _) ?_ ?_) | (with_reducible exact Nat.le_refl _) | omega | (simp; omega) | (simp; done)))
        · have hres := HFX.out.trans (round_no (q := Q) (W := W) (l := l) (ds := D) (by rw [htie]; omega))
          have HR := Lib.hid hres
          clear hres htie
          have hup2 : 2 * l < Q ∨ 2 * l = Q ∧ ((x : Int) % 2 == 1) = false := by
            by_cases h : 2 * l < Q
            · exact .inl h
            · right; exact ⟨by omega, by simp; omega⟩
          clear hup
          rcases hup2 with hup | ⟨hup, hup'⟩
          all_goals
            go_wp2_with fail -- no
            have hbel := HB.out
            have hb1 := HB1.out
            have hda := dec_says _ true (W) w1.heap.size k D (HA.out) (hDlen) (HD.out) (by omega) (by omega) (HT.out.later (by (repeat' (first | (with_reducible exact Below.refl _ _) | (with_reducible assumption) | (with_reducible refine Below.alloc ?_ ?_ _) | (with_reducible refine below_drewN ?_ _) | (with_reducible refine Below.drew ?_) | (with_reducible refine Below.setCell ?_ ?_ _) | (with_reducible refine below_via (by assumption) ?_ ?_) | (with_reducible refine below_via (later_below _) ?_ ?_) | (with_reducible exact Nat.le_refl _) | omega | (simp; omega) | (simp; done)))))
            have HDA := Lib.hid hda
            have HBB := Lib.hid hbel
            have HBC := Lib.hid hb1
            clear hda hbel hb1
            (refine wp_region_calm (by kernel_rfl) (by kernel_rfl) ?_; refine calm_mem ?_; intro N hN hne hcu; (try simp at hN); subst hN; (repeat ((refine wpQuiet_step (fun K hK => ?_)); go_simp; (repeat (simp only [↓IntWalk.iteOmega]; go_simp)); (first | (refine hK _ ?_; clear hK K) | (apply Exists.intro; refine ⟨fun _ => ?_, hK _ ?_⟩; ((go_at_call 50; refine calm_of (HDA.out _ ?_); (repeat' (first | (with_reducible exact Below.refl _ _) | (with_reducible assumption) | (with_reducible refine Below.alloc ?_ ?_ _) | (with_reducible refine below_drewN ?_ _) | (with_reducible refine Below.drew ?_) | (with_reducible refine Below.setCell ?_ ?_ _) | (with_reducible refine below_via (by assumption) ?_ ?_) | (with_reducible refine below_via (later_below _) ?_ ?_) | (with_reducible exact Nat.le_refl _) | omega | (simp; omega) | (simp; done))))); clear hK K)))); refine wpQuiet_nil ?_; intro _ hw'; obtain ⟨⟨w1, hb⟩, hw''⟩ := hw'; subst hw''; clear hcu hne; (try dsimp only); (refine mem hb ?_; intro N hN hz hc hf; (try simp at hN); subst hN))
            go_wp2_with fail
            ((try simp only [Exit.inBlock, Exit.then]); refine bodyPost_ret (by first | (simp [results, Tryz.results22, go_sem, *]; done) | (simp [results, Tryz.results22, go_sem, *]; rfl) | (simp [results, Tryz.results22, go_sem, ↓IntWalk.iteOmega, *]; try rfl)) rfl ?_)
            have hbel := HBB.out
            have hb1 := HBC.out
            refine ⟨?_, ?_⟩
            · rw [HR.out]
            · (repeat' (first | (with_reducible exact Below.refl _ _) | (with_reducible assumption) | (with_reducible refine Below.alloc ?_ ?_ _) | (with_reducible refine below_drewN ?_ _) | (with_reducible refine Below.drew ?_) | (with_reducible refine Below.setCell ?_ ?_ _) | (with_reducible refine below_via (by assumption) ?_ ?_) | (with_reducible refine below_via (later_below _) ?_ ?_) | (with_reducible exact Nat.le_refl _) | omega | (simp; omega) | (simp; done)))

end Go.Proofs.YtfclmnglckikbaaGreatDoor
