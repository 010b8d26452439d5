/- The program's directive of a format: the walk. -/
import Derived.Test.YtemlijadhdejeaaGreatDoorMFmW2
namespace Go.Proofs.YtemlijadhdejeaaGreatDoor
open Go.RowKit Go.Instr
set_option linter.unusedVariables false

theorem drop_get2 (s : ByteArray) (i j : Nat) (h : i + j < s.size) : (s.data.toList.drop i)[j]? = some (s[i + j]'h) := by
  rw [List.getElem?_drop, List.getElem?_eq_getElem (by simpa using h)]; rfl
theorem heap_new_at (w : World) (o : Obj) (n : Nat) (h : w.heap.size = n) : (w.alloc o).heap[n]? = some o := by subst h; exact heap_alloc_new w o
set_option maxHeartbeats 8000000 in
set_option maxRecDepth 100000 in
theorem fdir_any (s : ByteArray) (i : Nat) (w : World) (hi : i ≤ s.size) (hs : s.size ≤ 100000) :
    Calls Tryz.prog 28 #[.string s, .int .i64 i] w fun e w' => e = .returned (dirV i (dirT (s.data.toList.drop i))) ∧ Below w.heap.size w w' := by
  obtain ⟨L, hL⟩ : ∃ L, s.data.toList.drop i = L := ⟨_, rfl⟩
  have hLl : L.length = s.size - i := by rw [← hL]; simp
  have HAT : Hid (∀ j, (h : i + j < s.size) → L[j]? = some (s[i + j]'h)) := fun j h => by rw [← hL]; exact drop_get2 s i j h
  rw [hL]
  have HDG := Lib.hid (fun k w' h => fdigit_any s k w' h (by omega))
  clear hL
  go_enter Tryz.func28, Tryz.ntmps28
  go_wp2_with fail
  go_loopw [1] (fun u wr => ∃ (n k : Nat) (mi ze pl : Bool), i + n ≤ k ∧ k ≤ i + n ∧ k ≤ s.size ∧ u = .int .i64 k ∧ Hid (flagsAt L n mi ze pl) ∧ Hid (PBox wr w.heap.size 0 false false false 0 0) ∧ Hid (PBox wr (w.heap.size + 1) 0 mi ze pl 0 (-1)) ∧ Hid (Below w.heap.size w wr)) (fun u _ => s.size - (intOf u).toNat)
  case atStart =>
    refine ⟨0, i, false, false, false, by omega, by omega, hi, rfl, ⟨Nat.zero_le _, rfl, rfl, rfl⟩, ?_, ?_, ?_⟩
    · show _ = _
      exact (heap_alloc_old _ _ (by simp)).trans (heap_new_at _ _ _ rfl)
    · show _ = _
      exact heap_new_at _ _ _ (by simp)
    · show Below _ _ _
      (repeat' (first | (with_reducible exact Below.refl _ _) | (with_reducible assumption) | (with_reducible refine Below.alloc ?_ ?_ _) | (with_reducible refine below_drewN ?_ _) | (with_reducible refine Below.drew ?_) | (with_reducible refine Below.setCell ?_ ?_ _) | (with_reducible refine below_via (by assumption) ?_ ?_) | (with_reducible refine below_via (later_below _) ?_ ?_) | (with_reducible exact Nat.le_refl _) | omega | (simp; omega) | (simp; done)))
  case round =>
    obtain ⟨n, k, mi, ze, pl, hk1, hk2, hks, rfl, HF, HR, HP, HB⟩ := hrel
    have hke : k = i + n := by omega
    obtain ⟨p0, p1, p2, p3, p4, p5, p6, pf⟩ := HP.out.cells
    have hsz := HP.out.lt
    by_cases hgo : ∃ h : k < s.size, flagB (s[k]'h) = true
    · obtain ⟨hlt, hf⟩ := hgo
      have hat : L[n]? = some (s[k]'hlt) := by subst hke; exact HAT.out n hlt
      have HS := Lib.hid (HF.out.step hat hf)
      obtain ⟨J, ⟨j1, j2⟩, hJ⟩ := fidx_any ⟨#[45, 48, 43]⟩ (s[k]'hlt) true (by rw [flag_is]; exact hf)
      have HJ := Lib.hid hJ
      obtain ⟨c, hc⟩ : ∃ c, s[k]'hlt = c := ⟨_, rfl⟩
      rw [hc] at HS HJ hf
      have hc3 : c.toNat = 45 ∨ c.toNat = 48 ∨ c.toNat = 43 := by unfold flagB at hf; simpa using hf
      clear hat hf hJ hke
      rcases hc3 with h | h | h
      · have b1 : ((c.toNat : Int) == 45) = true := by simp; omega
        have HS2 : Hid (flagsAt L (n + 1) true ze pl) := by have := HS.out; rw [decide_eq_true h, decide_eq_false (by omega : ¬ c.toNat = 48), decide_eq_false (by omega : ¬ c.toNat = 43), Bool.or_true, Bool.or_false, Bool.or_false] at this; exact this
        clear HS h
        go_wp2_with (first | (go_at_call 43; (with_reducible refine (HJ.out _).mono ?_); rintro e w1 ⟨rfl, rfl⟩))
        refine ⟨⟨n + 1, k + 1, true, ze, pl, by omega, by omega, by omega, by go_num, HS2.out, ?_, HP.out.setMi true, ?_⟩, by simp [intOf]; omega⟩
        · show PBox _ _ _ _ _ _ _ _
          exact (Below.heap_setCell _ _ _ _ (by first | (simp; done) | (simp; omega))).trans HR.out
        · have h0 := HB.out
          show Below _ _ _
          (repeat' (first | (with_reducible exact Below.refl _ _) | (with_reducible assumption) | (with_reducible refine Below.alloc ?_ ?_ _) | (with_reducible refine below_drewN ?_ _) | (with_reducible refine Below.drew ?_) | (with_reducible refine Below.setCell ?_ ?_ _) | (with_reducible refine below_via (by assumption) ?_ ?_) | (with_reducible refine below_via (later_below _) ?_ ?_) | (with_reducible exact Nat.le_refl _) | omega | (simp; omega) | (simp; done)))
      · have b1 : ((c.toNat : Int) == 45) = false := by simp; omega
        have b2 : ((c.toNat : Int) == 48) = true := by simp; omega
        have HS2 : Hid (flagsAt L (n + 1) mi true pl) := by have := HS.out; rw [decide_eq_true h, decide_eq_false (by omega : ¬ c.toNat = 45), decide_eq_false (by omega : ¬ c.toNat = 43), Bool.or_true, Bool.or_false, Bool.or_false] at this; exact this
        clear HS h
        go_wp2_with (first | (go_at_call 43; (with_reducible refine (HJ.out _).mono ?_); rintro e w1 ⟨rfl, rfl⟩))
        refine ⟨⟨n + 1, k + 1, mi, true, pl, by omega, by omega, by omega, by go_num, HS2.out, ?_, HP.out.setZe true, ?_⟩, by simp [intOf]; omega⟩
        · show PBox _ _ _ _ _ _ _ _
          exact (Below.heap_setCell _ _ _ _ (by first | (simp; done) | (simp; omega))).trans HR.out
        · have h0 := HB.out
          show Below _ _ _
          (repeat' (first | (with_reducible exact Below.refl _ _) | (with_reducible assumption) | (with_reducible refine Below.alloc ?_ ?_ _) | (with_reducible refine below_drewN ?_ _) | (with_reducible refine Below.drew ?_) | (with_reducible refine Below.setCell ?_ ?_ _) | (with_reducible refine below_via (by assumption) ?_ ?_) | (with_reducible refine below_via (later_below _) ?_ ?_) | (with_reducible exact Nat.le_refl _) | omega | (simp; omega) | (simp; done)))
      · have b1 : ((c.toNat : Int) == 45) = false := by simp; omega
        have b2 : ((c.toNat : Int) == 48) = false := by simp; omega
        have HS2 : Hid (flagsAt L (n + 1) mi ze true) := by have := HS.out; rw [decide_eq_true h, decide_eq_false (by omega : ¬ c.toNat = 45), decide_eq_false (by omega : ¬ c.toNat = 48), Bool.or_true, Bool.or_false, Bool.or_false] at this; exact this
        clear HS h
        go_wp2_with (first | (go_at_call 43; (with_reducible refine (HJ.out _).mono ?_); rintro e w1 ⟨rfl, rfl⟩))
        refine ⟨⟨n + 1, k + 1, mi, ze, true, by omega, by omega, by omega, by go_num, HS2.out, ?_, HP.out.setPl true, ?_⟩, by simp [intOf]; omega⟩
        · show PBox _ _ _ _ _ _ _ _
          exact (Below.heap_setCell _ _ _ _ (by first | (simp; done) | (simp; omega))).trans HR.out
        · have h0 := HB.out
          show Below _ _ _
          (repeat' (first | (with_reducible exact Below.refl _ _) | (with_reducible assumption) | (with_reducible refine Below.alloc ?_ ?_ _) | (with_reducible refine below_drewN ?_ _) | (with_reducible refine Below.drew ?_) | (with_reducible refine Below.setCell ?_ ?_ _) | (with_reducible refine below_via (by assumption) ?_ ?_) | (with_reducible refine below_via (later_below _) ?_ ?_) | (with_reducible exact Nat.le_refl _) | omega | (simp; omega) | (simp; done)))
    · -- the flags end
      have hst : s.size ≤ k ∨ ∃ h : k < s.size, flagB (s[k]'h) = false := by
        by_cases h1 : k < s.size
        · right
          refine ⟨h1, ?_⟩
          cases hb : flagB (s[k]'h1)
          · rfl
          · exact absurd ⟨h1, hb⟩ hgo
        · exact .inl (by omega)
      have hn1 : spanN flagB L = n := by
        obtain ⟨h1, -⟩ := HF.out
        have h2 := spanN_le flagB L
        rcases hst with h | ⟨h, hb⟩
        · omega
        · by_cases h3 : n < spanN flagB L
          · have hat : L[n]? = some (s[k]'h) := by subst hke; exact HAT.out n h
            have hm := span_all (p := flagB) (l := L) (k := n + 1) (by omega)
            have hnl : n < L.length := by omega
            have he : L[n] = s[k]'h := (List.getElem?_eq_some_iff.1 hat).2
            have := hm (s[k]'h) (by rw [List.take_succ_eq_append_getElem hnl, he]; exact List.mem_append_right _ (List.mem_singleton.2 rfl))
            rw [hb] at this; cases this
          · omega
      have hdir : dirT L = placeT (L.take n) (twoD (L.drop n)).1 ((L.drop n).drop (twoD (L.drop n)).2) (n + (twoD (L.drop n)).2) := by unfold dirT; rw [hn1]
      have HDIR := Lib.hid hdir
      have HST := Lib.hid hst
      have hnl : n ≤ L.length := by omega
      obtain ⟨r, hr⟩ : ∃ r, L.drop n = r := ⟨_, rfl⟩
      have hrl : r.length = s.size - k := by rw [← hr, List.length_drop]; omega
      have HRA : Hid (∀ j, r[j]? = s.data.toList[k + j]?) := by
        intro j
        rw [← hr, List.getElem?_drop]
        by_cases h : k + j < s.size
        · rw [HAT.out (n + j) (by omega), List.getElem?_eq_getElem (by simpa using h)]
          simp [show i + (n + j) = k + j by omega]
          rfl
        · rw [List.getElem?_eq_none (by omega), List.getElem?_eq_none (by simp; omega)]
      rw [hr] at HDIR
      clear hgo hst hn1 hdir hr hke
      obtain ⟨hf1, hf2, hf3, hf4⟩ := HF.out
      have HX : Hid (∃ J : Int, decide (0 ≤ J) = false ∧ ∀ h : k < s.size, ∀ w, Calls Tryz.prog 43 #[.string ⟨#[45, 48, 43]⟩, .int .u8 (s[k]'h).toNat] w fun e w' => e = .returned (.int .i64 J) ∧ w = w') := by
        rcases HST.out with h | ⟨h, hb⟩
        · exact ⟨-1, by decide, fun h2 => by omega⟩
        · obtain ⟨J, ⟨j1, -⟩, hJ⟩ := fidx_any ⟨#[45, 48, 43]⟩ (s[k]'h) false (by rw [flag_is]; exact hb)
          exact ⟨J, j1, fun _ => hJ⟩
      obtain ⟨J, hj0, hJ⟩ := HX.out
      have HJ := Lib.hid hJ
      clear hJ
      have hcase : s.size ≤ k ∨ k < s.size := by omega
      rcases hcase with hlt | hlt
      all_goals
        go_wp2_with (first | (go_at_call 43; (with_reducible refine (HJ.out hlt _).mono ?_); rintro e w1 ⟨rfl, rfl⟩))
        obtain ⟨wo, hwo⟩ : ∃ wo : World, wo = wr := ⟨_, rfl⟩
        go_loopw [8, 1] (fun u v wq => ∃ (j K W : Nat), k + j ≤ K ∧ K ≤ k + j ∧ j ≤ 2 ∧ K ≤ s.size ∧ W ≤ 99 ∧ u = .int .i64 j ∧ v = .int .i64 K ∧ Hid (digsAt r j W) ∧ Hid (PBox wq w.heap.size 0 false false false 0 0) ∧ Hid (PBox wq (w.heap.size + 1) 0 mi ze pl W (-1)) ∧ Hid (Below w.heap.size w wq)) (fun u _ _ => 2 - (intOf u).toNat)
        case atStart => exact ⟨0, k, 0, by omega, by omega, by omega, by omega, by omega, rfl, rfl, .inl ⟨rfl, rfl⟩, HR.out, HP.out, HB.out⟩
        case round =>
          obtain ⟨j, K, W, hK1, hK2, hj2, hKs, hW, rfl, rfl, HD2, HR2, HP2, HB2⟩ := hrel
          obtain ⟨c0, c1, c2, c3, c4, c5, c6, cf⟩ := HP2.out.cells
          have hsz2 := HP2.out.lt
          have hKe : K = k + j := by omega
          by_cases hgo : j < 2 ∧ digAt s K = true
          · obtain ⟨hjj, hda⟩ := hgo
            have hKlt : K < s.size := by
              by_cases h : K < s.size
              · exact h
              · unfold digAt at hda
                rw [List.getElem?_eq_none (by simp; omega)] at hda
                cases hda
            have hdc : digB (s[K]'hKlt) = true := by
              unfold digAt at hda
              rw [List.getElem?_eq_getElem (by simpa using hKlt)] at hda
              exact hda
            have hra : r[j]? = some (s[K]'hKlt) := by
              rw [HRA.out j, ← hKe, List.getElem?_eq_getElem (by simpa using hKlt)]; rfl
            have HS2 := Lib.hid (HD2.out.step hjj hra hdc)
            have HDK := Lib.hid (fun w' => HDG.out K w' (by omega))
            rw [hda] at HDK
            obtain ⟨c, hc⟩ : ∃ c, s[K]'hKlt = c := ⟨_, rfl⟩
            rw [hc] at HS2 hdc
            obtain ⟨b48, b57⟩ := dig_bd9 hdc
            have z48 : (48 : Int) ≤ (c.toNat : Int) := by omega
            have z57 : (c.toNat : Int) ≤ 57 := by omega
            have bj : decide ((j : Int) < 2) = true := by rw [decide_eq_true_eq]; omega
            have hW2 := HS2.out.bd.2.1
            clear hda hdc hra hKe
            go_wp2_with (first | (go_at_call 44; (with_reducible refine (HDK.out _).mono ?_); rintro e w1 ⟨rfl, rfl⟩))
            go_region
            all_goals
              go_wp2_with fail
              refine ⟨⟨j + 1, K + 1, W * 10 + (c.toNat - 48), by omega, by omega, by omega, by omega, hW2, by go_num, by go_num, HS2.out, ?_, ?_, ?_⟩, by simp [intOf]; omega⟩
              · show PBox _ _ _ _ _ _ _ _
                exact (Below.heap_setCell _ _ _ _ (by first | (simp; done) | (simp; omega))).trans HR2.out
              · show PBox _ _ _ _ _ _ _ _
                rw [show ((W * 10 + (c.toNat - 48) : Nat) : Int) = (W : Int) * 10 + ((c.toNat : Int) - 48) by omega]
                exact HP2.out.setW _
              · have h0 := HB2.out
                show Below _ _ _
                (repeat' (first | (with_reducible exact Below.refl _ _) | (with_reducible assumption) | (with_reducible refine Below.alloc ?_ ?_ _) | (with_reducible refine below_drewN ?_ _) | (with_reducible refine Below.drew ?_) | (with_reducible refine Below.setCell ?_ ?_ _) | (with_reducible refine below_via (by assumption) ?_ ?_) | (with_reducible refine below_via (later_below _) ?_ ?_) | (with_reducible exact Nat.le_refl _) | omega | (simp; omega) | (simp; done)))
          · have hdone : j = 2 ∨ (j < 2 ∧ digAt s K = false) := by
              by_cases h : j < 2
              · right; refine ⟨h, ?_⟩
                cases hb : digAt s K
                · rfl
                · exact absurd ⟨h, hb⟩ hgo
              · left; omega
            have htw : twoD r = (W, j) := HD2.out.done (by
              rcases hdone with h | ⟨h, hb⟩
              · exact .inl h
              · right
                intro x hx
                rw [HRA.out j, ← hKe] at hx
                unfold digAt at hb
                rw [hx] at hb
                exact hb)
            have hrj : ∀ m, (r.drop j)[m]? = s.data.toList[K + m]? := fun m => by rw [List.getElem?_drop, HRA.out, hKe, Nat.add_assoc]
            have HDIR2 : Hid (dirT L = placeT (L.take n) W (r.drop j) (n + j)) := by show _ = _; rw [HDIR.out, htw]
            have HRJ := Lib.hid hrj
            have hjr := HD2.out.bd.2.2
            have HDN := Lib.hid hdone
            clear hgo htw hrj hdone
            by_cases hend : s.size ≤ K
            · have hnil : r.drop j = [] := List.drop_eq_nil_of_le (by omega)
              have HE : Hid (dirV i (dirT L) = dirV i none) := by show _ = _; rw [HDIR2.out, hnil]; rfl
              have bK : ((K : Int) == (s.size : Int)) = true := by simp; omega
              have bl : decide (K < s.size) = false := by simp; omega
              obtain ⟨z0, z1, z2, z3, z4, z5, z6, zf⟩ := HR2.out.cells
              have hsz3 := HR2.out.lt
              rcases HDN.out with h | ⟨h, hb⟩
              · have bj : decide ((j : Int) < 2) = false := by rw [decide_eq_false_iff_not]; omega
                clear hnil hKe h
                go_wp2_with fail
                ((try simp only [Exit.inBlock, Exit.then]); refine bodyPost_ret (by first | (simp [results, Tryz.results28, go_sem, *]; done) | (simp [results, Tryz.results28, go_sem, *]; rfl) | (simp [results, Tryz.results28, go_sem, ↓IntWalk.iteOmega, *]; try rfl)) rfl ?_)
                exact ⟨by rw [HE.out]; rfl, by have h0 := HB2.out; (repeat' (first | (with_reducible exact Below.refl _ _) | (with_reducible assumption) | (with_reducible refine Below.alloc ?_ ?_ _) | (with_reducible refine below_drewN ?_ _) | (with_reducible refine Below.drew ?_) | (with_reducible refine Below.setCell ?_ ?_ _) | (with_reducible refine below_via (by assumption) ?_ ?_) | (with_reducible refine below_via (later_below _) ?_ ?_) | (with_reducible exact Nat.le_refl _) | omega | (simp; omega) | (simp; done)))⟩
              · have bj : decide ((j : Int) < 2) = true := by rw [decide_eq_true_eq]; omega
                have HDK := Lib.hid (fun w' => HDG.out K w' (by omega))
                rw [hb] at HDK
                clear hnil hKe hb
                go_wp2_with (first | (go_at_call 44; (with_reducible refine (HDK.out _).mono ?_); rintro e w1 ⟨rfl, rfl⟩))
                ((try simp only [Exit.inBlock, Exit.then]); refine bodyPost_ret (by first | (simp [results, Tryz.results28, go_sem, *]; done) | (simp [results, Tryz.results28, go_sem, *]; rfl) | (simp [results, Tryz.results28, go_sem, ↓IntWalk.iteOmega, *]; try rfl)) rfl ?_)
                exact ⟨by rw [HE.out]; rfl, by have h0 := HB2.out; (repeat' (first | (with_reducible exact Below.refl _ _) | (with_reducible assumption) | (with_reducible refine Below.alloc ?_ ?_ _) | (with_reducible refine below_drewN ?_ _) | (with_reducible refine Below.drew ?_) | (with_reducible refine Below.setCell ?_ ?_ _) | (with_reducible refine below_via (by assumption) ?_ ?_) | (with_reducible refine below_via (later_below _) ?_ ?_) | (with_reducible exact Nat.le_refl _) | omega | (simp; omega) | (simp; done)))⟩
            all_goals (try (exfalso; omega))
            all_goals
              have hend2 : K < s.size := by omega
              have bl : decide (K < s.size) = true := by simp; omega
              obtain ⟨z0, z1, z2, z3, z4, z5, z6, zf⟩ := HR2.out.cells
              have hsz3 := HR2.out.lt
              have HDK : Hid (∀ w', Calls Tryz.prog 44 #[.string s, .int .i64 K] w' fun e w'' => (j < 2 → e = .returned (.bool false)) ∧ w' = w'') := by
                intro w'
                refine (HDG.out K w' (by omega)).mono ?_
                rintro e w2 ⟨rfl, rfl⟩
                refine ⟨fun h => ?_, rfl⟩
                rcases HDN.out with h2 | ⟨-, h2⟩
                · omega
                · rw [h2]
              have hd0 : (r.drop j)[0]? = some (s[K]'hend2) := by
                rw [HRJ.out 0, Nat.add_zero, List.getElem?_eq_getElem (by simpa using hend2)]; rfl
              obtain ⟨c, hc⟩ : ∃ c, s[K]'hend2 = c := ⟨_, rfl⟩
              rw [hc] at hd0
              obtain ⟨u, hu⟩ : ∃ u, r.drop j = c :: u := by
                cases hx : r.drop j with
                | nil => rw [hx] at hd0; cases hd0
                | cons d v => rw [hx] at hd0; simp at hd0; exact ⟨v, by rw [hd0]⟩
              rw [hu] at HDIR2
              have HDNO := Lib.hid (HDN.out)
              have hcj : (decide ((j : Int) < 2) = false) ∨ (decide ((j : Int) < 2) = true ∧ j < 2) := by
                by_cases h : j < 2
                · right; refine ⟨?_, h⟩; rw [decide_eq_true_eq]; omega
                · left; rw [decide_eq_false_iff_not]; omega
              clear HDN hend hd0
              rcases hcj with bj | ⟨bj, bj2⟩
              all_goals
                by_cases h46 : c.toNat = 46
                · have b46 : ((c.toNat : Int) == 46) = true := by simp; omega
                  have HDR : Hid (dirT L = (if (twoD u).2 = 0 then none else if 12 < (twoD u).1 then none else verbT (L.take n) W ((twoD u).1 : Int) (u.drop (twoD u).2) (n + j + 1 + (twoD u).2))) := by show _ = _; rw [HDIR2.out]; unfold placeT; simp only []; rw [if_pos h46]
                  have HUA : Hid (∀ m, u[m]? = s.data.toList[K + 1 + m]?) := by
                    intro m
                    have := HRJ.out (1 + m)
                    rw [hu, Nat.add_comm 1 m, List.getElem?_cons_succ] at this
                    rw [this, show K + (m + 1) = K + 1 + m by omega]
                  have hul : u.length = s.size - K - 1 := by
                    have : (r.drop j).length = u.length + 1 := by rw [hu]; rfl
                    rw [List.length_drop] at this
                    omega
                  have HDP : Hid (∀ w', Calls Tryz.prog 44 #[.string s, .int .i64 ((K : Int) + 1)] w' fun e w'' => e = .returned (.bool (digAt s (K + 1))) ∧ w' = w'') := fun w' => HDG.out (K + 1) w' (by omega)
                  clear h46 hKe hu
                  by_cases hpd : digAt s (K + 1) = true
                  · rw [hpd] at HDP
                    have HPD := Lib.hid hpd
                    clear hpd
                    go_wp2_with (first | (go_at_call 44; (first | ((with_reducible refine (HDP.out _).mono ?_); rintro e w1 ⟨rfl, rfl⟩) | ((with_reducible refine (HDK.out _).mono ?_); rintro e w1 ⟨he1, rfl⟩; obtain rfl := he1 bj2))))
                    obtain ⟨wo2, hwo2⟩ : ∃ wo2 : World, wo2 = wr := ⟨_, rfl⟩
                    go_loopw [9, 1] (fun u3 v3 wt => ∃ (j3 K3 N : Nat), K + 1 + j3 ≤ K3 ∧ K3 ≤ K + 1 + j3 ∧ j3 ≤ 2 ∧ K3 ≤ s.size ∧ N ≤ 99 ∧ u3 = .int .i64 j3 ∧ v3 = .int .i64 K3 ∧ Hid (digsAt u j3 N) ∧ Hid (PBox wt w.heap.size 0 false false false 0 0) ∧ Hid (PBox wt (w.heap.size + 1) 0 mi ze pl W N) ∧ Hid (Below w.heap.size w wt)) (fun u3 _ _ => 2 - (intOf u3).toNat)
                    case atStart =>
                      refine ⟨0, K + 1, 0, by omega, by omega, by omega, by omega, by omega, rfl, by go_num, .inl ⟨rfl, rfl⟩, ?_, HP2.out.setN 0, ?_⟩
                      · show PBox _ _ _ _ _ _ _ _
                        exact (Below.heap_setCell _ _ _ _ (by first | (simp; done) | (simp; omega))).trans HR2.out
                      · have h0 := HB2.out
                        show Below _ _ _
                        (repeat' (first | (with_reducible exact Below.refl _ _) | (with_reducible assumption) | (with_reducible refine Below.alloc ?_ ?_ _) | (with_reducible refine below_drewN ?_ _) | (with_reducible refine Below.drew ?_) | (with_reducible refine Below.setCell ?_ ?_ _) | (with_reducible refine below_via (by assumption) ?_ ?_) | (with_reducible refine below_via (later_below _) ?_ ?_) | (with_reducible exact Nat.le_refl _) | omega | (simp; omega) | (simp; done)))
                    case round =>
                      obtain ⟨j3, K3, N, hK31, hK32, hj32, hK3s, hN, rfl, rfl, HD3, HR3, HP3, HB3⟩ := hrel
                      obtain ⟨d0, d1, d2, d3, d4, d5, d6, df⟩ := HP3.out.cells
                      have hsz4 := HP3.out.lt
                      have hKe3 : K3 = K + 1 + j3 := by omega
                      have HDG3 := Lib.hid (fun w' => HDG.out K3 w' (by omega))
                      by_cases hgo3 : j3 < 2 ∧ digAt s K3 = true
                      · obtain ⟨hjj, hda⟩ := hgo3
                        have hKlt : K3 < s.size := by
                          by_cases h : K3 < s.size
                          · exact h
                          · unfold digAt at hda
                            rw [List.getElem?_eq_none (by simp; omega)] at hda
                            cases hda
                        have hdc : digB (s[K3]'hKlt) = true := by
                          unfold digAt at hda
                          rw [List.getElem?_eq_getElem (by simpa using hKlt)] at hda
                          exact hda
                        have hra : u[j3]? = some (s[K3]'hKlt) := by
                          rw [HUA.out j3, ← hKe3, List.getElem?_eq_getElem (by simpa using hKlt)]; rfl
                        have HS2 := Lib.hid (HD3.out.step hjj hra hdc)
                        rw [hda] at HDG3
                        obtain ⟨c3, hc3⟩ : ∃ c, s[K3]'hKlt = c := ⟨_, rfl⟩
                        rw [hc3] at HS2 hdc
                        obtain ⟨b48, b57⟩ := dig_bd9 hdc
                        have z48 : (48 : Int) ≤ (c3.toNat : Int) := by omega
                        have z57 : (c3.toNat : Int) ≤ 57 := by omega
                        have bj3 : decide ((j3 : Int) < 2) = true := by rw [decide_eq_true_eq]; omega
                        have hW2 := HS2.out.bd.2.1
                        clear hda hdc hra hKe3
                        go_wp2_with (first | (go_at_call 44; (with_reducible refine (HDG3.out _).mono ?_); rintro e w1 ⟨rfl, rfl⟩))
                        go_region
                        all_goals
                          go_wp2_with fail
                          refine ⟨⟨j3 + 1, K3 + 1, N * 10 + (c3.toNat - 48), by omega, by omega, by omega, by omega, hW2, by go_num, by go_num, HS2.out, ?_, ?_, ?_⟩, by simp [intOf]; omega⟩
                          · show PBox _ _ _ _ _ _ _ _
                            exact (Below.heap_setCell _ _ _ _ (by first | (simp; done) | (simp; omega))).trans HR3.out
                          · show PBox _ _ _ _ _ _ _ _
                            rw [show ((N * 10 + (c3.toNat - 48) : Nat) : Int) = (N : Int) * 10 + ((c3.toNat : Int) - 48) by omega]
                            exact HP3.out.setN _
                          · have h0 := HB3.out
                            show Below _ _ _
                            (repeat' (first | (with_reducible exact Below.refl _ _) | (with_reducible assumption) | (with_reducible refine Below.alloc ?_ ?_ _) | (with_reducible refine below_drewN ?_ _) | (with_reducible refine Below.drew ?_) | (with_reducible refine Below.setCell ?_ ?_ _) | (with_reducible refine below_via (by assumption) ?_ ?_) | (with_reducible refine below_via (later_below _) ?_ ?_) | (with_reducible exact Nat.le_refl _) | omega | (simp; omega) | (simp; done)))
                      · have hdone : j3 = 2 ∨ (j3 < 2 ∧ digAt s K3 = false) := by
                          by_cases h : j3 < 2
                          · right; refine ⟨h, ?_⟩
                            cases hb : digAt s K3
                            · rfl
                            · exact absurd ⟨h, hb⟩ hgo3
                          · left; omega
                        have htw : twoD u = (N, j3) := HD3.out.done (by
                          rcases hdone with h | ⟨h, hb⟩
                          · exact .inl h
                          · right
                            intro x hx
                            rw [HUA.out j3, ← hKe3] at hx
                            unfold digAt at hb
                            rw [hx] at hb
                            exact hb)
                        have hj30 : j3 ≠ 0 := by
                          intro h
                          rcases hdone with h2 | ⟨-, h2⟩
                          · omega
                          · rw [show K3 = K + 1 by omega, HPD.out] at h2; cases h2
                        have HDR3 : Hid (dirT L = if 12 < N then none else verbT (L.take n) W (N : Int) (u.drop j3) (n + j + 1 + j3)) := by show _ = _; rw [HDR.out, htw]; simp only []; rw [if_neg hj30]
                        have HUJ : Hid (∀ m, (u.drop j3)[m]? = s.data.toList[K3 + m]?) := fun m => by rw [List.getElem?_drop, HUA.out, show K + 1 + (j3 + m) = K3 + m by omega]
                        have hju := HD3.out.bd.2.2
                        have HDK3 : Hid (∀ w', Calls Tryz.prog 44 #[.string s, .int .i64 K3] w' fun e w'' => (j3 < 2 → e = .returned (.bool false)) ∧ w' = w'') := by
                          intro w'
                          refine (HDG3.out w').mono ?_
                          rintro e w2 ⟨rfl, rfl⟩
                          refine ⟨fun h => ?_, rfl⟩
                          rcases hdone with h2 | ⟨-, h2⟩
                          · omega
                          · rw [h2]
                        have hcj3 : (decide ((j3 : Int) < 2) = false) ∨ (decide ((j3 : Int) < 2) = true ∧ j3 < 2) := by
                          by_cases h : j3 < 2
                          · right; refine ⟨?_, h⟩; rw [decide_eq_true_eq]; omega
                          · left; rw [decide_eq_false_iff_not]; omega
                        obtain ⟨y0, y1, y2, y3, y4, y5, y6, yf⟩ := HR3.out.cells
                        have hsz5 := HR3.out.lt
                        clear hgo3 hdone htw HDG3 hKe3 hj30
                        rcases hcj3 with bk | ⟨bk, bk2⟩
                        all_goals
                          by_cases h12 : 12 < N
                          · have b12 : decide ((12 : Int) < (N : Int)) = true := by rw [decide_eq_true_eq]; omega
                            have HE : Hid (dirV i (dirT L) = dirV i none) := by show _ = _; rw [HDR3.out, if_pos h12]
                            clear h12
                            go_wp2_with (first | (go_at_call 44; ((with_reducible refine (HDK3.out _).mono ?_); rintro e w1 ⟨he1, rfl⟩; obtain rfl := he1 bk2)))
                            ((try simp only [Exit.inBlock, Exit.then]); refine bodyPost_ret (by first | (simp [results, Tryz.results28, go_sem, *]; done) | (simp [results, Tryz.results28, go_sem, *]; rfl) | (simp [results, Tryz.results28, go_sem, ↓IntWalk.iteOmega, *]; try rfl)) rfl ?_)
                            exact ⟨by rw [HE.out]; rfl, by have h0 := HB3.out; (repeat' (first | (with_reducible exact Below.refl _ _) | (with_reducible assumption) | (with_reducible refine Below.alloc ?_ ?_ _) | (with_reducible refine below_drewN ?_ _) | (with_reducible refine Below.drew ?_) | (with_reducible refine Below.setCell ?_ ?_ _) | (with_reducible refine below_via (by assumption) ?_ ?_) | (with_reducible refine below_via (later_below _) ?_ ?_) | (with_reducible exact Nat.le_refl _) | omega | (simp; omega) | (simp; done)))⟩
                          · have b12 : decide ((12 : Int) < (N : Int)) = false := by rw [decide_eq_false_iff_not]; omega
                            have HDR4 : Hid (dirT L = verbT (L.take n) W (N : Int) (u.drop j3) (n + j + 1 + j3)) := by show _ = _; rw [HDR3.out, if_neg h12]
                            clear h12
                            by_cases hend3 : s.size ≤ K3
                            · have hnil : u.drop j3 = [] := List.drop_eq_nil_of_le (by omega)
                              have bK : ((K3 : Int) == (s.size : Int)) = true := by simp; omega
                              have bK2 : (K3 == s.size) = true := by simp; omega
                              have HE : Hid (dirV i (dirT L) = dirV i none) := by show _ = _; rw [HDR4.out, hnil]; rfl
                              clear hnil
                              go_wp2_with (first | (go_at_call 44; ((with_reducible refine (HDK3.out _).mono ?_); rintro e w1 ⟨he1, rfl⟩; obtain rfl := he1 bk2)))
                              ((try simp only [Exit.inBlock, Exit.then]); refine bodyPost_ret (by first | (simp [results, Tryz.results28, go_sem, *]; done) | (simp [results, Tryz.results28, go_sem, *]; rfl) | (simp [results, Tryz.results28, go_sem, ↓IntWalk.iteOmega, *]; try rfl)) rfl ?_)
                              exact ⟨by rw [HE.out]; rfl, by have h0 := HB3.out; (repeat' (first | (with_reducible exact Below.refl _ _) | (with_reducible assumption) | (with_reducible refine Below.alloc ?_ ?_ _) | (with_reducible refine below_drewN ?_ _) | (with_reducible refine Below.drew ?_) | (with_reducible refine Below.setCell ?_ ?_ _) | (with_reducible refine below_via (by assumption) ?_ ?_) | (with_reducible refine below_via (later_below _) ?_ ?_) | (with_reducible exact Nat.le_refl _) | omega | (simp; omega) | (simp; done)))⟩
                            · have hend4 : K3 < s.size := by omega
                              have bl3 : decide (K3 < s.size) = true := by simp; omega
                              have bK : ((K3 : Int) == (s.size : Int)) = false := by rw [beq_eq_false_iff_ne]; omega
                              have bK2 : (K3 == s.size) = false := by rw [beq_eq_false_iff_ne]; omega
                              have hd3 : (u.drop j3)[0]? = some (s[K3]'hend4) := by
                                rw [HUJ.out 0, Nat.add_zero, List.getElem?_eq_getElem (by simpa using hend4)]; rfl
                              obtain ⟨c4, hc4⟩ : ∃ c, s[K3]'hend4 = c := ⟨_, rfl⟩
                              rw [hc4] at hd3
                              obtain ⟨u4, hu4⟩ : ∃ u4, u.drop j3 = c4 :: u4 := by
                                cases hx : u.drop j3 with
                                | nil => rw [hx] at hd3; cases hd3
                                | cons d v => rw [hx] at hd3; simp at hd3; exact ⟨v, by rw [hd3]⟩
                              rw [hu4] at HDR4
                              clear hd3 hu4 hend3
                              by_cases hv : verbB c4 = true
                              · obtain ⟨J2, ⟨-, jn⟩, hJ2⟩ := fidx_any ⟨#[100, 120, 88, 111, 102, 115, 99, 113, 103]⟩ c4 true (by rw [verb_is]; exact hv)
                                have HJ2 := Lib.hid hJ2
                                rw [show (!true) = false from rfl] at jn
                                have HE : Hid (dirV i (dirT L) = .tuple #[.agg #[.string ⟨#[]⟩, .int .u8 c4.toNat, .bool mi, .bool ze, .bool pl, .int .i64 W, .int .i64 (N : Int)], .int .i64 (((K3 : Nat) : Int) + 1), .bool true]) := by
                                  show _ = _
                                  rw [HDR4.out]
                                  unfold verbT
                                  simp only []
                                  rw [if_pos hv, hf2, hf3, hf4]
                                  unfold dirV
                                  simp only []
                                  congr 5 <;> omega
                                clear hJ2 hv
                                go_wp2_with (first | (go_at_call 43; (with_reducible refine (HJ2.out _).mono ?_); rintro e w1 ⟨rfl, rfl⟩) | (go_at_call 44; (with_reducible refine (HDK3.out _).mono ?_); rintro e w1 ⟨he1, rfl⟩; obtain rfl := he1 bk2))
                                ((try simp only [Exit.inBlock, Exit.then]); refine bodyPost_ret (by first | (simp [results, Tryz.results28, go_sem, *]; done) | (simp [results, Tryz.results28, go_sem, *]; rfl) | (simp [results, Tryz.results28, go_sem, ↓IntWalk.iteOmega, *]; try rfl)) rfl ?_)
                                exact ⟨by rw [HE.out]; first | done | rfl | (simp; done), by have h0 := HB3.out; (repeat' (first | (with_reducible exact Below.refl _ _) | (with_reducible assumption) | (with_reducible refine Below.alloc ?_ ?_ _) | (with_reducible refine below_drewN ?_ _) | (with_reducible refine Below.drew ?_) | (with_reducible refine Below.setCell ?_ ?_ _) | (with_reducible refine below_via (by assumption) ?_ ?_) | (with_reducible refine below_via (later_below _) ?_ ?_) | (with_reducible exact Nat.le_refl _) | omega | (simp; omega) | (simp; done)))⟩
                              · have hv2 : verbB c4 = false := by cases hx : verbB c4; rfl; exact absurd hx hv
                                obtain ⟨J2, ⟨-, jn⟩, hJ2⟩ := fidx_any ⟨#[100, 120, 88, 111, 102, 115, 99, 113, 103]⟩ c4 false (by rw [verb_is]; exact hv2)
                                have HJ2 := Lib.hid hJ2
                                rw [show (!false) = true from rfl] at jn
                                have HE : Hid (dirV i (dirT L) = dirV i none) := by
                                  show _ = _
                                  rw [HDR4.out]
                                  unfold verbT
                                  simp only []
                                  rw [if_neg hv]
                                clear hJ2 hv hv2
                                go_wp2_with (first | (go_at_call 43; (with_reducible refine (HJ2.out _).mono ?_); rintro e w1 ⟨rfl, rfl⟩) | (go_at_call 44; (with_reducible refine (HDK3.out _).mono ?_); rintro e w1 ⟨he1, rfl⟩; obtain rfl := he1 bk2))
                                ((try simp only [Exit.inBlock, Exit.then]); refine bodyPost_ret (by first | (simp [results, Tryz.results28, go_sem, *]; done) | (simp [results, Tryz.results28, go_sem, *]; rfl) | (simp [results, Tryz.results28, go_sem, ↓IntWalk.iteOmega, *]; try rfl)) rfl ?_)
                                exact ⟨by rw [HE.out]; rfl, by have h0 := HB3.out; (repeat' (first | (with_reducible exact Below.refl _ _) | (with_reducible assumption) | (with_reducible refine Below.alloc ?_ ?_ _) | (with_reducible refine below_drewN ?_ _) | (with_reducible refine Below.drew ?_) | (with_reducible refine Below.setCell ?_ ?_ _) | (with_reducible refine below_via (by assumption) ?_ ?_) | (with_reducible refine below_via (later_below _) ?_ ?_) | (with_reducible exact Nat.le_refl _) | omega | (simp; omega) | (simp; done)))⟩
                  · rw [show digAt s (K + 1) = false by cases hx : digAt s (K + 1); rfl; exact absurd hx hpd] at HDP
                    have h20 : twoD u = (0, 0) := by
                      refine digsAt.done (r := u) (j := 0) (W := 0) (.inl ⟨rfl, rfl⟩) (.inr fun x hx => ?_)
                      rw [HUA.out 0, Nat.add_zero] at hx
                      cases hb : digB x
                      · rfl
                      · refine absurd ?_ hpd
                        unfold digAt
                        rw [hx]
                        exact hb
                    have HE : Hid (dirV i (dirT L) = dirV i none) := by show _ = _; rw [HDR.out, h20]; rfl
                    clear hpd h20
                    go_wp2_with (first | (go_at_call 44; (first | ((with_reducible refine (HDP.out _).mono ?_); rintro e w1 ⟨rfl, rfl⟩) | ((with_reducible refine (HDK.out _).mono ?_); rintro e w1 ⟨he1, rfl⟩; obtain rfl := he1 bj2))))
                    ((try simp only [Exit.inBlock, Exit.then]); refine bodyPost_ret (by first | (simp [results, Tryz.results28, go_sem, *]; done) | (simp [results, Tryz.results28, go_sem, *]; rfl) | (simp [results, Tryz.results28, go_sem, ↓IntWalk.iteOmega, *]; try rfl)) rfl ?_)
                    exact ⟨by rw [HE.out]; rfl, by have h0 := HB2.out; (repeat' (first | (with_reducible exact Below.refl _ _) | (with_reducible assumption) | (with_reducible refine Below.alloc ?_ ?_ _) | (with_reducible refine below_drewN ?_ _) | (with_reducible refine Below.drew ?_) | (with_reducible refine Below.setCell ?_ ?_ _) | (with_reducible refine below_via (by assumption) ?_ ?_) | (with_reducible refine below_via (later_below _) ?_ ?_) | (with_reducible exact Nat.le_refl _) | omega | (simp; omega) | (simp; done)))⟩
                · have b46 : ((c.toNat : Int) == 46) = false := by simp; omega
                  have bK : ((K : Int) == (s.size : Int)) = false := by rw [beq_eq_false_iff_ne]; omega
                  have bK2 : (K == s.size) = false := by rw [beq_eq_false_iff_ne]; omega
                  have HDR : Hid (dirT L = verbT (L.take n) W (-1) (c :: u) (n + j)) := by show _ = _; rw [HDIR2.out]; unfold placeT; simp only []; rw [if_neg h46]
                  clear h46 hKe hu
                  by_cases hv : verbB c = true
                  · obtain ⟨J2, ⟨-, jn⟩, hJ2⟩ := fidx_any ⟨#[100, 120, 88, 111, 102, 115, 99, 113, 103]⟩ c true (by rw [verb_is]; exact hv)
                    have HJ2 := Lib.hid hJ2
                    rw [show (!true) = false from rfl] at jn
                    have HE : Hid (dirV i (dirT L) = .tuple #[.agg #[.string ⟨#[]⟩, .int .u8 c.toNat, .bool mi, .bool ze, .bool pl, .int .i64 W, .int .i64 (-1)], .int .i64 (((K : Nat) : Int) + 1), .bool true]) := by
                      show _ = _
                      rw [HDR.out]
                      unfold verbT
                      simp only []
                      rw [if_pos hv, hf2, hf3, hf4]
                      unfold dirV
                      simp only []
                      congr 5 <;> omega
                    clear hJ2 hv
                    go_wp2_with (first | (go_at_call 43; (with_reducible refine (HJ2.out _).mono ?_); rintro e w1 ⟨rfl, rfl⟩) | (go_at_call 44; (with_reducible refine (HDK.out _).mono ?_); rintro e w1 ⟨he1, rfl⟩; obtain rfl := he1 bj2))
                    ((try simp only [Exit.inBlock, Exit.then]); refine bodyPost_ret (by first | (simp [results, Tryz.results28, go_sem, *]; done) | (simp [results, Tryz.results28, go_sem, *]; rfl) | (simp [results, Tryz.results28, go_sem, ↓IntWalk.iteOmega, *]; try rfl)) rfl ?_)
                    exact ⟨by rw [HE.out]; first | done | rfl | (simp; done), by have h0 := HB2.out; (repeat' (first | (with_reducible exact Below.refl _ _) | (with_reducible assumption) | (with_reducible refine Below.alloc ?_ ?_ _) | (with_reducible refine below_drewN ?_ _) | (with_reducible refine Below.drew ?_) | (with_reducible refine Below.setCell ?_ ?_ _) | (with_reducible refine below_via (by assumption) ?_ ?_) | (with_reducible refine below_via (later_below _) ?_ ?_) | (with_reducible exact Nat.le_refl _) | omega | (simp; omega) | (simp; done)))⟩
                  · have hv2 : verbB c = false := by cases hx : verbB c; rfl; exact absurd hx hv
                    obtain ⟨J2, ⟨-, jn⟩, hJ2⟩ := fidx_any ⟨#[100, 120, 88, 111, 102, 115, 99, 113, 103]⟩ c false (by rw [verb_is]; exact hv2)
                    have HJ2 := Lib.hid hJ2
                    rw [show (!false) = true from rfl] at jn
                    have HE : Hid (dirV i (dirT L) = dirV i none) := by
                      show _ = _
                      rw [HDR.out]
                      unfold verbT
                      simp only []
                      rw [if_neg hv]
                    clear hJ2 hv hv2
                    go_wp2_with (first | (go_at_call 43; (with_reducible refine (HJ2.out _).mono ?_); rintro e w1 ⟨rfl, rfl⟩) | (go_at_call 44; (with_reducible refine (HDK.out _).mono ?_); rintro e w1 ⟨he1, rfl⟩; obtain rfl := he1 bj2))
                    ((try simp only [Exit.inBlock, Exit.then]); refine bodyPost_ret (by first | (simp [results, Tryz.results28, go_sem, *]; done) | (simp [results, Tryz.results28, go_sem, *]; rfl) | (simp [results, Tryz.results28, go_sem, ↓IntWalk.iteOmega, *]; try rfl)) rfl ?_)
                    exact ⟨by rw [HE.out]; rfl, by have h0 := HB2.out; (repeat' (first | (with_reducible exact Below.refl _ _) | (with_reducible assumption) | (with_reducible refine Below.alloc ?_ ?_ _) | (with_reducible refine below_drewN ?_ _) | (with_reducible refine Below.drew ?_) | (with_reducible refine Below.setCell ?_ ?_ _) | (with_reducible refine below_via (by assumption) ?_ ?_) | (with_reducible refine below_via (later_below _) ?_ ?_) | (with_reducible exact Nat.le_refl _) | omega | (simp; omega) | (simp; done)))⟩
end Go.Proofs.YtemlijadhdejeaaGreatDoor
