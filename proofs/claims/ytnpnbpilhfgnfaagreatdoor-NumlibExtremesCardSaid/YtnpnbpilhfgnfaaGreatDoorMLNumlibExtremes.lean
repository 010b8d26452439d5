/- The law NumlibExtremes holds: for every input it returns true, and each argument reads as it did, where the library's tables read as its text lays them. No other conditions. -/
import Derived.Test.YtnpnbpilhfgnfaaGreatDoorMNlExt
import Derived.Test.YtnpnbpilhfgnfaaGreatDoorMNlEq
import Derived.Test.YtnpnbpilhfgnfaaGreatDoorMNlNums
import Derived.Test.YtnpnbpilhfgnfaaGreatDoorMLaid
import Derived.Test.YtnpnbpilhfgnfaaGreatDoorCards
import Derived.Test.YtnpnbpilhfgnfaaGreatDoorTie
namespace Go.Proofs.YtnpnbpilhfgnfaaGreatDoor.numlibExtremes
open Go.ChangeShapes Go.WideShapes Go.ChangeAt Go.RowKit Go.Joins
open Go.ChangeMaps (open_string shut_string)
set_option linter.unusedVariables false

theorem news5 (w : World) (t : TypeId) (P Q : Int) : ∀ (j : Nat) u, [Value.int .i64 2, .int .i64 P, .int .i64 Q, .string ⟨#[]⟩, .int .i64 0][j]? = some u → (w.alloc (.cells #[.int .i64 2, .int .i64 P, .int .i64 Q, .string ⟨#[]⟩, .int .i64 0] t)).cell? ((⟨w.heap.size, 0, none⟩ : Addr).add j) = some u := by
  intro j u hj
  rw [show (⟨w.heap.size, 0, none⟩ : Addr).add j = ⟨w.heap.size, j, none⟩ by unfold Addr.add; split <;> simp_all]
  rw [World.cell?_alloc_at _ t _ j rfl]
  simpa using hj
/-- Whether a number is among the first k. -/
def seenB (l : List (Int × Int)) (m : Int × Int) (k : Nat) : Bool := (l.take k).any fun x => (x.1 == m.1) && (x.2 == m.2)
theorem seen_succ {l : List (Int × Int)} (m : Int × Int) {k : Nat} (h : k < l.length) : seenB l m (k + 1) = (seenB l m k || ((l[k].1 == m.1) && (l[k].2 == m.2))) := by
  unfold seenB
  rw [List.take_succ_eq_append_getElem h, List.any_append]
  simp
theorem seen_all {l : List (Int × Int)} {m : Int × Int} (h : m ∈ l) : seenB l m l.length = true := by
  unfold seenB
  rw [List.take_length, List.any_eq_true]
  exact ⟨m, h, by simp⟩
theorem okV_nums {l : List (Int × Int)} (h : ∀ x ∈ l, vldB x.1 x.2 = true) : ∀ v ∈ numsV l, okV v := by
  intro v hv
  unfold numsV at hv
  obtain ⟨x, hx, rfl⟩ := List.mem_map.1 hv
  obtain ⟨b1, b2, b3, b4⟩ := vld_bd (h x hx)
  exact ⟨by show _ ≤ x.1; omega, by show x.1 ≤ _; omega, by show (0 : Nat) ≤ _; omega⟩
theorem flat5_snoc (l : List (Int × Int)) (P Q : Int) : flat5 (l ++ [(P, Q)]) = flat5 l ++ [.int .i64 2, .int .i64 P, .int .i64 Q, .string ⟨#[]⟩, .int .i64 0] := by unfold flat5; simp
theorem ownsRow_below {W w : World} {base : Nat} {e : TypeId} {size : Nat} {v : Value} {n : Nat} {xs : List Value} (hb : Below W.heap.size W w) (h : W.ownsRow base e size v n xs) : w.ownsRow base e size v n xs := by
  obtain ⟨h1, h2 | ⟨g, cap, cur, hv, hg, hh, rest⟩⟩ := h
  · exact ⟨h1, .inl h2⟩
  · have hlt : g < W.heap.size := (Array.getElem?_eq_some_iff.1 hh).1
    exact ⟨h1, .inr ⟨g, cap, cur, hv, hg, (hb.block g hlt).trans hh, rest⟩⟩

set_option maxHeartbeats 4000000 in
set_option maxRecDepth 100000 in
theorem walk (aA : Option Addr) (aN aC : Nat) (aL : List (Int × Int)) (waN : aN ≤ 9223372036854775807) (waE : aL.length = aN) (waO : ∀ x ∈ aL, -9223372036854775808 ≤ x.1 ∧ x.1 ≤ 9223372036854775807) (w : World) (hT : Tabs w) (ma : aN = 0 ∨ ∃ b o : Nat, aA = some ⟨b, o, none⟩ ∧ ∀ i, (hi : i < aL.length) → w.cell? ⟨b, o + i * 2, none⟩ = some (.int .i64 (aL[i]).1) ∧ w.cell? ⟨b, o + i * 2 + 1, none⟩ = some (.int .i64 (aL[i]).2)) :
    Calls Tryz.prog 4 #[.slice aA aN aC] w fun e w' => e = .returned (.bool true) ∧ Below w.heap.size w w' := by
  have HT := Lib.hid hT
  clear hT
  have HW : Hid (∀ w', Tabs w' → Calls Tryz.prog 7 #[] w' fun e w'' => e = .returned (.bool true) ∧ Below w'.heap.size w' w'') := fun w' hT' => awake_any w' hT'
  by_cases hl : aN = 0 ∨ 100 < aN
  · have hcs : aN = 0 ∨ (0 < aN ∧ 100 < aN) := by omega
    clear hl ma
    rcases hcs with rfl | ⟨h0, h1⟩
    all_goals
      go_enter Tryz.func4, Tryz.ntmps4
      go_wp2_with (first | (go_at_call 7; (with_reducible refine (HW.out _ (HT.out.later ?_)).mono ?_); (focus ((repeat' (first | (with_reducible exact Below.refl _ _) | (with_reducible assumption) | (with_reducible refine Below.alloc ?_ ?_ _) | (with_reducible refine below_drewN ?_ _) | (with_reducible refine Below.drew ?_) | (with_reducible refine Below.setCell ?_ ?_ _) | (with_reducible refine below_via (by assumption) ?_ ?_) | (with_reducible refine below_via (later_below _) ?_ ?_) | (with_reducible exact Nat.le_refl _) | omega | (simp; omega) | (simp; done))))); rintro e w9 ⟨rfl, hb⟩; (refine mem hb ?_; intro N hN hz hc hf; (try simp at hN); subst hN)))
      go_returns
      refine ⟨rfl, ?_⟩
      (repeat' (first | (with_reducible exact Below.refl _ _) | (with_reducible assumption) | (with_reducible refine Below.alloc ?_ ?_ _) | (with_reducible refine below_drewN ?_ _) | (with_reducible refine Below.drew ?_) | (with_reducible refine Below.setCell ?_ ?_ _) | (with_reducible refine below_via (by assumption) ?_ ?_) | (with_reducible refine below_via (later_below _) ?_ ?_) | (with_reducible exact Nat.le_refl _) | omega | (simp; omega) | (simp; done)))
  · obtain ⟨b, o, rfl, hc⟩ := ma.resolve_left (by omega)
    have h0 : 0 < aN := by omega
    have h1 : aN ≤ 100 := by omega
    have HC := Lib.hid hc
    have d0 : ((aN : Int) == 0) = false := by simp; omega
    have d1 : decide (100 < (aN : Int)) = false := by simp; omega
    clear hl hc ma
    obtain ⟨i0, hi, hz0, hz1, hz2⟩ := info_parts value_info
    go_enter Tryz.func4, Tryz.ntmps4
    go_wp2_with fail -- loop
    go_loopw [3, 4, 5] (fun v i _ wr => ∃ k : Nat, k ≤ aN ∧ i = .int .i64 k ∧ Hid (wr.ownsRow w.heap.size 28 5 v k (flat5 (aL.take k))) ∧ Hid (∀ x ∈ aL.take k, vldB x.1 x.2 = true) ∧ Hid (Below w.heap.size w wr)) (fun _ i _ _ => aN - (intOf i).toNat)
    case atStart => exact ⟨0, Nat.zero_le _, rfl, World.ownsRow_nil _ _ _ _, (fun x hx => by cases hx), Below.refl _ _⟩
    case round =>
      obtain ⟨k, hk, rfl, HO, HVS, HB⟩ := hrel
      have hs := HB.out.size
      by_cases hlt : k < aN
      · have hkl : k < aL.length := by omega
        obtain ⟨c0, c1⟩ := HC.out k hkl
        have hbk := cell_lt c0
        have e0 := (HB.out.cell (p := ⟨b, o + k * 2, none⟩) hbk).trans c0
        have e1 := (HB.out.cell (p := ⟨b, o + k * 2 + 1, none⟩) hbk).trans c1
        obtain ⟨p1, p2⟩ := waO _ (List.getElem_mem hkl)
        have HT1 : Hid (aL.take (k + 1) = aL.take k ++ [aL[k]]) := by show _ = _; rw [List.take_succ_eq_append_getElem hkl]
        obtain ⟨x, hx⟩ : ∃ x, aL[k] = x := ⟨_, rfl⟩
        rw [hx] at e0 e1 p1 p2 HT1
        obtain ⟨P, Q⟩ := x
        dsimp only at e0 e1 p1 p2
        have HV : Hid (∀ w', Calls Tryz.prog 8 #[vV 2 P Q ⟨#[]⟩ 0] w' fun e w'' => e = .returned (.bool (vldB P Q)) ∧ Below w'.heap.size w' w'') := fun w' => by have h := rvv_v 2 P Q ⟨#[]⟩ 0 w' (by decide) p1 p2; rw [valid2] at h; exact h
        clear c0 c1 hx
        cases hv : vldB P Q
        · rw [hv] at HV
          clear hv
          go_wp2_with (first | (go_at_call 8; (with_reducible refine (HV.out _).mono ?_); rintro e w8 ⟨rfl, hb⟩; (refine mem hb ?_; intro N hN hz hc hf; (try simp at hN); subst hN)) | (go_at_call 7; (with_reducible refine (HW.out _ (HT.out.later ?_)).mono ?_); (focus (have hbel := HB.out; (repeat' (first | (with_reducible exact Below.refl _ _) | (with_reducible assumption) | (with_reducible refine Below.alloc ?_ ?_ _) | (with_reducible refine below_drewN ?_ _) | (with_reducible refine Below.drew ?_) | (with_reducible refine Below.setCell ?_ ?_ _) | (with_reducible refine below_via (by assumption) ?_ ?_) | (with_reducible refine below_via (later_below _) ?_ ?_) | (with_reducible exact Nat.le_refl _) | omega | (simp; omega) | (simp; done))))); rintro e w9 ⟨rfl, hb⟩)) -- bad
          go_returns
          refine ⟨rfl, ?_⟩
          have hbel := HB.out
          have hs2 : w.heap.size ≤ w8.heap.size := by omega
          (repeat' (first | (with_reducible exact Below.refl _ _) | (with_reducible assumption) | (with_reducible refine Below.alloc ?_ ?_ _) | (with_reducible refine below_drewN ?_ _) | (with_reducible refine Below.drew ?_) | (with_reducible refine Below.setCell ?_ ?_ _) | (with_reducible refine below_via (by assumption) ?_ ?_) | (with_reducible refine below_via (later_below _) ?_ ?_) | (with_reducible exact Nat.le_refl _) | omega | (simp; omega) | (simp; done)))
        · rw [hv] at HV
          have HVV := Lib.hid hv
          clear hv
          go_wp2_with (first | (go_at_call 8; (with_reducible refine (HV.out _).mono ?_); rintro e w8 ⟨rfl, hb⟩; (refine mem hb ?_; intro N hN hz hc hf; (try simp at hN); subst hN)) | (at_builtin; refine wpList_append_own _ rfl _ _ 22 rfl w.heap.size 28 i0 _ 5 48 Tryz.underlying22 hi hz0 hz1 hz2 rfl (by omega) _ k _ rfl ((ownsRow_below hb (HO.out.alloc _)).alloc _) _ 1 _ _ rfl rfl (news5 _ _ P Q) (by simp [Value.oneCell']) (by unfold maxLen; omega) (by omega) (by simp; omega) ?_; intro v2 w7 hown hgr hnil)) -- good
          refine ⟨⟨k + 1, hlt, by go_num, ?_, ?_, ?_⟩, by simp [intOf]; omega⟩
          · show World.ownsRow _ _ _ _ _ _ _
            rw [HT1.out, flat5_snoc]
            exact hown
          · intro y hy
            rw [HT1.out] at hy
            rcases List.mem_append.1 hy with hy | hy
            · exact HVS.out y hy
            · simp at hy; rw [hy]; exact HVV.out
          · show Below _ _ _
            have hbel := HB.out
            refine Below.grown ?_ hgr ?_ (fun g hg => (HO.out.lt g hg).1)
            · (repeat' (first | (with_reducible exact Below.refl _ _) | (with_reducible assumption) | (with_reducible refine Below.alloc ?_ ?_ _) | (with_reducible refine below_drewN ?_ _) | (with_reducible refine Below.drew ?_) | (with_reducible refine Below.setCell ?_ ?_ _) | (with_reducible refine below_via (by assumption) ?_ ?_) | (with_reducible refine below_via (later_below _) ?_ ?_) | (with_reducible exact Nat.le_refl _) | omega | (simp; omega) | (simp; done)))
            · simp; omega
      · obtain rfl : aN = k := by omega
        rw [List.take_of_length_le (by omega)] at HO HVS
        obtain ⟨g, cap, rfl, hg, hcl⟩ := own_cells HO.out (by omega) (by omega)
        have hall : ∀ x ∈ aL, vldB x.1 x.2 = true := HVS.out
        obtain ⟨⟨M1, M2⟩, hM1, hM2, hM3, hM4⟩ := max_best (l := aL) (by omega) hall
        obtain ⟨⟨L1, L2⟩, hL1, hL2, hL3, hL4⟩ := min_best (l := aL) (by omega) hall
        dsimp only at hM2 hM3 hM4 hL2 hL3 hL4
        obtain ⟨mb1, mb2, mb3, mb4⟩ := vld_bd hM2
        obtain ⟨lb1, lb2, lb3, lb4⟩ := vld_bd hL2
        have HALL := Lib.hid hall
        have HCL := Lib.hid hcl
        have HE : Hid (∀ w', Below wr.heap.size wr w' → Env w' (some ⟨g, 0, none⟩) aN cap (numsV aL)) := fun w' hb => env_of (HT.out.later (HB.out.trans (hb.mono hs))) (by rw [numsV_len]; exact waE) (by omega) (okV_nums HALL.out) (fun j hj => by rw [argV_nums (by omega)]; exact (HCL.out j (by omega)).below hb)
        have HR1 : Hid (∀ w', Below wr.heap.size wr w' → Calls Tryz.prog 14 #[.string ⟨#[110, 117, 109, 98, 101, 114, 46, 109, 97, 120]⟩, .slice (some ⟨g, 0, none⟩) aN cap] w' fun e w'' => e = .returned (.tuple #[vV 2 M1 M2 ⟨#[]⟩ 0, .bool true]) ∧ Below w'.heap.size w' w'') := fun w' hb => by
          have h := result_at (HE.out w' hb) 6 (by omega)
          rw [hM3] at h
          exact h
        have HR2 : Hid (∀ w', Below wr.heap.size wr w' → Calls Tryz.prog 14 #[.string ⟨#[110, 117, 109, 98, 101, 114, 46, 109, 105, 110]⟩, .slice (some ⟨g, 0, none⟩) aN cap] w' fun e w'' => e = .returned (.tuple #[vV 2 L1 L2 ⟨#[]⟩ 0, .bool true]) ∧ Below w'.heap.size w' w'') := fun w' hb => by
          have h := result_at (HE.out w' hb) 7 (by omega)
          rw [hL3] at h
          exact h
        have HM1 := Lib.hid hM1
        have HM4 := Lib.hid hM4
        have HL1 := Lib.hid hL1
        have HL4 := Lib.hid hL4
        clear hM1 hM3 hM4 hL1 hL3 hL4 hall hcl HE HVS
        go_wp2_with fail -- behind
        with_reducible refine (HR1.out _ (Below.refl _ _)).mono ?_
        rintro e x1 ⟨rfl, hb1⟩
        have H1 := Lib.hid hb1
        have hs1 := hb1.size
        clear hb1
        go_wp2_with fail -- min
        refine (HR2.out _ (by have h0 := H1.out; (repeat' (first | (with_reducible exact Below.refl _ _) | (with_reducible assumption) | (with_reducible refine Below.alloc ?_ ?_ _) | (with_reducible refine below_drewN ?_ _) | (with_reducible refine Below.drew ?_) | (with_reducible refine Below.setCell ?_ ?_ _) | (with_reducible refine below_via (by assumption) ?_ ?_) | (with_reducible refine below_via (later_below _) ?_ ?_) | (with_reducible exact Nat.le_refl _) | omega | (simp; omega) | (simp; done))))).mono ?_
        rintro e x2 ⟨rfl, hb2⟩
        have KM : Hid (Cells5 x2 x1.heap.size 2 M1 M2 ⟨#[]⟩ 0) := (cells5_s _ _ _ _ _ _ _).below hb2
        have hs2 := hb2.size
        simp at hs2
        have H2 : Hid (Below wr.heap.size wr x2) := (H1.out.alloc hs1 _).trans (hb2.mono (by simp; omega))
        clear hb2 H1
        go_wp2_with fail -- loop2
        obtain ⟨wo, rfl⟩ : ∃ wo : World, wo = wr := ⟨_, rfl⟩
        go_loopw [10, 11, 12] (fun u d i WQ => ∃ k : Nat, k ≤ aN ∧ i = .int .i64 k ∧ u = .bool (seenB aL (M1, M2) k) ∧ d = .bool (seenB aL (L1, L2) k) ∧ Hid (Below wo.heap.size wo WQ) ∧ Hid (Cells5 WQ x1.heap.size 2 M1 M2 ⟨#[]⟩ 0) ∧ Hid (Cells5 WQ x2.heap.size 2 L1 L2 ⟨#[]⟩ 0)) (fun _ _ i _ => aN - (intOf i).toNat)
        case atStart => exact ⟨0, Nat.zero_le _, rfl, rfl, rfl, H2.out.alloc (by omega) _, KM.out.alloc _, cells5_s _ _ _ _ _ _ _⟩
        case round =>
          obtain ⟨k, hk2, rfl, rfl, rfl, HQ, KM2, KL2⟩ := hrel
          have hsq := HQ.out.size
          by_cases hltN : k < aN
          · have hlt2 : k < aL.length := by omega
            obtain ⟨c0, c1⟩ := HC.out k hlt2
            have hbk := cell_lt c0
            have hbw : Below w.heap.size w wr := HB.out.trans (HQ.out.mono hs)
            have e0 := (hbw.cell (p := ⟨b, o + k * 2, none⟩) hbk).trans c0
            have e1 := (hbw.cell (p := ⟨b, o + k * 2 + 1, none⟩) hbk).trans c1
            have hgq := (HCL.out k hlt2).below HQ.out
            have hs1k := seen_succ (M1, M2) hlt2
            have hs2k := seen_succ (L1, L2) hlt2
            have hc1 := HM4.out k hlt2
            have hc2 := HL4.out k hlt2
            have hxv := HALL.out _ (List.getElem_mem hlt2)
            obtain ⟨y, hy⟩ : ∃ y, aL[k] = y := ⟨_, rfl⟩
            rw [hy] at e0 e1 hgq hs1k hs2k hc1 hc2 hxv
            obtain ⟨P, Q⟩ := y
            dsimp only at e0 e1 hgq hs1k hs2k hc1 hc2 hxv
            obtain ⟨xb1, xb2, xb3, xb4⟩ := vld_bd hxv
            obtain ⟨C1, hC1⟩ : ∃ C, cmpT P Q M1 M2 = C := ⟨_, rfl⟩
            obtain ⟨C2, hC2⟩ : ∃ C, cmpT P Q L1 L2 = C := ⟨_, rfl⟩
            rw [hC1] at hc1
            rw [hC2] at hc2
            have HC1 : Hid (∀ w', Calls Tryz.prog 15 #[.agg #[.int .i64 P, .int .i64 Q], .agg #[.int .i64 M1, .int .i64 M2]] w' fun e w'' => e = .returned (.int .i64 C1) ∧ Below w'.heap.size w' w'') := fun w' => by have h := cmp_any P Q M1 M2 w' (by omega) (by omega) (by omega) (by omega); rw [hC1] at h; exact h
            have HC2 : Hid (∀ w', Calls Tryz.prog 15 #[.agg #[.int .i64 P, .int .i64 Q], .agg #[.int .i64 L1, .int .i64 L2]] w' fun e w'' => e = .returned (.int .i64 C2) ∧ Below w'.heap.size w' w'') := fun w' => by have h := cmp_any P Q L1 L2 w' (by omega) (by omega) (by omega) (by omega); rw [hC2] at h; exact h
            have dd1 : decide (0 < C1) = false := by simp; omega
            have dd2 : decide (C2 < 0) = false := by simp; omega
            obtain ⟨q0, q1, q2, q3, q4⟩ := hgq
            obtain ⟨m0, m1, m2, m3, m4⟩ := KM2.out
            obtain ⟨l0, l1, l2, l3, l4⟩ := KL2.out
            have hg1 := cell_lt q0
            have hm1 := cell_lt m0
            have hl1 := cell_lt l0
            have hb1 := cell_lt e0
            obtain ⟨U, hU⟩ : ∃ U, seenB aL (M1, M2) k = U := ⟨_, rfl⟩
            obtain ⟨D, hD⟩ : ∃ D, seenB aL (L1, L2) k = D := ⟨_, rfl⟩
            rw [hU] at hs1k ⊢
            rw [hD] at hs2k ⊢
            obtain ⟨B1, hB1⟩ : ∃ B, ((P == M1) && (Q == M2)) = B := ⟨_, rfl⟩
            obtain ⟨B2, hB2⟩ : ∃ B, ((P == L1) && (Q == L2)) = B := ⟨_, rfl⟩
            have hq1 := eqIn_nums P Q M1 M2
            have hq2 := eqIn_nums P Q L1 L2
            have hq3 := eq_nums P Q M1 M2
            have hq4 := eq_nums P Q L1 L2
            simp only [hB1] at hq1 hq3
            simp only [hB2] at hq2 hq4
            rw [hB1] at hs1k
            rw [hB2] at hs2k
            have S1 := Lib.hid hs1k
            have S2 := Lib.hid hs2k
            clear hs1k hs2k hU hD hC1 hC2 hy c0 c1 hxv hbw hB1 hB2
            cases U <;> cases D
            all_goals
              go_wp2_with fail -- round
              (refine wp_region_calm (by kernel_rfl) (by kernel_rfl) ?_; refine calm_mem ?_; intro N hN hne hcu; (try simp at hN); subst hN; (repeat ((refine wpQuiet_step (fun K hK => ?_)); go_simp; (repeat (simp only [↓IntWalk.iteOmega]; go_simp)); (first | (refine hK _ ?_; clear hK K) | (apply Exists.intro; refine ⟨fun _ => ?_, hK _ ?_⟩; ((first | (go_at_call 15; with_reducible exact calm_of (HC1.out _)) | (go_at_call 15; with_reducible exact calm_of (HC2.out _)))); clear hK K)))); refine wpQuiet_nil ?_; intro _ hw'; obtain ⟨⟨w1, hb⟩, hw''⟩ := hw'; subst hw''; clear hcu hne; (try dsimp only); (refine mem hb ?_; intro N hN hz hc hf; (try simp at hN); subst hN))
              go_wp2_with fail -- r21
              go_quiet (fail)
              go_wp2_with fail -- r22
              go_quiet (fail)
              go_wp2_with fail -- endr
              refine ⟨⟨k + 1, by omega, by go_num, by rw [S1.out]; rfl, by rw [S2.out]; rfl, ?_, ?_, ?_⟩, by simp [intOf]; omega⟩
              · have h0 := HQ.out
                show Below _ _ _
                (repeat' (first | (with_reducible exact Below.refl _ _) | (with_reducible assumption) | (with_reducible refine Below.alloc ?_ ?_ _) | (with_reducible refine below_drewN ?_ _) | (with_reducible refine Below.drew ?_) | (with_reducible refine Below.setCell ?_ ?_ _) | (with_reducible refine below_via (by assumption) ?_ ?_) | (with_reducible refine below_via (later_below _) ?_ ?_) | (with_reducible exact Nat.le_refl _) | omega | (simp; omega) | (simp; done)))
              · show Cells5 _ _ _ _ _ _ _
                refine KM2.out.below ?_
                (repeat' (first | (with_reducible exact Below.refl _ _) | (with_reducible assumption) | (with_reducible refine Below.alloc ?_ ?_ _) | (with_reducible refine below_drewN ?_ _) | (with_reducible refine Below.drew ?_) | (with_reducible refine Below.setCell ?_ ?_ _) | (with_reducible refine below_via (by assumption) ?_ ?_) | (with_reducible refine below_via (later_below _) ?_ ?_) | (with_reducible exact Nat.le_refl _) | omega | (simp; omega) | (simp; done)))
              · show Cells5 _ _ _ _ _ _ _
                refine KL2.out.below ?_
                (repeat' (first | (with_reducible exact Below.refl _ _) | (with_reducible assumption) | (with_reducible refine Below.alloc ?_ ?_ _) | (with_reducible refine below_drewN ?_ _) | (with_reducible refine Below.drew ?_) | (with_reducible refine Below.setCell ?_ ?_ _) | (with_reducible refine below_via (by assumption) ?_ ?_) | (with_reducible refine below_via (later_below _) ?_ ?_) | (with_reducible exact Nat.le_refl _) | omega | (simp; omega) | (simp; done)))
          · obtain rfl : aN = k := by omega
            have hu := seen_all HM1.out
            have hd := seen_all HL1.out
            rw [waE] at hu hd
            rw [hu, hd]
            clear hu hd
            go_wp2_with (first | (go_at_call 7; (with_reducible refine (HW.out _ (HT.out.later ?_)).mono ?_); (focus (exact HB.out.trans (HQ.out.mono hs))); rintro e w9 ⟨rfl, hb⟩)) -- last
            go_returns
            refine ⟨rfl, ?_⟩
            exact (HB.out.trans (HQ.out.mono hs)).trans (hb.mono (Nat.le_trans hs hsq))

set_option maxHeartbeats 8000000 in
set_option maxRecDepth 100000 in
theorem lifted (os : Os) (started : os.Started) (H : Type) (enc : TypeId × Value → H) :
    ReturnsInHanded {} Tryz.checked os 4 .any (fun w args => (Rows.numlibExtremesSpec.pre enc Tryz.prog Tryz.f4 Rows.numlibExtremesRow.domain false w args ∧ laidMetH Tryz.prog laidS w) ∧ sizedMet enc Tryz.prog Tryz.f4 (OpenSpec.ofChange Rows.numlibExtremesSpec) false w args) (Rows.numlibExtremesSpec.post enc Tryz.prog Tryz.f4 false true false false) := by
  refine returnsInHanded_of_change_and (C := Tryz.checked) (X := fun w _ => laidMetH Tryz.prog laidS w) (fun _ _ _ hh h => h.of_heap hh) own started (by kernel_rfl) Tryz.func4
    (ChangeSpec.witness_shaped (enc := enc) (C := Tryz.checked) (os := os) (X := fun w _ => laidMetH Tryz.prog laidS w) false (World.laidAll Tryz.prog os laidS) #[.slice none 0 0] 8 (World.laidAll_os _ _ _) (start_shaped os) (by kernel_rfl) (by kernel_rfl) (by kernel_rfl) (start_met os _)) ?_
  intro W base args ds gs before hval0 hW hcnd _ hL _
  have hT := laid_tabs hL
  have hval : ∀ (j : Nat) t v, Tryz.f4.params[j]? = some t → args[j]? = some v → Value.okWide Tryz.prog W .any base t v := hval0
  have hW' := hW
  obtain ⟨p, q, hA0, hV, rfl, hfz, hnd⟩ := hW
  have hA : DataW.TrodAll enc Tryz.prog W 0 (fun _ => true) true Tryz.f4.params.toList args.toList ds p := hA0
  rw [Tryz.params4] at hA hval
  obtain ⟨v0, vs0, d0, ds0, p0, q0, hargs, rfl, rfl, h0, r0⟩ := trodAll_cons hA
  obtain ⟨rfl, rfl, rfl⟩ := trodAll_nil r0
  obtain rfl : args = #[v0] := by cases args; simp_all
  obtain ⟨rfl, rfl⟩ := trodVars_none hV
  have k0 := h0
  have lt0 : ∀ x ∈ p0, x.block < W.heap.size := by obtain ⟨m, hm⟩ := k0; exact DataW.trod_lt m _ _ _ hm
  obtain ⟨aA, aN, aC, aL, rfl, waN, waE, waO, ma⟩ := open_nums (hval 0 39 v0 rfl rfl) h0
  clear hA0 hval0
  refine (walk aA aN aC aL waN waE waO W hT ma).mono fun e W' ⟨he, bel⟩ => ?_
  subst he
  exact ⟨_, rfl, _, _, _, [], _, [], hW', trodAll_mk1 (shut_bool Tryz.underlying4 _), (trodAll_cons_mk (Below.trod laidOut (by kernel_rfl) (of_decide_eq_true (by kernel_rfl)) k0 bel lt0) trodAll_mk0), rfl, bel.frame _, fun h => by cases h⟩

theorem over : Rows.numlibExtremesRow.holds Tryz.pinned (OpenSpec.ofChange Rows.numlibExtremesSpec) :=
  OpenClaim.holds_of_wide 4 Tryz.f4 rfl rfl rfl rfl rfl rfl rfl ⟨rfl, rfl, rfl, rfl, rfl⟩ rfl rfl rfl rfl rfl (by kernel_rfl) Tryz.func4 (by kernel_rfl)
    (of_decide_eq_true (by kernel_rfl)) (by unfold Func.isWrapper; first | (rw [if_pos (by decide +kernel)]; kernel_rfl) | (rw [if_neg (by decide +kernel)]; exact ⟨rfl, rfl⟩))
    (fun os started H enc _ => lifted os started H enc)

/-- The given statement: the row, tied. -/
theorem proved : Rows.NumlibExtremesCardSaid :=
  Claim7.holds_tied_plain_at .later [] [.data, .data, .data, .data, .pinned] true _ false over (fun _ h => by cases h) (by kernel_rfl) (fun _ h => by cases h) numlibExtremes_row_tie rfl ⟨rfl, rfl⟩ (by kernel_rfl) rfl
    (fun f fn hf hfn => by
      obtain rfl : f = 4 := Option.some.inj ((show Tryz.prog.funcNamed Rows.numlibExtremesRow.func = some 4 by kernel_rfl).symm.trans hf) |>.symm
      obtain rfl : fn = Tryz.f4 := (Option.some.inj (Tryz.func4.symm.trans hfn)).symm
      exact ⟨by kernel_rfl, fun j t ht => by
        rw [Tryz.params4] at ht
        have hm : t ∈ [39] := by simpa using Array.mem_of_getElem? ht
        have hall : ([39].all fun u => !Tryz.prog.wantsStandIn u) = true := by kernel_rfl
        exact (show Tryz.prog.wantsStandIn t = false by simpa using List.all_eq_true.1 hall t hm)⟩)
    (by kernel_rfl)
#print axioms proved
end Go.Proofs.YtnpnbpilhfgnfaaGreatDoor.numlibExtremes
