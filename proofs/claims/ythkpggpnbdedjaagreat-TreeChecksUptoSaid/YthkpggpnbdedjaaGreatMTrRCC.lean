/- The reference's stat: the first error of a statement and its parts. -/
import Derived.Test.YthkpggpnbdedjaaGreatMTrRd
import Derived.Deep.DeepCutAuto
import Derived.RegionTactic
namespace Go.Proofs.YthkpggpnbdedjaaGreat
open Go.RowKit Go.Instr Go.Shelf
set_option linter.unusedVariables false

theorem els_blocks {s : TS} {last : Bool} (h : fsB s last = true) (hn : s.k ≠ 8) : s.blocks.length ≤ 1 := by
  have key : ∀ {a l r b : Int} {lb : Bool}, (b = 0 ∨ b = 1) → cntB s a l r b lb = true → s.blocks.length ≤ 1 := fun hb h => by
    unfold cntB fitN at h
    simp only [Bool.and_eq_true, Bool.or_eq_true, beq_iff_eq, decide_eq_true_eq] at h
    have := h.2.2.2.1
    omega
  unfold fsB at h
  by_cases h1 : s.k = 1
  · rw [if_pos h1] at h; rw [Bool.and_eq_true] at h; exact key (.inl rfl) h.1
  rw [if_neg h1] at h
  by_cases h2 : s.k = 2
  · rw [if_pos h2] at h; rw [Bool.and_eq_true] at h; exact key (.inl rfl) h.1
  rw [if_neg h2] at h
  by_cases h3 : s.k = 3
  · rw [if_pos h3] at h; rw [Bool.and_eq_true] at h; exact key (.inl rfl) h.1
  rw [if_neg h3] at h
  by_cases h4 : s.k = 4
  · rw [if_pos h4] at h; rw [Bool.and_eq_true] at h; exact key (.inl rfl) h.1
  rw [if_neg h4] at h
  by_cases h5 : s.k = 5
  · rw [if_pos h5] at h; exact key (.inr rfl) h
  rw [if_neg h5] at h
  by_cases h6 : s.k = 6
  · rw [if_pos h6] at h; exact key (.inr rfl) h
  rw [if_neg h6] at h
  by_cases h7 : s.k = 7
  · rw [if_pos h7] at h; exact key (.inr rfl) h
  rw [if_neg h7] at h
  by_cases h8 : s.k = 8
  · rw [if_pos h8] at h; exact absurd h8 hn
  rw [if_neg h8] at h
  by_cases h9 : s.k = 9
  · rw [if_pos h9] at h; rw [Bool.and_eq_true, Bool.or_eq_true] at h; rcases h.1 with h | h <;> exact key (.inr rfl) h
  rw [if_neg h9] at h
  by_cases h10 : s.k = 10
  · rw [if_pos h10] at h; rw [Bool.and_eq_true] at h; exact key (.inr rfl) h.1
  rw [if_neg h10] at h
  by_cases h11 : s.k = 11
  · rw [if_pos h11] at h; rw [Bool.and_eq_true] at h; exact key (.inl rfl) h.1
  rw [if_neg h11] at h
  by_cases h12 : s.k = 12
  · rw [if_pos h12] at h; exact key (.inl rfl) h
  rw [if_neg h12] at h
  by_cases h13 : s.k = 13
  · rw [if_pos h13] at h; exact key (.inl rfl) h
  rw [if_neg h13] at h
  by_cases h14 : s.k = 14
  · rw [if_pos h14] at h; exact key (.inl rfl) h
  rw [if_neg h14] at h
  cases h
theorem if_blocks {s : TS} {last : Bool} (h : fsB s last = true) (h8 : s.k = 8) : s.blocks.length = s.right.length ∨ s.blocks.length = s.right.length + 1 := by
  unfold fsB at h
  rw [if_neg (by omega), if_neg (by omega), if_neg (by omega), if_neg (by omega), if_neg (by omega), if_neg (by omega), if_neg (by omega), if_pos h8, Bool.and_eq_true, Bool.or_eq_true, beq_iff_eq, beq_iff_eq] at h
  have := h.2
  omega
theorem rep_one {s : TS} {last : Bool} (h : fsB s last = true) (h7 : s.k = 7) : s.blocks.length = 1 := by
  unfold fsB at h
  rw [if_neg (by omega), if_neg (by omega), if_neg (by omega), if_neg (by omega), if_neg (by omega), if_neg (by omega), if_pos h7] at h
  unfold cntB fitN at h
  simp only [Bool.and_eq_true, Bool.or_eq_true, beq_iff_eq, decide_eq_true_eq] at h
  have := h.2.2.2.1
  omega
theorem names_one {s : TS} {last : Bool} (h : fsB s last = true) (h2 : s.k = 2) : s.names.length = 1 := by
  unfold fsB at h
  rw [if_neg (by omega), if_pos h2, Bool.and_eq_true] at h
  have := h.1
  unfold cntB at this
  rw [Bool.and_eq_true] at this
  exact fit_one this.1
theorem al_ne {s : TS} (h : s.k = 2 → s.names.length = 1) : 0 < (alS s).length := by
  unfold alS
  by_cases h2 : s.k = 2
  · rw [if_pos h2, List.length_map, h h2]; decide
  · rw [if_neg h2]
    split
    · split
      · simp
      · simp
    · simp
theorem al_sz {s : TS} {w : World} {N : Nat} (hin : InS w N s) (hrk : rkS s ≤ 1048600) : ∀ q ∈ alS s, q.size ≤ 9223372036854775807 := by
  intro q hq
  unfold alS at hq
  by_cases h2 : s.k = 2
  · rw [if_pos h2] at hq
    obtain ⟨x, hx, rfl⟩ := List.mem_map.1 hq
    exact (((inS_iff s).1 hin).1.ns x hx).1
  · rw [if_neg h2] at hq
    have h0 : ∀ q ∈ [(⟨#[]⟩ : ByteArray)], q.size ≤ 9223372036854775807 := fun q hq => by
      obtain rfl : q = ⟨#[]⟩ := by simpa using hq
      exact Nat.zero_le _
    split at hq
    · rename_i x h3 hl hr
      have hrx : rkX x ≤ 1048600 := by
        rw [rkS_eq, hl] at hrk
        have h2 : rkXs [x] = rkX x + 0 := rfl
        omega
      split at hq
      · have hl1 := left_sz (rkX x + 1) x
        have hc : (colonN x).size ≤ rkX x := by
          unfold colonN
          split
          · rename_i a b h
            have h1 := left_sz (rkX a + 1) a
            have h3 := rkX_eq x
            rw [h] at h3
            have hx : rkXs [a, b] = rkX a + (rkX b + 0) := rfl
            have hb := rkX_eq b
            rw [ByteArray.size_append, ByteArray.size_append]
            show (sideN (rkX a + 1) a).1.size + 1 + b.s.size ≤ _
            omega
          · exact Nat.zero_le _
        have : q = ⟨#[]⟩ ∨ q = (sideN (rkX x + 1) x).1 ∨ q = colonN x := by
          split at hq
          · simpa using hq
          · have := List.mem_append.1 hq
            rcases this with h | h
            · rcases List.mem_cons.1 h with h | h
              · exact .inl h
              · exact .inr (.inl (by simpa using h))
            · cases h
        rcases this with rfl | rfl | rfl
        · exact Nat.zero_le _
        · omega
        · omega
      · exact h0 q hq
    · exact h0 q hq
theorem allowed_ps (s : TS) (h1 : s.k = 2 → s.names.length = 1) (hrk : rkS s ≤ 1048600) (w : World) (hin : InS w w.heap.size s) :
    Calls Tryz.prog 53 #[s.v] w fun e w' => ∃ g cap, e = .returned (.slice (some ⟨g, 0, none⟩) (alS s).length cap) ∧ (alS s).length ≤ cap ∧ cap ≤ 9223372036854775807 ∧ PsAt w' w'.heap.size (some ⟨g, 0, none⟩) (alS s) ∧ Below w.heap.size w w' := by
  refine (allowed_any s h1 hrk w hin).mono ?_
  rintro e w' ⟨v, rfl, h⟩
  obtain ⟨g, cap, hv, hg1, hg2, hg3, hcell⟩ := own_cell h.1 (by rw [strsV_len]; exact al_ne h1)
  have hcm : cap ≤ maxLen := by
    obtain ⟨-, h2 | ⟨g', cap', cur, hv', -, -, -, hcm, -⟩⟩ := h.1
    · rw [hv] at h2; cases h2.1
    · rw [hv] at hv'; cases hv'; exact hcm
  rw [strsV_len] at hv hg3
  subst hv
  unfold maxLen at hcm
  refine ⟨g, cap, rfl, hg3, by omega, .inr ⟨g, 0, rfl, hg2, fun i hi => ?_⟩, h.2.1⟩
  show w'.cell? ⟨g, 0 + i * 1, none⟩ = _
  rw [Nat.mul_one, Nat.zero_add, hcell i (by rw [strsV_len]; exact hi)]
  unfold strsV
  rw [List.getElem?_map, List.getElem?_eq_getElem hi]
  rfl
theorem zip_zero (f : TX ⊕ TB → Int) (r : List TX) (b : List TB) (h1 : ∀ x ∈ r, f (.inl x) = 0) (h2 : ∀ y ∈ b, f (.inr y) = 0) : fe ((zipP r b).map f) = 0 := by
  refine fe_nil fun e he => ?_
  obtain ⟨p, hp, rfl⟩ := List.mem_map.1 he
  rcases zipP_mem r b p hp with ⟨x, hx, rfl⟩ | ⟨y, hy, rfl⟩
  · exact h1 x hx
  · exact h2 y hy
theorem fe_cons0 {a : Int} {l : List Int} (h : a = 0) : fe (a :: l) = fe l := by show (if a = 0 then fe l else a) = _; rw [if_pos h]
theorem fe_cons1 {a : Int} {l : List Int} (h : a ≠ 0) : fe (a :: l) = a := by show (if a = 0 then fe l else a) = _; rw [if_neg h]
theorem zip_atU (f : TX ⊕ TB → Int) : ∀ (r : List TX) (b : List TB) (k : Nat) (hk : k < r.length), (∀ i (hi : i < r.length), i < k → f (.inl r[i]) = 0) → (∀ i (hi : i < b.length), i < k → f (.inr b[i]) = 0) → f (.inl r[k]) ≠ 0 → fe ((zipP r b).map f) = f (.inl r[k])
  | x :: r, [], k, hk, h1, _, hn => by
    have e : (zipP (x :: r) []).map f = (x :: r).map (fun z => f (.inl z)) := by
      show ((x :: r).map Sum.inl).map f = _
      rw [List.map_map]; rfl
    rw [e, fe_at (k := k) (by simpa using hk) (fun i hi hik => by rw [List.getElem_map]; exact h1 i (by simpa using hi) hik) (by rw [List.getElem_map]; exact hn), List.getElem_map]
  | x :: r, y :: b, 0, hk, h1, h2, hn => fe_cons1 hn
  | x :: r, y :: b, k + 1, hk, h1, h2, hn => by
    show fe (f (.inl x) :: f (.inr y) :: (zipP r b).map f) = f (.inl (r[k]'(by simpa using hk)))
    have g1 : f (.inl x) = 0 := h1 0 (by simp) (by omega)
    have g2 : f (.inr y) = 0 := h2 0 (by simp) (by omega)
    rw [fe_cons0 g1, fe_cons0 g2]
    exact zip_atU f r b k (by simpa using hk) (fun i hi hik => h1 (i + 1) (by simpa using hi) (by omega)) (fun i hi hik => h2 (i + 1) (by simpa using hi) (by omega)) hn
theorem zip_atV (f : TX ⊕ TB → Int) : ∀ (r : List TX) (b : List TB) (k : Nat) (hk : k < b.length), (∀ i (hi : i < r.length), i < k + 1 → f (.inl r[i]) = 0) → (∀ i (hi : i < b.length), i < k → f (.inr b[i]) = 0) → f (.inr b[k]) ≠ 0 → fe ((zipP r b).map f) = f (.inr b[k])
  | [], b, k, hk, _, h2, hn => by
    have e : (zipP [] b).map f = b.map (fun z => f (.inr z)) := by
      show (b.map Sum.inr).map f = _
      rw [List.map_map]; rfl
    rw [e, fe_at (k := k) (by simpa using hk) (fun i hi hik => by rw [List.getElem_map]; exact h2 i (by simpa using hi) hik) (by rw [List.getElem_map]; exact hn), List.getElem_map]
  | x :: r, y :: b, 0, hk, h1, h2, hn => by
    show fe (f (.inl x) :: f (.inr y) :: (zipP r b).map f) = f (.inr y)
    have g1 : f (.inl x) = 0 := h1 0 (by simp) (by omega)
    have g2 : f (.inr y) ≠ 0 := hn
    rw [fe_cons0 g1, fe_cons1 g2]
  | x :: r, y :: b, k + 1, hk, h1, h2, hn => by
    show fe (f (.inl x) :: f (.inr y) :: (zipP r b).map f) = f (.inr (b[k]'(by simpa using hk)))
    have g1 : f (.inl x) = 0 := h1 0 (by simp) (by omega)
    have g2 : f (.inr y) = 0 := h2 0 (by simp) (by omega)
    rw [fe_cons0 g1, fe_cons0 g2]
    exact zip_atV f r b k (by simpa using hk) (fun i hi hik => h1 (i + 1) (by simpa using hi) (by omega)) (fun i hi hik => h2 (i + 1) (by simpa using hi) (by omega)) hn
theorem cs_parts {s : TS} {last : Bool} {a1 a2 a3 : Bool} (h : csE s last = 0) (h1 : (s.names.any longN || decide (40 < s.label.size)) = a1) (h2 : (decide (0 ≤ s.ln) && fsB s last) = a2) (h3 : (!(s.names.any badN) && !((s.k == 13 || s.k == 14) && !nameB s.label.data.toList)) = a3) : a1 = false ∧ a2 = true ∧ a3 = true := by
  rw [← rsE_cs, h1, h2, h3] at h
  cases a1 <;> cases a2 <;> cases a3 <;> first | exact ⟨rfl, rfl, rfl⟩ | (exfalso; revert h; decide)
section
variable (n : Nat) (hX : RX n) (hL : RL n) (hB : RB n) (s : TS) (last : Bool) (w : World) (hrk : rkS s ≤ n) (hrm : rkS s ≤ 1048600) (hin : InS w w.heap.size s)

set_option maxHeartbeats 3200000 in
set_option maxRecDepth 100000 in
include hin in
theorem st_bad (hcs : csE s last ≠ 0) : Calls Tryz.prog 37 #[s.v, .bool last] w fun e w' => e = .returned (.int .i64 (stE n s last)) ∧ Below w.heap.size w w' := by
  have hD : stE n s last = csE s last := fe_cons1 hcs
  rw [hD]
  obtain ⟨a1, ha1⟩ : ∃ b, (s.names.any longN || decide (40 < s.label.size)) = b := ⟨_, rfl⟩
  obtain ⟨a2, ha2⟩ : ∃ b, (decide (0 ≤ s.ln) && fsB s last) = b := ⟨_, rfl⟩
  obtain ⟨a3, ha3⟩ : ∃ b, (!(s.names.any badN) && !((s.k == 13 || s.k == 14) && !nameB s.label.data.toList)) = b := ⟨_, rfl⟩
  have HS1 : Hid (∀ W, Below w.heap.size w W → Calls Tryz.prog 48 #[s.v] W fun e w' => e = .returned (.bool a1) ∧ Below W.heap.size W w') := fun W hW => by rw [← ha1]; exact rstatLong_any s W (hin.still (still_of hW (Nat.le_refl _)) hW.size)
  have HS2 : Hid (∀ W, Below w.heap.size w W → Calls Tryz.prog 49 #[s.v, .bool last] W fun e w' => e = .returned (.bool a2) ∧ Below W.heap.size W w') := fun W hW => by rw [← ha2]; exact rstatForm_any s last W (hin.still (still_of hW (Nat.le_refl _)) hW.size)
  have HS3 : Hid (∀ W, Below w.heap.size w W → Calls Tryz.prog 50 #[s.v] W fun e w' => e = .returned (.bool a3) ∧ Below W.heap.size W w') := fun W hW => by rw [← ha3]; exact rstatNamed_any s W (hin.still (still_of hW (Nat.le_refl _)) hW.size)
  rw [← rsE_cs, ha1, ha2, ha3] at hcs ⊢
  clear hD ha1 ha2 ha3 hin
  cases a1 with
  | true =>
    show Calls _ _ _ _ fun e w' => e = .returned (.int .i64 3) ∧ Below w.heap.size w w'
    clear hcs
    go_enter Tryz.func37, Tryz.ntmps37
    go_wp2_with (first | (go_at_call 48; (with_reducible refine (HS1.out _ ?_).mono ?_); (focus ((repeat' (first | (with_reducible exact Below.refl _ _) | (with_reducible assumption) | (with_reducible refine Below.alloc ?_ ?_ _) | (with_reducible refine below_drewN ?_ _) | (with_reducible refine Below.drew ?_) | (with_reducible refine Below.setCell ?_ ?_ _) | (with_reducible refine below_via (by assumption) ?_ ?_) | (with_reducible refine below_via (later_below _) ?_ ?_) | (with_reducible exact Nat.le_refl _) | omega | (simp; omega) | (simp; done))))); rintro e w1 ⟨rfl, hb⟩; have hb1 := hb; (refine mem hb ?_; intro N hN hz hc hf; (try simp at hN); subst hN)) | (go_at_call 49; (with_reducible refine (HS2.out _ ?_).mono ?_); (focus ((repeat' (first | (with_reducible exact Below.refl _ _) | (with_reducible assumption) | (with_reducible refine Below.alloc ?_ ?_ _) | (with_reducible refine below_drewN ?_ _) | (with_reducible refine Below.drew ?_) | (with_reducible refine Below.setCell ?_ ?_ _) | (with_reducible refine below_via (by assumption) ?_ ?_) | (with_reducible refine below_via (later_below _) ?_ ?_) | (with_reducible exact Nat.le_refl _) | omega | (simp; omega) | (simp; done))))); rintro e w2 ⟨rfl, hb⟩; have hb2 := hb; (refine mem hb ?_; intro N hN hz hc hf; (try simp at hN); subst hN)) | (go_at_call 50; (with_reducible refine (HS3.out _ ?_).mono ?_); (focus ((repeat' (first | (with_reducible exact Below.refl _ _) | (with_reducible assumption) | (with_reducible refine Below.alloc ?_ ?_ _) | (with_reducible refine below_drewN ?_ _) | (with_reducible refine Below.drew ?_) | (with_reducible refine Below.setCell ?_ ?_ _) | (with_reducible refine below_via (by assumption) ?_ ?_) | (with_reducible refine below_via (later_below _) ?_ ?_) | (with_reducible exact Nat.le_refl _) | omega | (simp; omega) | (simp; done))))); rintro e w3 ⟨rfl, hb⟩; have hb3 := hb; (refine mem hb ?_; intro N hN hz hc hf; (try simp at hN); subst hN)))
    go_returns
    exact ⟨rfl, by (repeat' (first | (with_reducible exact Below.refl _ _) | (with_reducible assumption) | (with_reducible refine Below.alloc ?_ ?_ _) | (with_reducible refine below_drewN ?_ _) | (with_reducible refine Below.drew ?_) | (with_reducible refine Below.setCell ?_ ?_ _) | (with_reducible refine below_via (by assumption) ?_ ?_) | (with_reducible refine below_via (later_below _) ?_ ?_) | (with_reducible exact Nat.le_refl _) | omega | (simp; omega) | (simp; done)))⟩
  | false =>
    cases a2 with
    | false =>
      show Calls _ _ _ _ fun e w' => e = .returned (.int .i64 4) ∧ Below w.heap.size w w'
      clear hcs
      go_enter Tryz.func37, Tryz.ntmps37
      go_wp2_with (first | (go_at_call 48; (with_reducible refine (HS1.out _ ?_).mono ?_); (focus ((repeat' (first | (with_reducible exact Below.refl _ _) | (with_reducible assumption) | (with_reducible refine Below.alloc ?_ ?_ _) | (with_reducible refine below_drewN ?_ _) | (with_reducible refine Below.drew ?_) | (with_reducible refine Below.setCell ?_ ?_ _) | (with_reducible refine below_via (by assumption) ?_ ?_) | (with_reducible refine below_via (later_below _) ?_ ?_) | (with_reducible exact Nat.le_refl _) | omega | (simp; omega) | (simp; done))))); rintro e w1 ⟨rfl, hb⟩; have hb1 := hb; (refine mem hb ?_; intro N hN hz hc hf; (try simp at hN); subst hN)) | (go_at_call 49; (with_reducible refine (HS2.out _ ?_).mono ?_); (focus ((repeat' (first | (with_reducible exact Below.refl _ _) | (with_reducible assumption) | (with_reducible refine Below.alloc ?_ ?_ _) | (with_reducible refine below_drewN ?_ _) | (with_reducible refine Below.drew ?_) | (with_reducible refine Below.setCell ?_ ?_ _) | (with_reducible refine below_via (by assumption) ?_ ?_) | (with_reducible refine below_via (later_below _) ?_ ?_) | (with_reducible exact Nat.le_refl _) | omega | (simp; omega) | (simp; done))))); rintro e w2 ⟨rfl, hb⟩; have hb2 := hb; (refine mem hb ?_; intro N hN hz hc hf; (try simp at hN); subst hN)) | (go_at_call 50; (with_reducible refine (HS3.out _ ?_).mono ?_); (focus ((repeat' (first | (with_reducible exact Below.refl _ _) | (with_reducible assumption) | (with_reducible refine Below.alloc ?_ ?_ _) | (with_reducible refine below_drewN ?_ _) | (with_reducible refine Below.drew ?_) | (with_reducible refine Below.setCell ?_ ?_ _) | (with_reducible refine below_via (by assumption) ?_ ?_) | (with_reducible refine below_via (later_below _) ?_ ?_) | (with_reducible exact Nat.le_refl _) | omega | (simp; omega) | (simp; done))))); rintro e w3 ⟨rfl, hb⟩; have hb3 := hb; (refine mem hb ?_; intro N hN hz hc hf; (try simp at hN); subst hN)))
      go_returns
      exact ⟨rfl, by (repeat' (first | (with_reducible exact Below.refl _ _) | (with_reducible assumption) | (with_reducible refine Below.alloc ?_ ?_ _) | (with_reducible refine below_drewN ?_ _) | (with_reducible refine Below.drew ?_) | (with_reducible refine Below.setCell ?_ ?_ _) | (with_reducible refine below_via (by assumption) ?_ ?_) | (with_reducible refine below_via (later_below _) ?_ ?_) | (with_reducible exact Nat.le_refl _) | omega | (simp; omega) | (simp; done)))⟩
    | true =>
      cases a3 with
      | false =>
        show Calls _ _ _ _ fun e w' => e = .returned (.int .i64 9) ∧ Below w.heap.size w w'
        clear hcs
        go_enter Tryz.func37, Tryz.ntmps37
        go_wp2_with (first | (go_at_call 48; (with_reducible refine (HS1.out _ ?_).mono ?_); (focus ((repeat' (first | (with_reducible exact Below.refl _ _) | (with_reducible assumption) | (with_reducible refine Below.alloc ?_ ?_ _) | (with_reducible refine below_drewN ?_ _) | (with_reducible refine Below.drew ?_) | (with_reducible refine Below.setCell ?_ ?_ _) | (with_reducible refine below_via (by assumption) ?_ ?_) | (with_reducible refine below_via (later_below _) ?_ ?_) | (with_reducible exact Nat.le_refl _) | omega | (simp; omega) | (simp; done))))); rintro e w1 ⟨rfl, hb⟩; have hb1 := hb; (refine mem hb ?_; intro N hN hz hc hf; (try simp at hN); subst hN)) | (go_at_call 49; (with_reducible refine (HS2.out _ ?_).mono ?_); (focus ((repeat' (first | (with_reducible exact Below.refl _ _) | (with_reducible assumption) | (with_reducible refine Below.alloc ?_ ?_ _) | (with_reducible refine below_drewN ?_ _) | (with_reducible refine Below.drew ?_) | (with_reducible refine Below.setCell ?_ ?_ _) | (with_reducible refine below_via (by assumption) ?_ ?_) | (with_reducible refine below_via (later_below _) ?_ ?_) | (with_reducible exact Nat.le_refl _) | omega | (simp; omega) | (simp; done))))); rintro e w2 ⟨rfl, hb⟩; have hb2 := hb; (refine mem hb ?_; intro N hN hz hc hf; (try simp at hN); subst hN)) | (go_at_call 50; (with_reducible refine (HS3.out _ ?_).mono ?_); (focus ((repeat' (first | (with_reducible exact Below.refl _ _) | (with_reducible assumption) | (with_reducible refine Below.alloc ?_ ?_ _) | (with_reducible refine below_drewN ?_ _) | (with_reducible refine Below.drew ?_) | (with_reducible refine Below.setCell ?_ ?_ _) | (with_reducible refine below_via (by assumption) ?_ ?_) | (with_reducible refine below_via (later_below _) ?_ ?_) | (with_reducible exact Nat.le_refl _) | omega | (simp; omega) | (simp; done))))); rintro e w3 ⟨rfl, hb⟩; have hb3 := hb; (refine mem hb ?_; intro N hN hz hc hf; (try simp at hN); subst hN)))
        go_returns
        exact ⟨rfl, by (repeat' (first | (with_reducible exact Below.refl _ _) | (with_reducible assumption) | (with_reducible refine Below.alloc ?_ ?_ _) | (with_reducible refine below_drewN ?_ _) | (with_reducible refine Below.drew ?_) | (with_reducible refine Below.setCell ?_ ?_ _) | (with_reducible refine below_via (by assumption) ?_ ?_) | (with_reducible refine below_via (later_below _) ?_ ?_) | (with_reducible exact Nat.le_refl _) | omega | (simp; omega) | (simp; done)))⟩
      | true => exact absurd rfl hcs

set_option maxHeartbeats 3200000 in
set_option maxRecDepth 100000 in
include hL hrk hrm hin in
theorem st_left (hcs : csE s last = 0) (hle : fe (s.left.map fun x => rkE n (.inl x) false [⟨#[]⟩]) ≠ 0) : Calls Tryz.prog 37 #[s.v, .bool last] w fun e w' => e = .returned (.int .i64 (stE n s last)) ∧ Below w.heap.size w w' := by
  have hD : stE n s last = fe (s.left.map fun x => rkE n (.inl x) false [⟨#[]⟩]) := by
    show fe (csE s last :: _) = _
    rw [fe_cons0 hcs, fe_app, if_neg hle]
  rw [hD]
  obtain ⟨a1, ha1⟩ : ∃ b, (s.names.any longN || decide (40 < s.label.size)) = b := ⟨_, rfl⟩
  obtain ⟨a2, ha2⟩ : ∃ b, (decide (0 ≤ s.ln) && fsB s last) = b := ⟨_, rfl⟩
  obtain ⟨a3, ha3⟩ : ∃ b, (!(s.names.any badN) && !((s.k == 13 || s.k == 14) && !nameB s.label.data.toList)) = b := ⟨_, rfl⟩
  have HS1 : Hid (∀ W, Below w.heap.size w W → Calls Tryz.prog 48 #[s.v] W fun e w' => e = .returned (.bool a1) ∧ Below W.heap.size W w') := fun W hW => by rw [← ha1]; exact rstatLong_any s W (hin.still (still_of hW (Nat.le_refl _)) hW.size)
  have HS2 : Hid (∀ W, Below w.heap.size w W → Calls Tryz.prog 49 #[s.v, .bool last] W fun e w' => e = .returned (.bool a2) ∧ Below W.heap.size W w') := fun W hW => by rw [← ha2]; exact rstatForm_any s last W (hin.still (still_of hW (Nat.le_refl _)) hW.size)
  have HS3 : Hid (∀ W, Below w.heap.size w W → Calls Tryz.prog 50 #[s.v] W fun e w' => e = .returned (.bool a3) ∧ Below W.heap.size W w') := fun W hW => by rw [← ha3]; exact rstatNamed_any s W (hin.still (still_of hW (Nat.le_refl _)) hW.size)
  obtain ⟨rfl, rfl, rfl⟩ := cs_parts hcs ha1 ha2 ha3
  obtain ⟨EL, hEL⟩ : ∃ e, fe (s.left.map fun x => rkE n (.inl x) false [⟨#[]⟩]) = e := ⟨_, rfl⟩
  have HLx : Hid (∀ W B, Below w.heap.size w W → W.cell? ⟨B, 0, none⟩ = some (.string ⟨#[]⟩) → Calls Tryz.prog 51 #[.slice s.lA s.left.length s.lC, .bool false, .slice (some ⟨B, 0, none⟩) 1 1] W fun e w' => e = .returned (.int .i64 EL) ∧ Below W.heap.size W w') := fun W B hW hc => by
    rw [← hEL]
    exact hL s.left s.lA s.lC false (some ⟨B, 0, none⟩) 1 [⟨#[]⟩] W.heap.size W (fun y hy => by have := rkXs_mem hy; rw [rkS_eq] at hrk hrm; omega) (hin.lf.still (still_of hW (Nat.le_refl _)) hW.size) ⟨Nat.le_refl _, (by decide : (1 : Nat) ≤ 9223372036854775807), fun h => by cases h⟩ (.inr ⟨B, 0, rfl, cell_lt hc, fun i hi => by
        obtain rfl : i = 0 := by simp at hi; omega
        exact hc⟩) (Nat.le_refl _) (fun s hs => by obtain rfl : s = ⟨#[]⟩ := by simpa using hs
                                                   exact Nat.zero_le _)
  rw [hEL] at hle ⊢
  have t0 : (EL != 0) = true := by simpa using hle
  clear hD ha1 ha2 ha3 hin hL hrk hrm hEL hcs hle
  go_enter Tryz.func37, Tryz.ntmps37
  go_wp2_with (first | (go_at_call 48; (with_reducible refine (HS1.out _ ?_).mono ?_); (focus ((repeat' (first | (with_reducible exact Below.refl _ _) | (with_reducible assumption) | (with_reducible refine Below.alloc ?_ ?_ _) | (with_reducible refine below_drewN ?_ _) | (with_reducible refine Below.drew ?_) | (with_reducible refine Below.setCell ?_ ?_ _) | (with_reducible refine below_via (by assumption) ?_ ?_) | (with_reducible refine below_via (later_below _) ?_ ?_) | (with_reducible exact Nat.le_refl _) | omega | (simp; omega) | (simp; done))))); rintro e w1 ⟨rfl, hb⟩; have hb1 := hb; (refine mem hb ?_; intro N hN hz hc hf; (try simp at hN); subst hN)) | (go_at_call 49; (with_reducible refine (HS2.out _ ?_).mono ?_); (focus ((repeat' (first | (with_reducible exact Below.refl _ _) | (with_reducible assumption) | (with_reducible refine Below.alloc ?_ ?_ _) | (with_reducible refine below_drewN ?_ _) | (with_reducible refine Below.drew ?_) | (with_reducible refine Below.setCell ?_ ?_ _) | (with_reducible refine below_via (by assumption) ?_ ?_) | (with_reducible refine below_via (later_below _) ?_ ?_) | (with_reducible exact Nat.le_refl _) | omega | (simp; omega) | (simp; done))))); rintro e w2 ⟨rfl, hb⟩; have hb2 := hb; (refine mem hb ?_; intro N hN hz hc hf; (try simp at hN); subst hN)) | (go_at_call 50; (with_reducible refine (HS3.out _ ?_).mono ?_); (focus ((repeat' (first | (with_reducible exact Below.refl _ _) | (with_reducible assumption) | (with_reducible refine Below.alloc ?_ ?_ _) | (with_reducible refine below_drewN ?_ _) | (with_reducible refine Below.drew ?_) | (with_reducible refine Below.setCell ?_ ?_ _) | (with_reducible refine below_via (by assumption) ?_ ?_) | (with_reducible refine below_via (later_below _) ?_ ?_) | (with_reducible exact Nat.le_refl _) | omega | (simp; omega) | (simp; done))))); rintro e w3 ⟨rfl, hb⟩; have hb3 := hb; (refine mem hb ?_; intro N hN hz hc hf; (try simp at hN); subst hN)) | (go_at_call 51; (with_reducible refine (HLx.out _ _ ?_ ?_).mono ?_); (focus ((repeat' (first | (with_reducible exact Below.refl _ _) | (with_reducible assumption) | (with_reducible refine Below.alloc ?_ ?_ _) | (with_reducible refine below_drewN ?_ _) | (with_reducible refine Below.drew ?_) | (with_reducible refine Below.setCell ?_ ?_ _) | (with_reducible refine below_via (by assumption) ?_ ?_) | (with_reducible refine below_via (later_below _) ?_ ?_) | (with_reducible exact Nat.le_refl _) | omega | (simp; omega) | (simp; done))))); (focus (simp [cell_alloc_if])); rintro e w4 ⟨rfl, hb⟩; have hb4 := hb; (refine mem hb ?_; intro N hN hz hc hf; (try simp at hN); subst hN)))
  go_returns
  exact ⟨rfl, by (repeat' (first | (with_reducible exact Below.refl _ _) | (with_reducible assumption) | (with_reducible refine Below.alloc ?_ ?_ _) | (with_reducible refine below_drewN ?_ _) | (with_reducible refine Below.drew ?_) | (with_reducible refine Below.setCell ?_ ?_ _) | (with_reducible refine below_via (by assumption) ?_ ?_) | (with_reducible refine below_via (later_below _) ?_ ?_) | (with_reducible exact Nat.le_refl _) | omega | (simp; omega) | (simp; done)))⟩


theorem st_rest {n : Nat} {s : TS} {last : Bool} (hcs : csE s last = 0) (hle : fe (s.left.map fun x => rkE n (.inl x) false [⟨#[]⟩]) = 0) : stE n s last = fe ((restS s).map fun p => rkE n p false (alS s)) := by
  show fe (csE s last :: _) = _
  rw [fe_cons0 hcs, fe_app, if_pos hle]

set_option maxHeartbeats 6400000 in
set_option maxRecDepth 100000 in
include hL hB hrk hrm hin in
theorem st_rep (h7 : s.k = 7) (hcs : csE s last = 0) (hle : fe (s.left.map fun x => rkE n (.inl x) false [⟨#[]⟩]) = 0) : Calls Tryz.prog 37 #[s.v, .bool last] w fun e w' => e = .returned (.int .i64 (stE n s last)) ∧ Below w.heap.size w w' := by
  have hb1 := rep_one (csE_form hcs).1 h7
  obtain ⟨ER, hER⟩ : ∃ e, fe (s.right.map fun x => rkE n (.inl x) false [⟨#[]⟩]) = e := ⟨_, rfl⟩
  have hal : alS s = [⟨#[]⟩] := alS_one (by omega) (.inl (by omega))
  obtain ⟨y, hy⟩ : ∃ y, s.blocks = [y] := by
    match h : s.blocks with
    | [y] => exact ⟨y, rfl⟩
    | [] => rw [h] at hb1; cases hb1
    | _ :: _ :: _ => rw [h] at hb1; simp at hb1
  have hD : stE n s last = if rkE n (.inr y) false [⟨#[]⟩] = 0 then ER else rkE n (.inr y) false [⟨#[]⟩] := by
    rw [st_rest hcs hle, hal]
    unfold restS
    rw [if_pos h7, hy, ← hER, List.map_append, List.map_map, List.map_map]
    rfl
  rw [hD]
  obtain ⟨a1, ha1⟩ : ∃ b, (s.names.any longN || decide (40 < s.label.size)) = b := ⟨_, rfl⟩
  obtain ⟨a2, ha2⟩ : ∃ b, (decide (0 ≤ s.ln) && fsB s last) = b := ⟨_, rfl⟩
  obtain ⟨a3, ha3⟩ : ∃ b, (!(s.names.any badN) && !((s.k == 13 || s.k == 14) && !nameB s.label.data.toList)) = b := ⟨_, rfl⟩
  have HS1 : Hid (∀ W, Below w.heap.size w W → Calls Tryz.prog 48 #[s.v] W fun e w' => e = .returned (.bool a1) ∧ Below W.heap.size W w') := fun W hW => by rw [← ha1]; exact rstatLong_any s W (hin.still (still_of hW (Nat.le_refl _)) hW.size)
  have HS2 : Hid (∀ W, Below w.heap.size w W → Calls Tryz.prog 49 #[s.v, .bool last] W fun e w' => e = .returned (.bool a2) ∧ Below W.heap.size W w') := fun W hW => by rw [← ha2]; exact rstatForm_any s last W (hin.still (still_of hW (Nat.le_refl _)) hW.size)
  have HS3 : Hid (∀ W, Below w.heap.size w W → Calls Tryz.prog 50 #[s.v] W fun e w' => e = .returned (.bool a3) ∧ Below W.heap.size W w') := fun W hW => by rw [← ha3]; exact rstatNamed_any s W (hin.still (still_of hW (Nat.le_refl _)) hW.size)
  obtain ⟨rfl, rfl, rfl⟩ := cs_parts hcs ha1 ha2 ha3
  obtain ⟨EL, hEL⟩ : ∃ e, fe (s.left.map fun x => rkE n (.inl x) false [⟨#[]⟩]) = e := ⟨_, rfl⟩
  have HLx : Hid (∀ W B, Below w.heap.size w W → W.cell? ⟨B, 0, none⟩ = some (.string ⟨#[]⟩) → Calls Tryz.prog 51 #[.slice s.lA s.left.length s.lC, .bool false, .slice (some ⟨B, 0, none⟩) 1 1] W fun e w' => e = .returned (.int .i64 EL) ∧ Below W.heap.size W w') := fun W B hW hc => by
    rw [← hEL]
    exact hL s.left s.lA s.lC false (some ⟨B, 0, none⟩) 1 [⟨#[]⟩] W.heap.size W (fun y hy => by have := rkXs_mem hy; rw [rkS_eq] at hrk hrm; omega) (hin.lf.still (still_of hW (Nat.le_refl _)) hW.size) ⟨Nat.le_refl _, (by decide : (1 : Nat) ≤ 9223372036854775807), fun h => by cases h⟩ (.inr ⟨B, 0, rfl, cell_lt hc, fun i hi => by
        obtain rfl : i = 0 := by simp at hi; omega
        exact hc⟩) (Nat.le_refl _) (fun s hs => by obtain rfl : s = ⟨#[]⟩ := by simpa using hs
                                                   exact Nat.zero_le _)
  have HRx : Hid (∀ W B, Below w.heap.size w W → W.cell? ⟨B, 0, none⟩ = some (.string ⟨#[]⟩) → Calls Tryz.prog 51 #[.slice s.rA s.right.length s.rC, .bool false, .slice (some ⟨B, 0, none⟩) 1 1] W fun e w' => e = .returned (.int .i64 ER) ∧ Below W.heap.size W w') := fun W B hW hc => by
    rw [← hER]
    exact hL s.right s.rA s.rC false (some ⟨B, 0, none⟩) 1 [⟨#[]⟩] W.heap.size W (fun y hy => by have := rkXs_mem hy; rw [rkS_eq] at hrk hrm; omega) (hin.rt.still (still_of hW (Nat.le_refl _)) hW.size) ⟨Nat.le_refl _, (by decide : (1 : Nat) ≤ 9223372036854775807), fun h => by cases h⟩ (.inr ⟨B, 0, rfl, cell_lt hc, fun i hi => by
        obtain rfl : i = 0 := by simp at hi; omega
        exact hc⟩) (Nat.le_refl _) (fun s hs => by obtain rfl : s = ⟨#[]⟩ := by simpa using hs
                                                   exact Nat.zero_le _)
  have HBl : Hid (∀ k (h : k < s.blocks.length) W, Below w.heap.size w W → Calls Tryz.prog 21 #[(s.blocks[k]).v] W fun e w' => e = .returned (.int .i64 (rkE n (.inr s.blocks[k]) false [⟨#[]⟩])) ∧ Below W.heap.size W w') := fun k h W hW => by
    have hr := rkBs_mem (List.getElem_mem h)
    rw [rkS_eq] at hrk hrm
    exact hB _ W (by omega) (by omega) (((inBs_iff _).1 hin.bs.2.2 _ (List.getElem_mem h)).still (still_of hW (Nat.le_refl _)) hW.size)
  rw [hEL] at hle
  subst hle
  have h0 : 0 < s.blocks.length := by omega
  have HB0 := Lib.hid (HBl.out 0 h0)
  obtain ⟨b, o, haB, hbB, hcB, -⟩ := hin.bs.at_ h0
  have hyy : s.blocks[0] = y := by simp [hy]
  rw [hyy] at HB0 hcB
  rw [Nat.add_zero] at hcB
  unfold B1 at hcB
  obtain ⟨ey, hey⟩ : ∃ e, rkE n (.inr y) false [⟨#[]⟩] = e := ⟨_, rfl⟩
  rw [hey] at HB0 ⊢
  have d7 : (s.k == 7) = true := by simpa using h7
  have hbl := cell_lt hcB
  have dl : (s.blocks.length : Int) = 1 := by omega
  obtain ⟨i1, i2, -⟩ := hin.rt.1
  have hnR : (s.right.length : Int) ≤ 9223372036854775807 := by omega
  clear hD ha1 ha2 ha3 hin hL hB hrk hrm hEL hcs hER hal hy hyy hey HBl h7 hb1
  simp only [TS.v, haB] at HS1 HS2 HS3
  by_cases he : ey = 0
  · subst he
    rw [if_pos rfl]
    go_enter Tryz.func37, Tryz.ntmps37
    go_wp2_with (first | (go_at_call 48; (with_reducible refine (HS1.out _ ?_).mono ?_); (focus ((repeat' (first | (with_reducible exact Below.refl _ _) | (with_reducible assumption) | (with_reducible refine Below.alloc ?_ ?_ _) | (with_reducible refine below_drewN ?_ _) | (with_reducible refine Below.drew ?_) | (with_reducible refine Below.setCell ?_ ?_ _) | (with_reducible refine below_via (by assumption) ?_ ?_) | (with_reducible refine below_via (later_below _) ?_ ?_) | (with_reducible exact Nat.le_refl _) | omega | (simp; omega) | (simp; done))))); rintro e w1 ⟨rfl, hb⟩; have hb1 := hb; (refine mem hb ?_; intro N hN hz hc hf; (try simp at hN); subst hN)) | (go_at_call 49; (with_reducible refine (HS2.out _ ?_).mono ?_); (focus ((repeat' (first | (with_reducible exact Below.refl _ _) | (with_reducible assumption) | (with_reducible refine Below.alloc ?_ ?_ _) | (with_reducible refine below_drewN ?_ _) | (with_reducible refine Below.drew ?_) | (with_reducible refine Below.setCell ?_ ?_ _) | (with_reducible refine below_via (by assumption) ?_ ?_) | (with_reducible refine below_via (later_below _) ?_ ?_) | (with_reducible exact Nat.le_refl _) | omega | (simp; omega) | (simp; done))))); rintro e w2 ⟨rfl, hb⟩; have hb2 := hb; (refine mem hb ?_; intro N hN hz hc hf; (try simp at hN); subst hN)) | (go_at_call 50; (with_reducible refine (HS3.out _ ?_).mono ?_); (focus ((repeat' (first | (with_reducible exact Below.refl _ _) | (with_reducible assumption) | (with_reducible refine Below.alloc ?_ ?_ _) | (with_reducible refine below_drewN ?_ _) | (with_reducible refine Below.drew ?_) | (with_reducible refine Below.setCell ?_ ?_ _) | (with_reducible refine below_via (by assumption) ?_ ?_) | (with_reducible refine below_via (later_below _) ?_ ?_) | (with_reducible exact Nat.le_refl _) | omega | (simp; omega) | (simp; done))))); rintro e w3 ⟨rfl, hb⟩; have hb3 := hb; (refine mem hb ?_; intro N hN hz hc hf; (try simp at hN); subst hN)) | (go_at_call 51; (with_reducible refine (HLx.out _ _ ?_ ?_).mono ?_); (focus ((repeat' (first | (with_reducible exact Below.refl _ _) | (with_reducible assumption) | (with_reducible refine Below.alloc ?_ ?_ _) | (with_reducible refine below_drewN ?_ _) | (with_reducible refine Below.drew ?_) | (with_reducible refine Below.setCell ?_ ?_ _) | (with_reducible refine below_via (by assumption) ?_ ?_) | (with_reducible refine below_via (later_below _) ?_ ?_) | (with_reducible exact Nat.le_refl _) | omega | (simp; omega) | (simp; done))))); (focus (simp [cell_alloc_if])); rintro e w4 ⟨rfl, hb⟩; have hb4 := hb; (refine mem hb ?_; intro N hN hz hc hf; (try simp at hN); subst hN)) | (go_at_call 21; (with_reducible refine (HB0.out _ ?_).mono ?_); (focus ((repeat' (first | (with_reducible exact Below.refl _ _) | (with_reducible assumption) | (with_reducible refine Below.alloc ?_ ?_ _) | (with_reducible refine below_drewN ?_ _) | (with_reducible refine Below.drew ?_) | (with_reducible refine Below.setCell ?_ ?_ _) | (with_reducible refine below_via (by assumption) ?_ ?_) | (with_reducible refine below_via (later_below _) ?_ ?_) | (with_reducible exact Nat.le_refl _) | omega | (simp; omega) | (simp; done))))); rintro e w5 ⟨rfl, hb⟩; have hb5 := hb; (refine mem hb ?_; intro N hN hz hc hf; (try simp at hN); subst hN)) | (go_at_call 51; (with_reducible refine (HRx.out _ _ ?_ ?_).mono ?_); (focus ((repeat' (first | (with_reducible exact Below.refl _ _) | (with_reducible assumption) | (with_reducible refine Below.alloc ?_ ?_ _) | (with_reducible refine below_drewN ?_ _) | (with_reducible refine Below.drew ?_) | (with_reducible refine Below.setCell ?_ ?_ _) | (with_reducible refine below_via (by assumption) ?_ ?_) | (with_reducible refine below_via (later_below _) ?_ ?_) | (with_reducible exact Nat.le_refl _) | omega | (simp; omega) | (simp; done))))); (focus (simp [cell_alloc_if])); rintro e w6 ⟨rfl, hb⟩; have hb6 := hb; (refine mem hb ?_; intro N hN hz hc hf; (try simp at hN); subst hN)))
    go_returns
    exact ⟨rfl, by (repeat' (first | (with_reducible exact Below.refl _ _) | (with_reducible assumption) | (with_reducible refine Below.alloc ?_ ?_ _) | (with_reducible refine below_drewN ?_ _) | (with_reducible refine Below.drew ?_) | (with_reducible refine Below.setCell ?_ ?_ _) | (with_reducible refine below_via (by assumption) ?_ ?_) | (with_reducible refine below_via (later_below _) ?_ ?_) | (with_reducible exact Nat.le_refl _) | omega | (simp; omega) | (simp; done)))⟩
  · rw [if_neg he]
    have t0 : (ey != 0) = true := by simpa using he
    clear he
    go_enter Tryz.func37, Tryz.ntmps37
    go_wp2_with (first | (go_at_call 48; (with_reducible refine (HS1.out _ ?_).mono ?_); (focus ((repeat' (first | (with_reducible exact Below.refl _ _) | (with_reducible assumption) | (with_reducible refine Below.alloc ?_ ?_ _) | (with_reducible refine below_drewN ?_ _) | (with_reducible refine Below.drew ?_) | (with_reducible refine Below.setCell ?_ ?_ _) | (with_reducible refine below_via (by assumption) ?_ ?_) | (with_reducible refine below_via (later_below _) ?_ ?_) | (with_reducible exact Nat.le_refl _) | omega | (simp; omega) | (simp; done))))); rintro e w1 ⟨rfl, hb⟩; have hb1 := hb; (refine mem hb ?_; intro N hN hz hc hf; (try simp at hN); subst hN)) | (go_at_call 49; (with_reducible refine (HS2.out _ ?_).mono ?_); (focus ((repeat' (first | (with_reducible exact Below.refl _ _) | (with_reducible assumption) | (with_reducible refine Below.alloc ?_ ?_ _) | (with_reducible refine below_drewN ?_ _) | (with_reducible refine Below.drew ?_) | (with_reducible refine Below.setCell ?_ ?_ _) | (with_reducible refine below_via (by assumption) ?_ ?_) | (with_reducible refine below_via (later_below _) ?_ ?_) | (with_reducible exact Nat.le_refl _) | omega | (simp; omega) | (simp; done))))); rintro e w2 ⟨rfl, hb⟩; have hb2 := hb; (refine mem hb ?_; intro N hN hz hc hf; (try simp at hN); subst hN)) | (go_at_call 50; (with_reducible refine (HS3.out _ ?_).mono ?_); (focus ((repeat' (first | (with_reducible exact Below.refl _ _) | (with_reducible assumption) | (with_reducible refine Below.alloc ?_ ?_ _) | (with_reducible refine below_drewN ?_ _) | (with_reducible refine Below.drew ?_) | (with_reducible refine Below.setCell ?_ ?_ _) | (with_reducible refine below_via (by assumption) ?_ ?_) | (with_reducible refine below_via (later_below _) ?_ ?_) | (with_reducible exact Nat.le_refl _) | omega | (simp; omega) | (simp; done))))); rintro e w3 ⟨rfl, hb⟩; have hb3 := hb; (refine mem hb ?_; intro N hN hz hc hf; (try simp at hN); subst hN)) | (go_at_call 51; (with_reducible refine (HLx.out _ _ ?_ ?_).mono ?_); (focus ((repeat' (first | (with_reducible exact Below.refl _ _) | (with_reducible assumption) | (with_reducible refine Below.alloc ?_ ?_ _) | (with_reducible refine below_drewN ?_ _) | (with_reducible refine Below.drew ?_) | (with_reducible refine Below.setCell ?_ ?_ _) | (with_reducible refine below_via (by assumption) ?_ ?_) | (with_reducible refine below_via (later_below _) ?_ ?_) | (with_reducible exact Nat.le_refl _) | omega | (simp; omega) | (simp; done))))); (focus (simp [cell_alloc_if])); rintro e w4 ⟨rfl, hb⟩; have hb4 := hb; (refine mem hb ?_; intro N hN hz hc hf; (try simp at hN); subst hN)) | (go_at_call 21; (with_reducible refine (HB0.out _ ?_).mono ?_); (focus ((repeat' (first | (with_reducible exact Below.refl _ _) | (with_reducible assumption) | (with_reducible refine Below.alloc ?_ ?_ _) | (with_reducible refine below_drewN ?_ _) | (with_reducible refine Below.drew ?_) | (with_reducible refine Below.setCell ?_ ?_ _) | (with_reducible refine below_via (by assumption) ?_ ?_) | (with_reducible refine below_via (later_below _) ?_ ?_) | (with_reducible exact Nat.le_refl _) | omega | (simp; omega) | (simp; done))))); rintro e w5 ⟨rfl, hb⟩; have hb5 := hb; (refine mem hb ?_; intro N hN hz hc hf; (try simp at hN); subst hN)))
    go_returns
    exact ⟨rfl, by (repeat' (first | (with_reducible exact Below.refl _ _) | (with_reducible assumption) | (with_reducible refine Below.alloc ?_ ?_ _) | (with_reducible refine below_drewN ?_ _) | (with_reducible refine Below.drew ?_) | (with_reducible refine Below.setCell ?_ ?_ _) | (with_reducible refine below_via (by assumption) ?_ ?_) | (with_reducible refine below_via (later_below _) ?_ ?_) | (with_reducible exact Nat.le_refl _) | omega | (simp; omega) | (simp; done)))⟩

set_option maxHeartbeats 12800000 in
set_option maxRecDepth 100000 in
include hX hL hB hrk hrm hin in
theorem st_els (hk7 : s.k ≠ 7) (hk8 : s.k ≠ 8) (hcs : csE s last = 0) (hle : fe (s.left.map fun x => rkE n (.inl x) false [⟨#[]⟩]) = 0) : Calls Tryz.prog 37 #[s.v, .bool last] w fun e w' => e = .returned (.int .i64 (stE n s last)) ∧ Below w.heap.size w w' := by
  have hfs := (csE_form hcs).1
  have h21 : s.k = 2 → s.names.length = 1 := names_one hfs
  obtain ⟨f, hf⟩ : ∃ f : TX ⊕ TB → Int, (fun p => rkE n p false (alS s)) = f := ⟨_, rfl⟩
  have hfX : ∀ x, rkE n (.inl x) false (alS s) = f (.inl x) := fun x => by rw [← hf]
  have hfB : ∀ y, rkE n (.inr y) false [⟨#[]⟩] = f (.inr y) := fun y => by rw [← hf]; exact (rkE_inr n y false (alS s)).symm
  have hbb1 := els_blocks hfs hk8
  have hD : stE n s last = fe (s.right.map (fun x => f (.inl x)) ++ s.blocks.map (fun y => f (.inr y))) := by
    rw [st_rest hcs hle, hf]
    unfold restS
    rw [if_neg hk7, if_neg hk8, List.map_append, List.map_map, List.map_map]
    rfl
  rw [hD]
  obtain ⟨D, hDD⟩ : ∃ D, fe (s.right.map (fun x => f (.inl x)) ++ s.blocks.map (fun y => f (.inr y))) = D := ⟨_, rfl⟩
  rw [hDD]
  have HUZ : ∀ k (h : k < s.right.length), (∀ i (hi : i < s.right.length), i < k → f (.inl s.right[i]) = 0) → (f (.inl s.right[k]) = 0 ∧ ∀ i (hi : i < s.right.length), i < k + 1 → f (.inl s.right[i]) = 0) ∨ (f (.inl s.right[k]) ≠ 0 ∧ D = f (.inl s.right[k])) := fun k h hz => by
    by_cases h0 : f (.inl s.right[k]) = 0
    · refine .inl ⟨h0, fun i hi hik => ?_⟩
      by_cases e : i = k
      · subst e; exact h0
      · exact hz i hi (by omega)
    · refine .inr ⟨h0, ?_⟩
      have e : fe (s.right.map (fun x => f (.inl x))) = f (.inl s.right[k]) := by
        rw [fe_at (k := k) (by simpa using h) (fun i hi hik => by rw [List.getElem_map]; exact hz i (by simpa using hi) hik) (by rw [List.getElem_map]; exact h0), List.getElem_map]
      rw [← hDD, fe_app, e, if_neg h0]
  have HDV : Hid ((∀ i (hi : i < s.right.length), f (.inl s.right[i]) = 0) → (∀ h : 0 < s.blocks.length, D = f (.inr s.blocks[0])) ∧ (s.blocks.length = 0 → D = 0)) := fun hz => by
    have e : fe (s.right.map (fun x => f (.inl x))) = 0 := fe_all fun i hi => by rw [List.getElem_map]; exact hz i (by simpa using hi)
    have e2 : D = fe (s.blocks.map (fun y => f (.inr y))) := by rw [← hDD, fe_app, e, if_pos rfl]
    refine ⟨fun h0 => ?_, fun h0 => ?_⟩
    · have e3 : s.blocks.map (fun y => f (.inr y)) = [f (.inr s.blocks[0])] := by
        apply List.ext_getElem
        · simp; omega
        · intro i h1 h2
          have : i = 0 := by simp at h2; omega
          subst this
          simp
      rw [e2, e3]
      by_cases h9 : f (.inr s.blocks[0]) = 0
      · rw [fe_cons0 h9, h9]; rfl
      · exact fe_cons1 h9
    · rw [e2, List.eq_nil_of_length_eq_zero h0]
      rfl
  obtain ⟨a1, ha1⟩ : ∃ b, (s.names.any longN || decide (40 < s.label.size)) = b := ⟨_, rfl⟩
  obtain ⟨a2, ha2⟩ : ∃ b, (decide (0 ≤ s.ln) && fsB s last) = b := ⟨_, rfl⟩
  obtain ⟨a3, ha3⟩ : ∃ b, (!(s.names.any badN) && !((s.k == 13 || s.k == 14) && !nameB s.label.data.toList)) = b := ⟨_, rfl⟩
  have HS1 : Hid (∀ W, Below w.heap.size w W → Calls Tryz.prog 48 #[s.v] W fun e w' => e = .returned (.bool a1) ∧ Below W.heap.size W w') := fun W hW => by rw [← ha1]; exact rstatLong_any s W (hin.still (still_of hW (Nat.le_refl _)) hW.size)
  have HS2 : Hid (∀ W, Below w.heap.size w W → Calls Tryz.prog 49 #[s.v, .bool last] W fun e w' => e = .returned (.bool a2) ∧ Below W.heap.size W w') := fun W hW => by rw [← ha2]; exact rstatForm_any s last W (hin.still (still_of hW (Nat.le_refl _)) hW.size)
  have HS3 : Hid (∀ W, Below w.heap.size w W → Calls Tryz.prog 50 #[s.v] W fun e w' => e = .returned (.bool a3) ∧ Below W.heap.size W w') := fun W hW => by rw [← ha3]; exact rstatNamed_any s W (hin.still (still_of hW (Nat.le_refl _)) hW.size)
  obtain ⟨rfl, rfl, rfl⟩ := cs_parts hcs ha1 ha2 ha3
  obtain ⟨EL, hEL⟩ : ∃ e, fe (s.left.map fun x => rkE n (.inl x) false [⟨#[]⟩]) = e := ⟨_, rfl⟩
  have HLx : Hid (∀ W B, Below w.heap.size w W → W.cell? ⟨B, 0, none⟩ = some (.string ⟨#[]⟩) → Calls Tryz.prog 51 #[.slice s.lA s.left.length s.lC, .bool false, .slice (some ⟨B, 0, none⟩) 1 1] W fun e w' => e = .returned (.int .i64 EL) ∧ Below W.heap.size W w') := fun W B hW hc => by
    rw [← hEL]
    exact hL s.left s.lA s.lC false (some ⟨B, 0, none⟩) 1 [⟨#[]⟩] W.heap.size W (fun y hy => by have := rkXs_mem hy; rw [rkS_eq] at hrk hrm; omega) (hin.lf.still (still_of hW (Nat.le_refl _)) hW.size) ⟨Nat.le_refl _, (by decide : (1 : Nat) ≤ 9223372036854775807), fun h => by cases h⟩ (.inr ⟨B, 0, rfl, cell_lt hc, fun i hi => by
        obtain rfl : i = 0 := by simp at hi; omega
        exact hc⟩) (Nat.le_refl _) (fun s hs => by obtain rfl : s = ⟨#[]⟩ := by simpa using hs
                                                   exact Nat.zero_le _)
  have HAL : Hid (∀ W, Below w.heap.size w W → Calls Tryz.prog 53 #[s.v] W fun e w' => ∃ g cap, e = .returned (.slice (some ⟨g, 0, none⟩) (alS s).length cap) ∧ (alS s).length ≤ cap ∧ cap ≤ 9223372036854775807 ∧ PsAt w' w'.heap.size (some ⟨g, 0, none⟩) (alS s) ∧ Below W.heap.size W w') := fun W hW => allowed_ps s h21 hrm W (hin.still (still_of hW (Nat.le_refl _)) hW.size)
  have HXk : Hid (∀ k (h : k < s.right.length) W g cap, Below w.heap.size w W → (alS s).length ≤ cap → cap ≤ 9223372036854775807 → PsAt W W.heap.size (some ⟨g, 0, none⟩) (alS s) → Calls Tryz.prog 52 #[(s.right[k]).v, .bool false, .slice (some ⟨g, 0, none⟩) (alS s).length cap] W fun e w' => e = .returned (.int .i64 (f (.inl s.right[k]))) ∧ Below W.heap.size W w') := fun k h W g cap hW h1 h2 h3 => by
    have hr := rkXs_mem (List.getElem_mem h)
    have hsz := al_sz hin hrm
    rw [rkS_eq] at hrk hrm
    rw [← hfX]
    exact hX _ false _ cap (alS s) W.heap.size W (by omega) (by omega) (((inXs_iff _).1 hin.rt.2.2 _ (List.getElem_mem h)).still (still_of hW (Nat.le_refl _)) hW.size) ⟨h1, h2, fun h => by cases h⟩ h3 (Nat.le_refl _) hsz
  have HBl : Hid (∀ k (h : k < s.blocks.length) W, Below w.heap.size w W → Calls Tryz.prog 21 #[(s.blocks[k]).v] W fun e w' => e = .returned (.int .i64 (f (.inr s.blocks[k]))) ∧ Below W.heap.size W w') := fun k h W hW => by
    have hr := rkBs_mem (List.getElem_mem h)
    rw [rkS_eq] at hrk hrm
    rw [← hfB]
    exact hB _ W (by omega) (by omega) (((inBs_iff _).1 hin.bs.2.2 _ (List.getElem_mem h)).still (still_of hW (Nat.le_refl _)) hW.size)
  rw [hEL] at hle
  subst hle
  obtain ⟨i1, i2, -⟩ := hin.rt.1
  have hnR : (s.right.length : Int) ≤ 9223372036854775807 := by omega
  obtain ⟨i3, i4, -⟩ := hin.bs.1
  have hnB : (s.blocks.length : Int) ≤ 9223372036854775807 := by omega
  have HIN := Lib.hid hin
  have d7 : (s.k == 7) = false := by simpa using hk7
  obtain ⟨nA, hnA⟩ : ∃ m, (alS s).length = m := ⟨_, rfl⟩
  rw [hnA] at HAL HXk
  obtain ⟨AL, hAL⟩ : ∃ l, alS s = l := ⟨_, rfl⟩
  rw [hAL] at HAL HXk
  clear ha1 ha2 ha3 hin hL hB hX hrk hrm hEL hcs hf hfX hfB h21 hfs hnA hAL
  have HV0 := Lib.hid (S7n.new s w 40)
  obtain ⟨uR, huR⟩ : ∃ v, s.rA = v := ⟨_, rfl⟩
  obtain ⟨uB, huB⟩ : ∃ v, s.bA = v := ⟨_, rfl⟩
  simp only [TS.v, huR, huB] at HS1 HS2 HS3 HAL
  have d8 : (s.k == 8) = false := by simpa using hk8
  have d8' : (s.k != 8) = true := by simpa using hk8
  clear hD hDD hk7 hk8
  by_cases hRB : s.right.length < s.blocks.length
  · have hRBi : (s.right.length : Int) < s.blocks.length := by omega
    go_enter Tryz.func37, Tryz.ntmps37
    go_wp2_with (first | (go_at_call 48; (with_reducible refine (HS1.out _ ?_).mono ?_); (focus ((repeat' (first | (with_reducible exact Below.refl _ _) | (with_reducible assumption) | (with_reducible refine Below.alloc ?_ ?_ _) | (with_reducible refine below_drewN ?_ _) | (with_reducible refine Below.drew ?_) | (with_reducible refine Below.setCell ?_ ?_ _) | (with_reducible refine below_via (by assumption) ?_ ?_) | (with_reducible refine below_via (later_below _) ?_ ?_) | (with_reducible exact Nat.le_refl _) | omega | (simp; omega) | (simp; done))))); rintro e w1 ⟨rfl, hb⟩; have hb1 := hb; (refine mem hb ?_; intro N hN hz hc hf; (try simp at hN); subst hN)) | (go_at_call 49; (with_reducible refine (HS2.out _ ?_).mono ?_); (focus ((repeat' (first | (with_reducible exact Below.refl _ _) | (with_reducible assumption) | (with_reducible refine Below.alloc ?_ ?_ _) | (with_reducible refine below_drewN ?_ _) | (with_reducible refine Below.drew ?_) | (with_reducible refine Below.setCell ?_ ?_ _) | (with_reducible refine below_via (by assumption) ?_ ?_) | (with_reducible refine below_via (later_below _) ?_ ?_) | (with_reducible exact Nat.le_refl _) | omega | (simp; omega) | (simp; done))))); rintro e w2 ⟨rfl, hb⟩; have hb2 := hb; (refine mem hb ?_; intro N hN hz hc hf; (try simp at hN); subst hN)) | (go_at_call 50; (with_reducible refine (HS3.out _ ?_).mono ?_); (focus ((repeat' (first | (with_reducible exact Below.refl _ _) | (with_reducible assumption) | (with_reducible refine Below.alloc ?_ ?_ _) | (with_reducible refine below_drewN ?_ _) | (with_reducible refine Below.drew ?_) | (with_reducible refine Below.setCell ?_ ?_ _) | (with_reducible refine below_via (by assumption) ?_ ?_) | (with_reducible refine below_via (later_below _) ?_ ?_) | (with_reducible exact Nat.le_refl _) | omega | (simp; omega) | (simp; done))))); rintro e w3 ⟨rfl, hb⟩; have hb3 := hb; (refine mem hb ?_; intro N hN hz hc hf; (try simp at hN); subst hN)) | (go_at_call 51; (with_reducible refine (HLx.out _ _ ?_ ?_).mono ?_); (focus ((repeat' (first | (with_reducible exact Below.refl _ _) | (with_reducible assumption) | (with_reducible refine Below.alloc ?_ ?_ _) | (with_reducible refine below_drewN ?_ _) | (with_reducible refine Below.drew ?_) | (with_reducible refine Below.setCell ?_ ?_ _) | (with_reducible refine below_via (by assumption) ?_ ?_) | (with_reducible refine below_via (later_below _) ?_ ?_) | (with_reducible exact Nat.le_refl _) | omega | (simp; omega) | (simp; done))))); (focus (simp [cell_alloc_if])); rintro e w4 ⟨rfl, hb⟩; have hb4 := hb; (refine mem hb ?_; intro N hN hz hc hf; (try simp at hN); subst hN)))
    go_loopw [5, 6] (fun fv iv wr => ∃ k : Nat, k ≤ s.blocks.length ∧ fv = .int .i64 0 ∧ iv = .int .i64 k ∧ Hid (Below w.heap.size w wr) ∧ Hid (S7n w.heap.size s wr) ∧ Hid (∀ i (hi : i < s.right.length), i < k → f (.inl s.right[i]) = 0)) (fun _ i _ => s.blocks.length - (intOf i).toNat)
    case atStart =>
      have hB1 : Below w.heap.size w w1 := by (repeat' (first | (with_reducible exact Below.refl _ _) | (with_reducible assumption) | (with_reducible refine Below.alloc ?_ ?_ _) | (with_reducible refine below_drewN ?_ _) | (with_reducible refine Below.drew ?_) | (with_reducible refine Below.setCell ?_ ?_ _) | (with_reducible refine below_via (by assumption) ?_ ?_) | (with_reducible refine below_via (later_below _) ?_ ?_) | (with_reducible exact Nat.le_refl _) | omega | (simp; omega) | (simp; done)))
      have hB2 : Below w.heap.size w w2 := by (repeat' (first | (with_reducible exact Below.refl _ _) | (with_reducible assumption) | (with_reducible refine Below.alloc ?_ ?_ _) | (with_reducible refine below_drewN ?_ _) | (with_reducible refine Below.drew ?_) | (with_reducible refine Below.setCell ?_ ?_ _) | (with_reducible refine below_via (by assumption) ?_ ?_) | (with_reducible refine below_via (later_below _) ?_ ?_) | (with_reducible exact Nat.le_refl _) | omega | (simp; omega) | (simp; done)))
      have hB3 : Below w.heap.size w w3 := by (repeat' (first | (with_reducible exact Below.refl _ _) | (with_reducible assumption) | (with_reducible refine Below.alloc ?_ ?_ _) | (with_reducible refine below_drewN ?_ _) | (with_reducible refine Below.drew ?_) | (with_reducible refine Below.setCell ?_ ?_ _) | (with_reducible refine below_via (by assumption) ?_ ?_) | (with_reducible refine below_via (later_below _) ?_ ?_) | (with_reducible exact Nat.le_refl _) | omega | (simp; omega) | (simp; done)))
      have hB4 : Below w.heap.size w w4 := by (repeat' (first | (with_reducible exact Below.refl _ _) | (with_reducible assumption) | (with_reducible refine Below.alloc ?_ ?_ _) | (with_reducible refine below_drewN ?_ _) | (with_reducible refine Below.drew ?_) | (with_reducible refine Below.setCell ?_ ?_ _) | (with_reducible refine below_via (by assumption) ?_ ?_) | (with_reducible refine below_via (later_below _) ?_ ?_) | (with_reducible exact Nat.le_refl _) | omega | (simp; omega) | (simp; done)))
      refine ⟨0, Nat.zero_le _, rfl, rfl, hB4, ?_, ?_⟩
      · show S7n _ _ _
        have k1 : Kept 0 0 (w.alloc (.cells #[.int .i64 s.k, .int .i64 s.ln, .slice s.nA s.names.length s.nC, .slice s.lA s.left.length s.lC, .slice s.rA s.right.length s.rC, .slice s.bA s.blocks.length s.bC, .string s.label] 40)) w1 := by
          rw [huR, huB]; exact kept_of hb1 (Nat.zero_le _)
        have k2 : Kept 0 0 w1 w2 := kept_of hb2 (Nat.zero_le _)
        have k3 : Kept 0 0 w2 w3 := kept_of hb3 (Nat.zero_le _)
        have k4 : Kept 0 0 w3 w4 := kept_of (a := 0) (b := 0) (((Below.refl w3.heap.size w3).alloc (Nat.le_refl _) _).trans (hb4.mono (by simp))) (Nat.zero_le _)
        exact HV0.out.kept (((k1.trans k2).trans k3).trans k4) (Nat.zero_le _)
      · exact fun i _ h => by omega

    case round =>
      obtain ⟨k, hk, rfl, rfl, HE, HV, HZ⟩ := hrel
      obtain ⟨e0, e1, e2, e3, e4, e5, e6⟩ := HV.out
      have hzr := cell_lt e6
      rw [huR] at e4
      rw [huB] at e5
      by_cases hkM : k < s.blocks.length
      · by_cases hlt : k < s.right.length
        · exfalso; omega
        · have hkr : decide ((k : Int) < s.right.length) = false := decide_eq_false (by omega)
          have hkb2 : decide ((k : Int) < s.blocks.length) = true := decide_eq_true (by omega)
          go_wp2_with fail
          exact ⟨⟨k + 1, by omega, rfl, by go_num, HE, HV, fun i hi _ => HZ.out i hi (by omega)⟩, by simp [intOf]; omega⟩
      · obtain rfl : k = s.blocks.length := by omega
        have hDV := HDV.out (fun i hi => HZ.out i hi (by omega))
        clear HZ HUZ HDV
        by_cases hb0 : 0 < s.blocks.length
        · have hdb : decide ((0 : Int) < s.blocks.length) = true := decide_eq_true (by omega)
          obtain ⟨b1, o, haB, hbq, hcq, -⟩ := (HIN.out.bs.still (still_of HE.out (Nat.le_refl _)) (Nat.le_refl _)).at_ hb0
          rw [huB] at haB
          subst haB
          have HB0 := Lib.hid (HBl.out 0 hb0)
          have hD0 := hDV.1 hb0
          obtain ⟨y, hy⟩ : ∃ y, s.blocks[0] = y := ⟨_, rfl⟩
          rw [hy] at hcq HB0 hD0
          rw [Nat.add_zero] at hcq
          unfold B1 at hcq
          have hbl := cell_lt hcq
          subst hD0
          clear hy hDV
          go_wp2_with (go_at_call 21; (with_reducible refine (HB0.out _ ?_).mono ?_); (focus (have h0 := HE.out; (repeat' (first | (with_reducible exact Below.refl _ _) | (with_reducible assumption) | (with_reducible refine Below.alloc ?_ ?_ _) | (with_reducible refine below_drewN ?_ _) | (with_reducible refine Below.drew ?_) | (with_reducible refine Below.setCell ?_ ?_ _) | (with_reducible refine below_via (by assumption) ?_ ?_) | (with_reducible refine below_via (later_below _) ?_ ?_) | (with_reducible exact Nat.le_refl _) | omega | (simp; omega) | (simp; done))))); rintro e w7 ⟨rfl, hb7⟩)
          go_returns
          exact ⟨rfl, by have h0 := HE.out; (repeat' (first | (with_reducible exact Below.refl _ _) | (with_reducible assumption) | (with_reducible refine Below.alloc ?_ ?_ _) | (with_reducible refine below_drewN ?_ _) | (with_reducible refine Below.drew ?_) | (with_reducible refine Below.setCell ?_ ?_ _) | (with_reducible refine below_via (by assumption) ?_ ?_) | (with_reducible refine below_via (later_below _) ?_ ?_) | (with_reducible exact Nat.le_refl _) | omega | (simp; omega) | (simp; done)))⟩
        · exfalso; omega
  · have hRBi : (s.blocks.length : Int) ≤ s.right.length := by omega
    go_enter Tryz.func37, Tryz.ntmps37
    go_wp2_with (first | (go_at_call 48; (with_reducible refine (HS1.out _ ?_).mono ?_); (focus ((repeat' (first | (with_reducible exact Below.refl _ _) | (with_reducible assumption) | (with_reducible refine Below.alloc ?_ ?_ _) | (with_reducible refine below_drewN ?_ _) | (with_reducible refine Below.drew ?_) | (with_reducible refine Below.setCell ?_ ?_ _) | (with_reducible refine below_via (by assumption) ?_ ?_) | (with_reducible refine below_via (later_below _) ?_ ?_) | (with_reducible exact Nat.le_refl _) | omega | (simp; omega) | (simp; done))))); rintro e w1 ⟨rfl, hb⟩; have hb1 := hb; (refine mem hb ?_; intro N hN hz hc hf; (try simp at hN); subst hN)) | (go_at_call 49; (with_reducible refine (HS2.out _ ?_).mono ?_); (focus ((repeat' (first | (with_reducible exact Below.refl _ _) | (with_reducible assumption) | (with_reducible refine Below.alloc ?_ ?_ _) | (with_reducible refine below_drewN ?_ _) | (with_reducible refine Below.drew ?_) | (with_reducible refine Below.setCell ?_ ?_ _) | (with_reducible refine below_via (by assumption) ?_ ?_) | (with_reducible refine below_via (later_below _) ?_ ?_) | (with_reducible exact Nat.le_refl _) | omega | (simp; omega) | (simp; done))))); rintro e w2 ⟨rfl, hb⟩; have hb2 := hb; (refine mem hb ?_; intro N hN hz hc hf; (try simp at hN); subst hN)) | (go_at_call 50; (with_reducible refine (HS3.out _ ?_).mono ?_); (focus ((repeat' (first | (with_reducible exact Below.refl _ _) | (with_reducible assumption) | (with_reducible refine Below.alloc ?_ ?_ _) | (with_reducible refine below_drewN ?_ _) | (with_reducible refine Below.drew ?_) | (with_reducible refine Below.setCell ?_ ?_ _) | (with_reducible refine below_via (by assumption) ?_ ?_) | (with_reducible refine below_via (later_below _) ?_ ?_) | (with_reducible exact Nat.le_refl _) | omega | (simp; omega) | (simp; done))))); rintro e w3 ⟨rfl, hb⟩; have hb3 := hb; (refine mem hb ?_; intro N hN hz hc hf; (try simp at hN); subst hN)) | (go_at_call 51; (with_reducible refine (HLx.out _ _ ?_ ?_).mono ?_); (focus ((repeat' (first | (with_reducible exact Below.refl _ _) | (with_reducible assumption) | (with_reducible refine Below.alloc ?_ ?_ _) | (with_reducible refine below_drewN ?_ _) | (with_reducible refine Below.drew ?_) | (with_reducible refine Below.setCell ?_ ?_ _) | (with_reducible refine below_via (by assumption) ?_ ?_) | (with_reducible refine below_via (later_below _) ?_ ?_) | (with_reducible exact Nat.le_refl _) | omega | (simp; omega) | (simp; done))))); (focus (simp [cell_alloc_if])); rintro e w4 ⟨rfl, hb⟩; have hb4 := hb; (refine mem hb ?_; intro N hN hz hc hf; (try simp at hN); subst hN)))
    go_loopw [5, 6] (fun fv iv wr => ∃ k : Nat, k ≤ s.right.length ∧ fv = .int .i64 0 ∧ iv = .int .i64 k ∧ Hid (Below w.heap.size w wr) ∧ Hid (S7n w.heap.size s wr) ∧ Hid (∀ i (hi : i < s.right.length), i < k → f (.inl s.right[i]) = 0)) (fun _ i _ => s.right.length - (intOf i).toNat)
    case atStart =>
      have hB1 : Below w.heap.size w w1 := by (repeat' (first | (with_reducible exact Below.refl _ _) | (with_reducible assumption) | (with_reducible refine Below.alloc ?_ ?_ _) | (with_reducible refine below_drewN ?_ _) | (with_reducible refine Below.drew ?_) | (with_reducible refine Below.setCell ?_ ?_ _) | (with_reducible refine below_via (by assumption) ?_ ?_) | (with_reducible refine below_via (later_below _) ?_ ?_) | (with_reducible exact Nat.le_refl _) | omega | (simp; omega) | (simp; done)))
      have hB2 : Below w.heap.size w w2 := by (repeat' (first | (with_reducible exact Below.refl _ _) | (with_reducible assumption) | (with_reducible refine Below.alloc ?_ ?_ _) | (with_reducible refine below_drewN ?_ _) | (with_reducible refine Below.drew ?_) | (with_reducible refine Below.setCell ?_ ?_ _) | (with_reducible refine below_via (by assumption) ?_ ?_) | (with_reducible refine below_via (later_below _) ?_ ?_) | (with_reducible exact Nat.le_refl _) | omega | (simp; omega) | (simp; done)))
      have hB3 : Below w.heap.size w w3 := by (repeat' (first | (with_reducible exact Below.refl _ _) | (with_reducible assumption) | (with_reducible refine Below.alloc ?_ ?_ _) | (with_reducible refine below_drewN ?_ _) | (with_reducible refine Below.drew ?_) | (with_reducible refine Below.setCell ?_ ?_ _) | (with_reducible refine below_via (by assumption) ?_ ?_) | (with_reducible refine below_via (later_below _) ?_ ?_) | (with_reducible exact Nat.le_refl _) | omega | (simp; omega) | (simp; done)))
      have hB4 : Below w.heap.size w w4 := by (repeat' (first | (with_reducible exact Below.refl _ _) | (with_reducible assumption) | (with_reducible refine Below.alloc ?_ ?_ _) | (with_reducible refine below_drewN ?_ _) | (with_reducible refine Below.drew ?_) | (with_reducible refine Below.setCell ?_ ?_ _) | (with_reducible refine below_via (by assumption) ?_ ?_) | (with_reducible refine below_via (later_below _) ?_ ?_) | (with_reducible exact Nat.le_refl _) | omega | (simp; omega) | (simp; done)))
      refine ⟨0, Nat.zero_le _, rfl, rfl, hB4, ?_, ?_⟩
      · show S7n _ _ _
        have k1 : Kept 0 0 (w.alloc (.cells #[.int .i64 s.k, .int .i64 s.ln, .slice s.nA s.names.length s.nC, .slice s.lA s.left.length s.lC, .slice s.rA s.right.length s.rC, .slice s.bA s.blocks.length s.bC, .string s.label] 40)) w1 := by
          rw [huR, huB]; exact kept_of hb1 (Nat.zero_le _)
        have k2 : Kept 0 0 w1 w2 := kept_of hb2 (Nat.zero_le _)
        have k3 : Kept 0 0 w2 w3 := kept_of hb3 (Nat.zero_le _)
        have k4 : Kept 0 0 w3 w4 := kept_of (a := 0) (b := 0) (((Below.refl w3.heap.size w3).alloc (Nat.le_refl _) _).trans (hb4.mono (by simp))) (Nat.zero_le _)
        exact HV0.out.kept (((k1.trans k2).trans k3).trans k4) (Nat.zero_le _)
      · exact fun i _ h => by omega

    case round =>
      obtain ⟨k, hk, rfl, rfl, HE, HV, HZ⟩ := hrel
      obtain ⟨e0, e1, e2, e3, e4, e5, e6⟩ := HV.out
      have hzr := cell_lt e6
      rw [huR] at e4
      rw [huB] at e5
      by_cases hkM : k < s.right.length
      · by_cases hlt : k < s.right.length
        · have hkr : decide ((k : Int) < s.right.length) = true := decide_eq_true (by omega)
          obtain ⟨b1, o, haR, hbq, hcq, -⟩ := (HIN.out.rt.still (still_of HE.out (Nat.le_refl _)) (Nat.le_refl _)).at_ hlt
          rw [huR] at haR
          subst haR
          have HXk1 := Lib.hid (HXk.out k hlt)
          have HNX := Lib.hid (HUZ k hlt HZ.out)
          obtain ⟨x, hx⟩ : ∃ x, s.right[k] = x := ⟨_, rfl⟩
          rw [hx] at hcq HXk1 HNX
          obtain ⟨d, hd⟩ : ∃ d, f (.inl x) = d := ⟨_, rfl⟩
          rw [hd] at HXk1 HNX
          obtain ⟨c0, c1, c2, c3, c4, c5, c6, c7⟩ := hcq
          have hbl := cell_lt c0
          clear hx hd
          go_upto_region 19 with fail
          go_cut [5] (fun fv wx => fv = .int .i64 d ∧ Hid (Below w.heap.size w wx) ∧ Hid (S7n w.heap.size s wx))
          case first =>
            go_region_with (first | (go_at_call 53; (with_reducible refine (HAL.out _ ?_).mono ?_); (focus (have h0 := HE.out; (repeat' (first | (with_reducible exact Below.refl _ _) | (with_reducible assumption) | (with_reducible refine Below.alloc ?_ ?_ _) | (with_reducible refine below_drewN ?_ _) | (with_reducible refine Below.drew ?_) | (with_reducible refine Below.setCell ?_ ?_ _) | (with_reducible refine below_via (by assumption) ?_ ?_) | (with_reducible refine below_via (later_below _) ?_ ?_) | (with_reducible exact Nat.le_refl _) | omega | (simp; omega) | (simp; done))))); rintro e w5 ⟨g5, q5, rfl, hq5, hq6, hps, hb⟩; have hB5 : Below wr.heap.size wr w5 := (by (repeat' (first | (with_reducible exact Below.refl _ _) | (with_reducible assumption) | (with_reducible refine Below.alloc ?_ ?_ _) | (with_reducible refine below_drewN ?_ _) | (with_reducible refine Below.drew ?_) | (with_reducible refine Below.setCell ?_ ?_ _) | (with_reducible refine below_via (by assumption) ?_ ?_) | (with_reducible refine below_via (later_below _) ?_ ?_) | (with_reducible exact Nat.le_refl _) | omega | (simp; omega) | (simp; done)))); (refine mem hb ?_; intro N hN hz hc hf; (try simp at hN); subst hN)) | (go_at_call 52; (with_reducible refine (HXk1.out _ g5 q5 ?_ hq5 hq6 ?_).mono ?_); (focus (have h0 := HE.out; (repeat' (first | (with_reducible exact Below.refl _ _) | (with_reducible assumption) | (with_reducible refine Below.alloc ?_ ?_ _) | (with_reducible refine below_drewN ?_ _) | (with_reducible refine Below.drew ?_) | (with_reducible refine Below.setCell ?_ ?_ _) | (with_reducible refine below_via (by assumption) ?_ ?_) | (with_reducible refine below_via (later_below _) ?_ ?_) | (with_reducible exact Nat.le_refl _) | omega | (simp; omega) | (simp; done))))); (focus (first | exact hps | exact hps.still (p1_still (still_of ((Below.refl _ _).drew) (Nat.le_refl _))) (Nat.le_refl _))); rintro e w6 ⟨rfl, hb⟩; have hB6 := hB5.trans (hb.mono hB5.size)))
            all_goals
              go_wp2_with fail
              go_meet
              first
              | exact ⟨rfl, HE.out.trans (hB6.mono HE.out.size), HV.out.kept (kept_of (a := 0) (b := 0) hB6 (Nat.zero_le _)) (Nat.zero_le _)⟩
              | exact ⟨rfl, HE.out.trans (hB6.drew.mono HE.out.size), HV.out.kept (kept_of (a := 0) (b := 0) hB6.drew (Nat.zero_le _)) (Nat.zero_le _)⟩
          case rest =>
            obtain ⟨rfl, HE2, HV2⟩ := hcut
            obtain ⟨f0, f1, f2, f3, f4, f5, f6⟩ := HV2.out
            have hzc := cell_lt f6
            rw [huR] at f4
            rw [huB] at f5
            have HE3 := HE2.out
            by_cases hkb : k < s.blocks.length
            · have hkb2 : decide ((k : Int) < s.blocks.length) = true := decide_eq_true (by omega)
              rcases HNX.out with ⟨h0, hall⟩ | ⟨h0, hD0⟩
              · subst h0
                have HALL := Lib.hid hall
                clear hall
                go_wp2_with fail
                go_roundw
                case rel => first | exact ⟨k + 1, by omega, rfl, by go_num, HE2, HV2, HALL.out⟩ | ((repeat apply Exists.intro); exact ⟨⟨k + 1, by omega, rfl, by go_num, HE2, HV2, HALL.out⟩, rfl⟩)
                case measure => simp [intOf]; omega
              · have t0 : (d == 0) = false := by simpa using h0
                have t1 : (d != 0) = true := by simpa using h0
                subst hD0
                clear h0
                go_wp2_with fail
                go_returns
                exact ⟨rfl, HE3⟩
            · have hkb2 : decide ((k : Int) < s.blocks.length) = false := decide_eq_false (by omega)
              rcases HNX.out with ⟨h0, hall⟩ | ⟨h0, hD0⟩
              · subst h0
                have HALL := Lib.hid hall
                clear hall
                go_wp2_with fail
                go_roundw
                case rel => first | exact ⟨k + 1, by omega, rfl, by go_num, HE2, HV2, HALL.out⟩ | ((repeat apply Exists.intro); exact ⟨⟨k + 1, by omega, rfl, by go_num, HE2, HV2, HALL.out⟩, rfl⟩)
                case measure => simp [intOf]; omega
              · have t0 : (d == 0) = false := by simpa using h0
                have t1 : (d != 0) = true := by simpa using h0
                subst hD0
                clear h0
                go_wp2_with fail
                go_returns
                exact ⟨rfl, HE3⟩
        · exfalso; omega
      · obtain rfl : k = s.right.length := by omega
        have hDV := HDV.out (fun i hi => HZ.out i hi (by omega))
        clear HZ HUZ HDV
        by_cases hb0 : 0 < s.blocks.length
        · have hdb : decide ((0 : Int) < s.blocks.length) = true := decide_eq_true (by omega)
          obtain ⟨b1, o, haB, hbq, hcq, -⟩ := (HIN.out.bs.still (still_of HE.out (Nat.le_refl _)) (Nat.le_refl _)).at_ hb0
          rw [huB] at haB
          subst haB
          have HB0 := Lib.hid (HBl.out 0 hb0)
          have hD0 := hDV.1 hb0
          obtain ⟨y, hy⟩ : ∃ y, s.blocks[0] = y := ⟨_, rfl⟩
          rw [hy] at hcq HB0 hD0
          rw [Nat.add_zero] at hcq
          unfold B1 at hcq
          have hbl := cell_lt hcq
          subst hD0
          clear hy hDV
          go_wp2_with (go_at_call 21; (with_reducible refine (HB0.out _ ?_).mono ?_); (focus (have h0 := HE.out; (repeat' (first | (with_reducible exact Below.refl _ _) | (with_reducible assumption) | (with_reducible refine Below.alloc ?_ ?_ _) | (with_reducible refine below_drewN ?_ _) | (with_reducible refine Below.drew ?_) | (with_reducible refine Below.setCell ?_ ?_ _) | (with_reducible refine below_via (by assumption) ?_ ?_) | (with_reducible refine below_via (later_below _) ?_ ?_) | (with_reducible exact Nat.le_refl _) | omega | (simp; omega) | (simp; done))))); rintro e w7 ⟨rfl, hb7⟩)
          go_returns
          exact ⟨rfl, by have h0 := HE.out; (repeat' (first | (with_reducible exact Below.refl _ _) | (with_reducible assumption) | (with_reducible refine Below.alloc ?_ ?_ _) | (with_reducible refine below_drewN ?_ _) | (with_reducible refine Below.drew ?_) | (with_reducible refine Below.setCell ?_ ?_ _) | (with_reducible refine below_via (by assumption) ?_ ?_) | (with_reducible refine below_via (later_below _) ?_ ?_) | (with_reducible exact Nat.le_refl _) | omega | (simp; omega) | (simp; done)))⟩
        · have hdb : decide ((0 : Int) < s.blocks.length) = false := decide_eq_false (by omega)
          obtain rfl := hDV.2 (by omega)
          go_wp2_with fail
          go_returns
          exact ⟨rfl, HE.out⟩

set_option maxHeartbeats 12800000 in
set_option maxRecDepth 100000 in
include hX hL hB hrk hrm hin in
theorem st_if (hk8 : s.k = 8) (hcs : csE s last = 0) (hle : fe (s.left.map fun x => rkE n (.inl x) false [⟨#[]⟩]) = 0) : Calls Tryz.prog 37 #[s.v, .bool last] w fun e w' => e = .returned (.int .i64 (stE n s last)) ∧ Below w.heap.size w w' := by
  have hk7 : s.k ≠ 7 := by omega
  have hfs := (csE_form hcs).1
  have h21 : s.k = 2 → s.names.length = 1 := names_one hfs
  obtain ⟨f, hf⟩ : ∃ f : TX ⊕ TB → Int, (fun p => rkE n p false (alS s)) = f := ⟨_, rfl⟩
  have hfX : ∀ x, rkE n (.inl x) false (alS s) = f (.inl x) := fun x => by rw [← hf]
  have hfB : ∀ y, rkE n (.inr y) false [⟨#[]⟩] = f (.inr y) := fun y => by rw [← hf]; exact (rkE_inr n y false (alS s)).symm
  have hbb1 := if_blocks hfs hk8
  have hD : stE n s last = fe ((zipP s.right s.blocks).map f) := by
    rw [st_rest hcs hle, hf]
    unfold restS
    rw [if_neg hk7, if_pos hk8]
  rw [hD]
  obtain ⟨D, hDD⟩ : ∃ D, fe ((zipP s.right s.blocks).map f) = D := ⟨_, rfl⟩
  rw [hDD]
  have HUZ : ∀ k (h : k < s.right.length), ((∀ i (hi : i < s.right.length), i < k → f (.inl s.right[i]) = 0) ∧ ∀ i (hi : i < s.blocks.length), i < k → f (.inr s.blocks[i]) = 0) → (f (.inl s.right[k]) = 0 ∧ ∀ i (hi : i < s.right.length), i < k + 1 → f (.inl s.right[i]) = 0) ∨ (f (.inl s.right[k]) ≠ 0 ∧ D = f (.inl s.right[k])) := fun k h hz => by
    by_cases h0 : f (.inl s.right[k]) = 0
    · refine .inl ⟨h0, fun i hi hik => ?_⟩
      by_cases e : i = k
      · subst e; exact h0
      · exact hz.1 i hi (by omega)
    · exact .inr ⟨h0, by rw [← hDD]; exact zip_atU f _ _ k h hz.1 hz.2 h0⟩
  have HVZ : ∀ k (h : k < s.blocks.length), (∀ i (hi : i < s.right.length), i < k + 1 → f (.inl s.right[i]) = 0) → (∀ i (hi : i < s.blocks.length), i < k → f (.inr s.blocks[i]) = 0) → (f (.inr s.blocks[k]) = 0 ∧ ((∀ i (hi : i < s.right.length), i < k + 1 → f (.inl s.right[i]) = 0) ∧ ∀ i (hi : i < s.blocks.length), i < k + 1 → f (.inr s.blocks[i]) = 0)) ∨ (f (.inr s.blocks[k]) ≠ 0 ∧ D = f (.inr s.blocks[k])) := fun k h hz hy => by
    by_cases h0 : f (.inr s.blocks[k]) = 0
    · refine .inl ⟨h0, hz, fun i hi hik => ?_⟩
      by_cases e : i = k
      · subst e; exact h0
      · exact hy i hi (by omega)
    · exact .inr ⟨h0, by rw [← hDD]; exact zip_atV f _ _ k h hz hy h0⟩
  have HDV : Hid ((∀ i (hi : i < s.right.length), f (.inl s.right[i]) = 0) → (∀ i (hi : i < s.blocks.length), f (.inr s.blocks[i]) = 0) → D = 0) := fun h1 h2 => by
    rw [← hDD]
    exact zip_zero f _ _ (fun x hx => by obtain ⟨i, hi, rfl⟩ := List.getElem_of_mem hx; exact h1 i hi) (fun x hx => by obtain ⟨i, hi, rfl⟩ := List.getElem_of_mem hx; exact h2 i hi)
  obtain ⟨a1, ha1⟩ : ∃ b, (s.names.any longN || decide (40 < s.label.size)) = b := ⟨_, rfl⟩
  obtain ⟨a2, ha2⟩ : ∃ b, (decide (0 ≤ s.ln) && fsB s last) = b := ⟨_, rfl⟩
  obtain ⟨a3, ha3⟩ : ∃ b, (!(s.names.any badN) && !((s.k == 13 || s.k == 14) && !nameB s.label.data.toList)) = b := ⟨_, rfl⟩
  have HS1 : Hid (∀ W, Below w.heap.size w W → Calls Tryz.prog 48 #[s.v] W fun e w' => e = .returned (.bool a1) ∧ Below W.heap.size W w') := fun W hW => by rw [← ha1]; exact rstatLong_any s W (hin.still (still_of hW (Nat.le_refl _)) hW.size)
  have HS2 : Hid (∀ W, Below w.heap.size w W → Calls Tryz.prog 49 #[s.v, .bool last] W fun e w' => e = .returned (.bool a2) ∧ Below W.heap.size W w') := fun W hW => by rw [← ha2]; exact rstatForm_any s last W (hin.still (still_of hW (Nat.le_refl _)) hW.size)
  have HS3 : Hid (∀ W, Below w.heap.size w W → Calls Tryz.prog 50 #[s.v] W fun e w' => e = .returned (.bool a3) ∧ Below W.heap.size W w') := fun W hW => by rw [← ha3]; exact rstatNamed_any s W (hin.still (still_of hW (Nat.le_refl _)) hW.size)
  obtain ⟨rfl, rfl, rfl⟩ := cs_parts hcs ha1 ha2 ha3
  obtain ⟨EL, hEL⟩ : ∃ e, fe (s.left.map fun x => rkE n (.inl x) false [⟨#[]⟩]) = e := ⟨_, rfl⟩
  have HLx : Hid (∀ W B, Below w.heap.size w W → W.cell? ⟨B, 0, none⟩ = some (.string ⟨#[]⟩) → Calls Tryz.prog 51 #[.slice s.lA s.left.length s.lC, .bool false, .slice (some ⟨B, 0, none⟩) 1 1] W fun e w' => e = .returned (.int .i64 EL) ∧ Below W.heap.size W w') := fun W B hW hc => by
    rw [← hEL]
    exact hL s.left s.lA s.lC false (some ⟨B, 0, none⟩) 1 [⟨#[]⟩] W.heap.size W (fun y hy => by have := rkXs_mem hy; rw [rkS_eq] at hrk hrm; omega) (hin.lf.still (still_of hW (Nat.le_refl _)) hW.size) ⟨Nat.le_refl _, (by decide : (1 : Nat) ≤ 9223372036854775807), fun h => by cases h⟩ (.inr ⟨B, 0, rfl, cell_lt hc, fun i hi => by
        obtain rfl : i = 0 := by simp at hi; omega
        exact hc⟩) (Nat.le_refl _) (fun s hs => by obtain rfl : s = ⟨#[]⟩ := by simpa using hs
                                                   exact Nat.zero_le _)
  have HAL : Hid (∀ W, Below w.heap.size w W → Calls Tryz.prog 53 #[s.v] W fun e w' => ∃ g cap, e = .returned (.slice (some ⟨g, 0, none⟩) (alS s).length cap) ∧ (alS s).length ≤ cap ∧ cap ≤ 9223372036854775807 ∧ PsAt w' w'.heap.size (some ⟨g, 0, none⟩) (alS s) ∧ Below W.heap.size W w') := fun W hW => allowed_ps s h21 hrm W (hin.still (still_of hW (Nat.le_refl _)) hW.size)
  have HXk : Hid (∀ k (h : k < s.right.length) W g cap, Below w.heap.size w W → (alS s).length ≤ cap → cap ≤ 9223372036854775807 → PsAt W W.heap.size (some ⟨g, 0, none⟩) (alS s) → Calls Tryz.prog 52 #[(s.right[k]).v, .bool false, .slice (some ⟨g, 0, none⟩) (alS s).length cap] W fun e w' => e = .returned (.int .i64 (f (.inl s.right[k]))) ∧ Below W.heap.size W w') := fun k h W g cap hW h1 h2 h3 => by
    have hr := rkXs_mem (List.getElem_mem h)
    have hsz := al_sz hin hrm
    rw [rkS_eq] at hrk hrm
    rw [← hfX]
    exact hX _ false _ cap (alS s) W.heap.size W (by omega) (by omega) (((inXs_iff _).1 hin.rt.2.2 _ (List.getElem_mem h)).still (still_of hW (Nat.le_refl _)) hW.size) ⟨h1, h2, fun h => by cases h⟩ h3 (Nat.le_refl _) hsz
  have HBl : Hid (∀ k (h : k < s.blocks.length) W, Below w.heap.size w W → Calls Tryz.prog 21 #[(s.blocks[k]).v] W fun e w' => e = .returned (.int .i64 (f (.inr s.blocks[k]))) ∧ Below W.heap.size W w') := fun k h W hW => by
    have hr := rkBs_mem (List.getElem_mem h)
    rw [rkS_eq] at hrk hrm
    rw [← hfB]
    exact hB _ W (by omega) (by omega) (((inBs_iff _).1 hin.bs.2.2 _ (List.getElem_mem h)).still (still_of hW (Nat.le_refl _)) hW.size)
  rw [hEL] at hle
  subst hle
  obtain ⟨i1, i2, -⟩ := hin.rt.1
  have hnR : (s.right.length : Int) ≤ 9223372036854775807 := by omega
  obtain ⟨i3, i4, -⟩ := hin.bs.1
  have hnB : (s.blocks.length : Int) ≤ 9223372036854775807 := by omega
  have HIN := Lib.hid hin
  have d7 : (s.k == 7) = false := by simpa using hk7
  obtain ⟨nA, hnA⟩ : ∃ m, (alS s).length = m := ⟨_, rfl⟩
  rw [hnA] at HAL HXk
  obtain ⟨AL, hAL⟩ : ∃ l, alS s = l := ⟨_, rfl⟩
  rw [hAL] at HAL HXk
  clear ha1 ha2 ha3 hin hL hB hX hrk hrm hEL hcs hf hfX hfB h21 hfs hnA hAL
  have HV0 := Lib.hid (S7n.new s w 40)
  obtain ⟨uR, huR⟩ : ∃ v, s.rA = v := ⟨_, rfl⟩
  obtain ⟨uB, huB⟩ : ∃ v, s.bA = v := ⟨_, rfl⟩
  simp only [TS.v, huR, huB] at HS1 HS2 HS3 HAL
  have d8 : (s.k == 8) = true := by simpa using hk8
  have d8' : (s.k != 8) = false := by simp [hk8]
  clear hD hDD hk7 hk8
  by_cases hRB : s.right.length < s.blocks.length
  · have hRBi : (s.right.length : Int) < s.blocks.length := by omega
    go_enter Tryz.func37, Tryz.ntmps37
    go_wp2_with (first | (go_at_call 48; (with_reducible refine (HS1.out _ ?_).mono ?_); (focus ((repeat' (first | (with_reducible exact Below.refl _ _) | (with_reducible assumption) | (with_reducible refine Below.alloc ?_ ?_ _) | (with_reducible refine below_drewN ?_ _) | (with_reducible refine Below.drew ?_) | (with_reducible refine Below.setCell ?_ ?_ _) | (with_reducible refine below_via (by assumption) ?_ ?_) | (with_reducible refine below_via (later_below _) ?_ ?_) | (with_reducible exact Nat.le_refl _) | omega | (simp; omega) | (simp; done))))); rintro e w1 ⟨rfl, hb⟩; have hb1 := hb; (refine mem hb ?_; intro N hN hz hc hf; (try simp at hN); subst hN)) | (go_at_call 49; (with_reducible refine (HS2.out _ ?_).mono ?_); (focus ((repeat' (first | (with_reducible exact Below.refl _ _) | (with_reducible assumption) | (with_reducible refine Below.alloc ?_ ?_ _) | (with_reducible refine below_drewN ?_ _) | (with_reducible refine Below.drew ?_) | (with_reducible refine Below.setCell ?_ ?_ _) | (with_reducible refine below_via (by assumption) ?_ ?_) | (with_reducible refine below_via (later_below _) ?_ ?_) | (with_reducible exact Nat.le_refl _) | omega | (simp; omega) | (simp; done))))); rintro e w2 ⟨rfl, hb⟩; have hb2 := hb; (refine mem hb ?_; intro N hN hz hc hf; (try simp at hN); subst hN)) | (go_at_call 50; (with_reducible refine (HS3.out _ ?_).mono ?_); (focus ((repeat' (first | (with_reducible exact Below.refl _ _) | (with_reducible assumption) | (with_reducible refine Below.alloc ?_ ?_ _) | (with_reducible refine below_drewN ?_ _) | (with_reducible refine Below.drew ?_) | (with_reducible refine Below.setCell ?_ ?_ _) | (with_reducible refine below_via (by assumption) ?_ ?_) | (with_reducible refine below_via (later_below _) ?_ ?_) | (with_reducible exact Nat.le_refl _) | omega | (simp; omega) | (simp; done))))); rintro e w3 ⟨rfl, hb⟩; have hb3 := hb; (refine mem hb ?_; intro N hN hz hc hf; (try simp at hN); subst hN)) | (go_at_call 51; (with_reducible refine (HLx.out _ _ ?_ ?_).mono ?_); (focus ((repeat' (first | (with_reducible exact Below.refl _ _) | (with_reducible assumption) | (with_reducible refine Below.alloc ?_ ?_ _) | (with_reducible refine below_drewN ?_ _) | (with_reducible refine Below.drew ?_) | (with_reducible refine Below.setCell ?_ ?_ _) | (with_reducible refine below_via (by assumption) ?_ ?_) | (with_reducible refine below_via (later_below _) ?_ ?_) | (with_reducible exact Nat.le_refl _) | omega | (simp; omega) | (simp; done))))); (focus (simp [cell_alloc_if])); rintro e w4 ⟨rfl, hb⟩; have hb4 := hb; (refine mem hb ?_; intro N hN hz hc hf; (try simp at hN); subst hN)))
    go_loopw [5, 6] (fun fv iv wr => ∃ k : Nat, k ≤ s.blocks.length ∧ fv = .int .i64 0 ∧ iv = .int .i64 k ∧ Hid (Below w.heap.size w wr) ∧ Hid (S7n w.heap.size s wr) ∧ Hid ((∀ i (hi : i < s.right.length), i < k → f (.inl s.right[i]) = 0) ∧ ∀ i (hi : i < s.blocks.length), i < k → f (.inr s.blocks[i]) = 0)) (fun _ i _ => s.blocks.length - (intOf i).toNat)
    case atStart =>
      have hB1 : Below w.heap.size w w1 := by (repeat' (first | (with_reducible exact Below.refl _ _) | (with_reducible assumption) | (with_reducible refine Below.alloc ?_ ?_ _) | (with_reducible refine below_drewN ?_ _) | (with_reducible refine Below.drew ?_) | (with_reducible refine Below.setCell ?_ ?_ _) | (with_reducible refine below_via (by assumption) ?_ ?_) | (with_reducible refine below_via (later_below _) ?_ ?_) | (with_reducible exact Nat.le_refl _) | omega | (simp; omega) | (simp; done)))
      have hB2 : Below w.heap.size w w2 := by (repeat' (first | (with_reducible exact Below.refl _ _) | (with_reducible assumption) | (with_reducible refine Below.alloc ?_ ?_ _) | (with_reducible refine below_drewN ?_ _) | (with_reducible refine Below.drew ?_) | (with_reducible refine Below.setCell ?_ ?_ _) | (with_reducible refine below_via (by assumption) ?_ ?_) | (with_reducible refine below_via (later_below _) ?_ ?_) | (with_reducible exact Nat.le_refl _) | omega | (simp; omega) | (simp; done)))
      have hB3 : Below w.heap.size w w3 := by (repeat' (first | (with_reducible exact Below.refl _ _) | (with_reducible assumption) | (with_reducible refine Below.alloc ?_ ?_ _) | (with_reducible refine below_drewN ?_ _) | (with_reducible refine Below.drew ?_) | (with_reducible refine Below.setCell ?_ ?_ _) | (with_reducible refine below_via (by assumption) ?_ ?_) | (with_reducible refine below_via (later_below _) ?_ ?_) | (with_reducible exact Nat.le_refl _) | omega | (simp; omega) | (simp; done)))
      have hB4 : Below w.heap.size w w4 := by (repeat' (first | (with_reducible exact Below.refl _ _) | (with_reducible assumption) | (with_reducible refine Below.alloc ?_ ?_ _) | (with_reducible refine below_drewN ?_ _) | (with_reducible refine Below.drew ?_) | (with_reducible refine Below.setCell ?_ ?_ _) | (with_reducible refine below_via (by assumption) ?_ ?_) | (with_reducible refine below_via (later_below _) ?_ ?_) | (with_reducible exact Nat.le_refl _) | omega | (simp; omega) | (simp; done)))
      refine ⟨0, Nat.zero_le _, rfl, rfl, hB4, ?_, ?_⟩
      · show S7n _ _ _
        have k1 : Kept 0 0 (w.alloc (.cells #[.int .i64 s.k, .int .i64 s.ln, .slice s.nA s.names.length s.nC, .slice s.lA s.left.length s.lC, .slice s.rA s.right.length s.rC, .slice s.bA s.blocks.length s.bC, .string s.label] 40)) w1 := by
          rw [huR, huB]; exact kept_of hb1 (Nat.zero_le _)
        have k2 : Kept 0 0 w1 w2 := kept_of hb2 (Nat.zero_le _)
        have k3 : Kept 0 0 w2 w3 := kept_of hb3 (Nat.zero_le _)
        have k4 : Kept 0 0 w3 w4 := kept_of (a := 0) (b := 0) (((Below.refl w3.heap.size w3).alloc (Nat.le_refl _) _).trans (hb4.mono (by simp))) (Nat.zero_le _)
        exact HV0.out.kept (((k1.trans k2).trans k3).trans k4) (Nat.zero_le _)
      · exact ⟨fun i _ h => by omega, fun i _ h => by omega⟩

    case round =>
      obtain ⟨k, hk, rfl, rfl, HE, HV, HZ⟩ := hrel
      obtain ⟨e0, e1, e2, e3, e4, e5, e6⟩ := HV.out
      have hzr := cell_lt e6
      rw [huR] at e4
      rw [huB] at e5
      by_cases hlb : k < s.blocks.length
      · have hkb2 : decide ((k : Int) < s.blocks.length) = true := decide_eq_true (by omega)
        by_cases hlt : k < s.right.length
        · have hkr : decide ((k : Int) < s.right.length) = true := decide_eq_true (by omega)
          obtain ⟨b1, o, haR, hbq, hcq, -⟩ := (HIN.out.rt.still (still_of HE.out (Nat.le_refl _)) (Nat.le_refl _)).at_ hlt
          rw [huR] at haR
          subst haR
          have HXk1 := Lib.hid (HXk.out k hlt)
          have HNX := Lib.hid (HUZ k hlt HZ.out)
          obtain ⟨x, hx⟩ : ∃ x, s.right[k] = x := ⟨_, rfl⟩
          rw [hx] at hcq HXk1 HNX
          obtain ⟨d, hd⟩ : ∃ d, f (.inl x) = d := ⟨_, rfl⟩
          rw [hd] at HXk1 HNX
          obtain ⟨c0, c1, c2, c3, c4, c5, c6, c7⟩ := hcq
          have hbl := cell_lt c0
          clear hx hd
          go_upto_region 19 with fail
          go_cut [5] (fun fv wx => fv = .int .i64 d ∧ Hid (Below w.heap.size w wx) ∧ Hid (S7n w.heap.size s wx))
          case first =>
            go_region_with (first | (go_at_call 53; (with_reducible refine (HAL.out _ ?_).mono ?_); (focus (have h0 := HE.out; (repeat' (first | (with_reducible exact Below.refl _ _) | (with_reducible assumption) | (with_reducible refine Below.alloc ?_ ?_ _) | (with_reducible refine below_drewN ?_ _) | (with_reducible refine Below.drew ?_) | (with_reducible refine Below.setCell ?_ ?_ _) | (with_reducible refine below_via (by assumption) ?_ ?_) | (with_reducible refine below_via (later_below _) ?_ ?_) | (with_reducible exact Nat.le_refl _) | omega | (simp; omega) | (simp; done))))); rintro e w5 ⟨g5, q5, rfl, hq5, hq6, hps, hb⟩; have hB5 : Below wr.heap.size wr w5 := (by (repeat' (first | (with_reducible exact Below.refl _ _) | (with_reducible assumption) | (with_reducible refine Below.alloc ?_ ?_ _) | (with_reducible refine below_drewN ?_ _) | (with_reducible refine Below.drew ?_) | (with_reducible refine Below.setCell ?_ ?_ _) | (with_reducible refine below_via (by assumption) ?_ ?_) | (with_reducible refine below_via (later_below _) ?_ ?_) | (with_reducible exact Nat.le_refl _) | omega | (simp; omega) | (simp; done)))); (refine mem hb ?_; intro N hN hz hc hf; (try simp at hN); subst hN)) | (go_at_call 52; (with_reducible refine (HXk1.out _ g5 q5 ?_ hq5 hq6 ?_).mono ?_); (focus (have h0 := HE.out; (repeat' (first | (with_reducible exact Below.refl _ _) | (with_reducible assumption) | (with_reducible refine Below.alloc ?_ ?_ _) | (with_reducible refine below_drewN ?_ _) | (with_reducible refine Below.drew ?_) | (with_reducible refine Below.setCell ?_ ?_ _) | (with_reducible refine below_via (by assumption) ?_ ?_) | (with_reducible refine below_via (later_below _) ?_ ?_) | (with_reducible exact Nat.le_refl _) | omega | (simp; omega) | (simp; done))))); (focus (first | exact hps | exact hps.still (p1_still (still_of ((Below.refl _ _).drew) (Nat.le_refl _))) (Nat.le_refl _))); rintro e w6 ⟨rfl, hb⟩; have hB6 := hB5.trans (hb.mono hB5.size)))
            all_goals
              go_wp2_with fail
              go_meet
              first
              | exact ⟨rfl, HE.out.trans (hB6.mono HE.out.size), HV.out.kept (kept_of (a := 0) (b := 0) hB6 (Nat.zero_le _)) (Nat.zero_le _)⟩
              | exact ⟨rfl, HE.out.trans (hB6.drew.mono HE.out.size), HV.out.kept (kept_of (a := 0) (b := 0) hB6.drew (Nat.zero_le _)) (Nat.zero_le _)⟩
          case rest =>
            obtain ⟨rfl, HE2, HV2⟩ := hcut
            obtain ⟨f0, f1, f2, f3, f4, f5, f6⟩ := HV2.out
            have hzc := cell_lt f6
            rw [huR] at f4
            rw [huB] at f5
            have HE3 := HE2.out
            rcases HNX.out with ⟨h0, hall⟩ | ⟨h0, hD0⟩
            · subst h0
              have HAU := Lib.hid hall
              clear hall
              obtain ⟨b2, o2, haB, hb2, hc2, -⟩ := (HIN.out.bs.still (still_of HE2.out (Nat.le_refl _)) (Nat.le_refl _)).at_ hlb
              rw [huB] at haB
              subst haB
              have HB0 := Lib.hid (HBl.out k hlb)
              have HNY := Lib.hid (HVZ k hlb HAU.out (fun i hi h => HZ.out.2 i hi h))
              obtain ⟨y, hy⟩ : ∃ y, s.blocks[k] = y := ⟨_, rfl⟩
              rw [hy] at hc2 HB0 HNY
              unfold B1 at hc2
              have hbl2 := cell_lt hc2
              obtain ⟨d2, hd2⟩ : ∃ d, f (.inr y) = d := ⟨_, rfl⟩
              rw [hd2] at HB0 HNY
              clear hy hd2
              rcases HNY.out with ⟨h0, hall⟩ | ⟨h0, hD0⟩
              · subst h0
                have HALL := Lib.hid hall
                clear hall
                go_wp2_with (go_at_call 21; (with_reducible refine (HB0.out _ ?_).mono ?_); (focus (have h0 := HE2.out; (repeat' (first | (with_reducible exact Below.refl _ _) | (with_reducible assumption) | (with_reducible refine Below.alloc ?_ ?_ _) | (with_reducible refine below_drewN ?_ _) | (with_reducible refine Below.drew ?_) | (with_reducible refine Below.setCell ?_ ?_ _) | (with_reducible refine below_via (by assumption) ?_ ?_) | (with_reducible refine below_via (later_below _) ?_ ?_) | (with_reducible exact Nat.le_refl _) | omega | (simp; omega) | (simp; done))))); rintro e w7 ⟨rfl, hb7⟩)
                go_roundw
                case rel => first | exact ⟨k + 1, by omega, rfl, by go_num, (by show Below _ _ _; have h0 := HE2.out; (repeat' (first | (with_reducible exact Below.refl _ _) | (with_reducible assumption) | (with_reducible refine Below.alloc ?_ ?_ _) | (with_reducible refine below_drewN ?_ _) | (with_reducible refine Below.drew ?_) | (with_reducible refine Below.setCell ?_ ?_ _) | (with_reducible refine below_via (by assumption) ?_ ?_) | (with_reducible refine below_via (later_below _) ?_ ?_) | (with_reducible exact Nat.le_refl _) | omega | (simp; omega) | (simp; done)))), HV2.out.kept (kept_of (a := 0) (b := 0) hb7 (Nat.zero_le _)) (Nat.zero_le _), HALL.out⟩ | ((repeat apply Exists.intro); exact ⟨⟨k + 1, by omega, rfl, by go_num, (by show Below _ _ _; have h0 := HE2.out; (repeat' (first | (with_reducible exact Below.refl _ _) | (with_reducible assumption) | (with_reducible refine Below.alloc ?_ ?_ _) | (with_reducible refine below_drewN ?_ _) | (with_reducible refine Below.drew ?_) | (with_reducible refine Below.setCell ?_ ?_ _) | (with_reducible refine below_via (by assumption) ?_ ?_) | (with_reducible refine below_via (later_below _) ?_ ?_) | (with_reducible exact Nat.le_refl _) | omega | (simp; omega) | (simp; done)))), HV2.out.kept (kept_of (a := 0) (b := 0) hb7 (Nat.zero_le _)) (Nat.zero_le _), HALL.out⟩, rfl⟩)
                case measure => simp [intOf]; omega
              · have t0 : (d2 == 0) = false := by simpa using h0
                have t1 : (d2 != 0) = true := by simpa using h0
                subst hD0
                clear h0
                go_wp2_with (go_at_call 21; (with_reducible refine (HB0.out _ ?_).mono ?_); (focus (have h0 := HE2.out; (repeat' (first | (with_reducible exact Below.refl _ _) | (with_reducible assumption) | (with_reducible refine Below.alloc ?_ ?_ _) | (with_reducible refine below_drewN ?_ _) | (with_reducible refine Below.drew ?_) | (with_reducible refine Below.setCell ?_ ?_ _) | (with_reducible refine below_via (by assumption) ?_ ?_) | (with_reducible refine below_via (later_below _) ?_ ?_) | (with_reducible exact Nat.le_refl _) | omega | (simp; omega) | (simp; done))))); rintro e w7 ⟨rfl, hb7⟩)
                go_returns
                exact ⟨rfl, by have h0 := HE2.out; (repeat' (first | (with_reducible exact Below.refl _ _) | (with_reducible assumption) | (with_reducible refine Below.alloc ?_ ?_ _) | (with_reducible refine below_drewN ?_ _) | (with_reducible refine Below.drew ?_) | (with_reducible refine Below.setCell ?_ ?_ _) | (with_reducible refine below_via (by assumption) ?_ ?_) | (with_reducible refine below_via (later_below _) ?_ ?_) | (with_reducible exact Nat.le_refl _) | omega | (simp; omega) | (simp; done)))⟩
            · have t0 : (d == 0) = false := by simpa using h0
              have t1 : (d != 0) = true := by simpa using h0
              subst hD0
              clear h0
              go_wp2_with fail
              go_returns
              exact ⟨rfl, HE3⟩
        · have hkr : decide ((k : Int) < s.right.length) = false := decide_eq_false (by omega)
          obtain ⟨b2, o2, haB, hb2, hc2, -⟩ := (HIN.out.bs.still (still_of HE.out (Nat.le_refl _)) (Nat.le_refl _)).at_ hlb
          rw [huB] at haB
          subst haB
          have HB0 := Lib.hid (HBl.out k hlb)
          have HNY := Lib.hid (HVZ k hlb (fun i hi h => HZ.out.1 i hi (by omega)) HZ.out.2)
          obtain ⟨y, hy⟩ : ∃ y, s.blocks[k] = y := ⟨_, rfl⟩
          rw [hy] at hc2 HB0 HNY
          unfold B1 at hc2
          have hbl2 := cell_lt hc2
          obtain ⟨d2, hd2⟩ : ∃ d, f (.inr y) = d := ⟨_, rfl⟩
          rw [hd2] at HB0 HNY
          clear hy hd2
          rcases HNY.out with ⟨h0, hall⟩ | ⟨h0, hD0⟩
          · subst h0
            have HALL := Lib.hid hall
            clear hall
            go_wp2_with (go_at_call 21; (with_reducible refine (HB0.out _ ?_).mono ?_); (focus (have h0 := HE.out; (repeat' (first | (with_reducible exact Below.refl _ _) | (with_reducible assumption) | (with_reducible refine Below.alloc ?_ ?_ _) | (with_reducible refine below_drewN ?_ _) | (with_reducible refine Below.drew ?_) | (with_reducible refine Below.setCell ?_ ?_ _) | (with_reducible refine below_via (by assumption) ?_ ?_) | (with_reducible refine below_via (later_below _) ?_ ?_) | (with_reducible exact Nat.le_refl _) | omega | (simp; omega) | (simp; done))))); rintro e w7 ⟨rfl, hb7⟩)
            exact ⟨⟨k + 1, by omega, rfl, by go_num, (by show Below _ _ _; have h0 := HE.out; (repeat' (first | (with_reducible exact Below.refl _ _) | (with_reducible assumption) | (with_reducible refine Below.alloc ?_ ?_ _) | (with_reducible refine below_drewN ?_ _) | (with_reducible refine Below.drew ?_) | (with_reducible refine Below.setCell ?_ ?_ _) | (with_reducible refine below_via (by assumption) ?_ ?_) | (with_reducible refine below_via (later_below _) ?_ ?_) | (with_reducible exact Nat.le_refl _) | omega | (simp; omega) | (simp; done)))), HV.out.kept (kept_of (a := 0) (b := 0) hb7 (Nat.zero_le _)) (Nat.zero_le _), HALL.out⟩, by simp [intOf]; omega⟩
          · have t0 : (d2 == 0) = false := by simpa using h0
            have t1 : (d2 != 0) = true := by simpa using h0
            subst hD0
            clear h0
            go_wp2_with (go_at_call 21; (with_reducible refine (HB0.out _ ?_).mono ?_); (focus (have h0 := HE.out; (repeat' (first | (with_reducible exact Below.refl _ _) | (with_reducible assumption) | (with_reducible refine Below.alloc ?_ ?_ _) | (with_reducible refine below_drewN ?_ _) | (with_reducible refine Below.drew ?_) | (with_reducible refine Below.setCell ?_ ?_ _) | (with_reducible refine below_via (by assumption) ?_ ?_) | (with_reducible refine below_via (later_below _) ?_ ?_) | (with_reducible exact Nat.le_refl _) | omega | (simp; omega) | (simp; done))))); rintro e w7 ⟨rfl, hb7⟩)
            go_returns
            exact ⟨rfl, by have h0 := HE.out; (repeat' (first | (with_reducible exact Below.refl _ _) | (with_reducible assumption) | (with_reducible refine Below.alloc ?_ ?_ _) | (with_reducible refine below_drewN ?_ _) | (with_reducible refine Below.drew ?_) | (with_reducible refine Below.setCell ?_ ?_ _) | (with_reducible refine below_via (by assumption) ?_ ?_) | (with_reducible refine below_via (later_below _) ?_ ?_) | (with_reducible exact Nat.le_refl _) | omega | (simp; omega) | (simp; done)))⟩
      · obtain rfl : k = s.blocks.length := by omega
        have hDV := HDV.out (fun i hi => HZ.out.1 i hi (by omega)) (fun i hi => HZ.out.2 i hi hi)
        subst hDV
        clear HZ HUZ HVZ HDV
        go_wp2_with fail
        go_returns
        exact ⟨rfl, HE.out⟩
  · have hRBi : (s.blocks.length : Int) = s.right.length := by omega
    go_enter Tryz.func37, Tryz.ntmps37
    go_wp2_with (first | (go_at_call 48; (with_reducible refine (HS1.out _ ?_).mono ?_); (focus ((repeat' (first | (with_reducible exact Below.refl _ _) | (with_reducible assumption) | (with_reducible refine Below.alloc ?_ ?_ _) | (with_reducible refine below_drewN ?_ _) | (with_reducible refine Below.drew ?_) | (with_reducible refine Below.setCell ?_ ?_ _) | (with_reducible refine below_via (by assumption) ?_ ?_) | (with_reducible refine below_via (later_below _) ?_ ?_) | (with_reducible exact Nat.le_refl _) | omega | (simp; omega) | (simp; done))))); rintro e w1 ⟨rfl, hb⟩; have hb1 := hb; (refine mem hb ?_; intro N hN hz hc hf; (try simp at hN); subst hN)) | (go_at_call 49; (with_reducible refine (HS2.out _ ?_).mono ?_); (focus ((repeat' (first | (with_reducible exact Below.refl _ _) | (with_reducible assumption) | (with_reducible refine Below.alloc ?_ ?_ _) | (with_reducible refine below_drewN ?_ _) | (with_reducible refine Below.drew ?_) | (with_reducible refine Below.setCell ?_ ?_ _) | (with_reducible refine below_via (by assumption) ?_ ?_) | (with_reducible refine below_via (later_below _) ?_ ?_) | (with_reducible exact Nat.le_refl _) | omega | (simp; omega) | (simp; done))))); rintro e w2 ⟨rfl, hb⟩; have hb2 := hb; (refine mem hb ?_; intro N hN hz hc hf; (try simp at hN); subst hN)) | (go_at_call 50; (with_reducible refine (HS3.out _ ?_).mono ?_); (focus ((repeat' (first | (with_reducible exact Below.refl _ _) | (with_reducible assumption) | (with_reducible refine Below.alloc ?_ ?_ _) | (with_reducible refine below_drewN ?_ _) | (with_reducible refine Below.drew ?_) | (with_reducible refine Below.setCell ?_ ?_ _) | (with_reducible refine below_via (by assumption) ?_ ?_) | (with_reducible refine below_via (later_below _) ?_ ?_) | (with_reducible exact Nat.le_refl _) | omega | (simp; omega) | (simp; done))))); rintro e w3 ⟨rfl, hb⟩; have hb3 := hb; (refine mem hb ?_; intro N hN hz hc hf; (try simp at hN); subst hN)) | (go_at_call 51; (with_reducible refine (HLx.out _ _ ?_ ?_).mono ?_); (focus ((repeat' (first | (with_reducible exact Below.refl _ _) | (with_reducible assumption) | (with_reducible refine Below.alloc ?_ ?_ _) | (with_reducible refine below_drewN ?_ _) | (with_reducible refine Below.drew ?_) | (with_reducible refine Below.setCell ?_ ?_ _) | (with_reducible refine below_via (by assumption) ?_ ?_) | (with_reducible refine below_via (later_below _) ?_ ?_) | (with_reducible exact Nat.le_refl _) | omega | (simp; omega) | (simp; done))))); (focus (simp [cell_alloc_if])); rintro e w4 ⟨rfl, hb⟩; have hb4 := hb; (refine mem hb ?_; intro N hN hz hc hf; (try simp at hN); subst hN)))
    go_loopw [5, 6] (fun fv iv wr => ∃ k : Nat, k ≤ s.blocks.length ∧ fv = .int .i64 0 ∧ iv = .int .i64 k ∧ Hid (Below w.heap.size w wr) ∧ Hid (S7n w.heap.size s wr) ∧ Hid ((∀ i (hi : i < s.right.length), i < k → f (.inl s.right[i]) = 0) ∧ ∀ i (hi : i < s.blocks.length), i < k → f (.inr s.blocks[i]) = 0)) (fun _ i _ => s.blocks.length - (intOf i).toNat)
    case atStart =>
      have hB1 : Below w.heap.size w w1 := by (repeat' (first | (with_reducible exact Below.refl _ _) | (with_reducible assumption) | (with_reducible refine Below.alloc ?_ ?_ _) | (with_reducible refine below_drewN ?_ _) | (with_reducible refine Below.drew ?_) | (with_reducible refine Below.setCell ?_ ?_ _) | (with_reducible refine below_via (by assumption) ?_ ?_) | (with_reducible refine below_via (later_below _) ?_ ?_) | (with_reducible exact Nat.le_refl _) | omega | (simp; omega) | (simp; done)))
      have hB2 : Below w.heap.size w w2 := by (repeat' (first | (with_reducible exact Below.refl _ _) | (with_reducible assumption) | (with_reducible refine Below.alloc ?_ ?_ _) | (with_reducible refine below_drewN ?_ _) | (with_reducible refine Below.drew ?_) | (with_reducible refine Below.setCell ?_ ?_ _) | (with_reducible refine below_via (by assumption) ?_ ?_) | (with_reducible refine below_via (later_below _) ?_ ?_) | (with_reducible exact Nat.le_refl _) | omega | (simp; omega) | (simp; done)))
      have hB3 : Below w.heap.size w w3 := by (repeat' (first | (with_reducible exact Below.refl _ _) | (with_reducible assumption) | (with_reducible refine Below.alloc ?_ ?_ _) | (with_reducible refine below_drewN ?_ _) | (with_reducible refine Below.drew ?_) | (with_reducible refine Below.setCell ?_ ?_ _) | (with_reducible refine below_via (by assumption) ?_ ?_) | (with_reducible refine below_via (later_below _) ?_ ?_) | (with_reducible exact Nat.le_refl _) | omega | (simp; omega) | (simp; done)))
      have hB4 : Below w.heap.size w w4 := by (repeat' (first | (with_reducible exact Below.refl _ _) | (with_reducible assumption) | (with_reducible refine Below.alloc ?_ ?_ _) | (with_reducible refine below_drewN ?_ _) | (with_reducible refine Below.drew ?_) | (with_reducible refine Below.setCell ?_ ?_ _) | (with_reducible refine below_via (by assumption) ?_ ?_) | (with_reducible refine below_via (later_below _) ?_ ?_) | (with_reducible exact Nat.le_refl _) | omega | (simp; omega) | (simp; done)))
      refine ⟨0, Nat.zero_le _, rfl, rfl, hB4, ?_, ?_⟩
      · show S7n _ _ _
        have k1 : Kept 0 0 (w.alloc (.cells #[.int .i64 s.k, .int .i64 s.ln, .slice s.nA s.names.length s.nC, .slice s.lA s.left.length s.lC, .slice s.rA s.right.length s.rC, .slice s.bA s.blocks.length s.bC, .string s.label] 40)) w1 := by
          rw [huR, huB]; exact kept_of hb1 (Nat.zero_le _)
        have k2 : Kept 0 0 w1 w2 := kept_of hb2 (Nat.zero_le _)
        have k3 : Kept 0 0 w2 w3 := kept_of hb3 (Nat.zero_le _)
        have k4 : Kept 0 0 w3 w4 := kept_of (a := 0) (b := 0) (((Below.refl w3.heap.size w3).alloc (Nat.le_refl _) _).trans (hb4.mono (by simp))) (Nat.zero_le _)
        exact HV0.out.kept (((k1.trans k2).trans k3).trans k4) (Nat.zero_le _)
      · exact ⟨fun i _ h => by omega, fun i _ h => by omega⟩

    case round =>
      obtain ⟨k, hk, rfl, rfl, HE, HV, HZ⟩ := hrel
      obtain ⟨e0, e1, e2, e3, e4, e5, e6⟩ := HV.out
      have hzr := cell_lt e6
      rw [huR] at e4
      rw [huB] at e5
      by_cases hlb : k < s.blocks.length
      · have hkb2 : decide ((k : Int) < s.blocks.length) = true := decide_eq_true (by omega)
        by_cases hlt : k < s.right.length
        · have hkr : decide ((k : Int) < s.right.length) = true := decide_eq_true (by omega)
          obtain ⟨b1, o, haR, hbq, hcq, -⟩ := (HIN.out.rt.still (still_of HE.out (Nat.le_refl _)) (Nat.le_refl _)).at_ hlt
          rw [huR] at haR
          subst haR
          have HXk1 := Lib.hid (HXk.out k hlt)
          have HNX := Lib.hid (HUZ k hlt HZ.out)
          obtain ⟨x, hx⟩ : ∃ x, s.right[k] = x := ⟨_, rfl⟩
          rw [hx] at hcq HXk1 HNX
          obtain ⟨d, hd⟩ : ∃ d, f (.inl x) = d := ⟨_, rfl⟩
          rw [hd] at HXk1 HNX
          obtain ⟨c0, c1, c2, c3, c4, c5, c6, c7⟩ := hcq
          have hbl := cell_lt c0
          clear hx hd
          go_upto_region 19 with fail
          go_cut [5] (fun fv wx => fv = .int .i64 d ∧ Hid (Below w.heap.size w wx) ∧ Hid (S7n w.heap.size s wx))
          case first =>
            go_region_with (first | (go_at_call 53; (with_reducible refine (HAL.out _ ?_).mono ?_); (focus (have h0 := HE.out; (repeat' (first | (with_reducible exact Below.refl _ _) | (with_reducible assumption) | (with_reducible refine Below.alloc ?_ ?_ _) | (with_reducible refine below_drewN ?_ _) | (with_reducible refine Below.drew ?_) | (with_reducible refine Below.setCell ?_ ?_ _) | (with_reducible refine below_via (by assumption) ?_ ?_) | (with_reducible refine below_via (later_below _) ?_ ?_) | (with_reducible exact Nat.le_refl _) | omega | (simp; omega) | (simp; done))))); rintro e w5 ⟨g5, q5, rfl, hq5, hq6, hps, hb⟩; have hB5 : Below wr.heap.size wr w5 := (by (repeat' (first | (with_reducible exact Below.refl _ _) | (with_reducible assumption) | (with_reducible refine Below.alloc ?_ ?_ _) | (with_reducible refine below_drewN ?_ _) | (with_reducible refine Below.drew ?_) | (with_reducible refine Below.setCell ?_ ?_ _) | (with_reducible refine below_via (by assumption) ?_ ?_) | (with_reducible refine below_via (later_below _) ?_ ?_) | (with_reducible exact Nat.le_refl _) | omega | (simp; omega) | (simp; done)))); (refine mem hb ?_; intro N hN hz hc hf; (try simp at hN); subst hN)) | (go_at_call 52; (with_reducible refine (HXk1.out _ g5 q5 ?_ hq5 hq6 ?_).mono ?_); (focus (have h0 := HE.out; (repeat' (first | (with_reducible exact Below.refl _ _) | (with_reducible assumption) | (with_reducible refine Below.alloc ?_ ?_ _) | (with_reducible refine below_drewN ?_ _) | (with_reducible refine Below.drew ?_) | (with_reducible refine Below.setCell ?_ ?_ _) | (with_reducible refine below_via (by assumption) ?_ ?_) | (with_reducible refine below_via (later_below _) ?_ ?_) | (with_reducible exact Nat.le_refl _) | omega | (simp; omega) | (simp; done))))); (focus (first | exact hps | exact hps.still (p1_still (still_of ((Below.refl _ _).drew) (Nat.le_refl _))) (Nat.le_refl _))); rintro e w6 ⟨rfl, hb⟩; have hB6 := hB5.trans (hb.mono hB5.size)))
            all_goals
              go_wp2_with fail
              go_meet
              first
              | exact ⟨rfl, HE.out.trans (hB6.mono HE.out.size), HV.out.kept (kept_of (a := 0) (b := 0) hB6 (Nat.zero_le _)) (Nat.zero_le _)⟩
              | exact ⟨rfl, HE.out.trans (hB6.drew.mono HE.out.size), HV.out.kept (kept_of (a := 0) (b := 0) hB6.drew (Nat.zero_le _)) (Nat.zero_le _)⟩
          case rest =>
            obtain ⟨rfl, HE2, HV2⟩ := hcut
            obtain ⟨f0, f1, f2, f3, f4, f5, f6⟩ := HV2.out
            have hzc := cell_lt f6
            rw [huR] at f4
            rw [huB] at f5
            have HE3 := HE2.out
            rcases HNX.out with ⟨h0, hall⟩ | ⟨h0, hD0⟩
            · subst h0
              have HAU := Lib.hid hall
              clear hall
              obtain ⟨b2, o2, haB, hb2, hc2, -⟩ := (HIN.out.bs.still (still_of HE2.out (Nat.le_refl _)) (Nat.le_refl _)).at_ hlb
              rw [huB] at haB
              subst haB
              have HB0 := Lib.hid (HBl.out k hlb)
              have HNY := Lib.hid (HVZ k hlb HAU.out (fun i hi h => HZ.out.2 i hi h))
              obtain ⟨y, hy⟩ : ∃ y, s.blocks[k] = y := ⟨_, rfl⟩
              rw [hy] at hc2 HB0 HNY
              unfold B1 at hc2
              have hbl2 := cell_lt hc2
              obtain ⟨d2, hd2⟩ : ∃ d, f (.inr y) = d := ⟨_, rfl⟩
              rw [hd2] at HB0 HNY
              clear hy hd2
              rcases HNY.out with ⟨h0, hall⟩ | ⟨h0, hD0⟩
              · subst h0
                have HALL := Lib.hid hall
                clear hall
                go_wp2_with (go_at_call 21; (with_reducible refine (HB0.out _ ?_).mono ?_); (focus (have h0 := HE2.out; (repeat' (first | (with_reducible exact Below.refl _ _) | (with_reducible assumption) | (with_reducible refine Below.alloc ?_ ?_ _) | (with_reducible refine below_drewN ?_ _) | (with_reducible refine Below.drew ?_) | (with_reducible refine Below.setCell ?_ ?_ _) | (with_reducible refine below_via (by assumption) ?_ ?_) | (with_reducible refine below_via (later_below _) ?_ ?_) | (with_reducible exact Nat.le_refl _) | omega | (simp; omega) | (simp; done))))); rintro e w7 ⟨rfl, hb7⟩)
                go_roundw
                case rel => first | exact ⟨k + 1, by omega, rfl, by go_num, (by show Below _ _ _; have h0 := HE2.out; (repeat' (first | (with_reducible exact Below.refl _ _) | (with_reducible assumption) | (with_reducible refine Below.alloc ?_ ?_ _) | (with_reducible refine below_drewN ?_ _) | (with_reducible refine Below.drew ?_) | (with_reducible refine Below.setCell ?_ ?_ _) | (with_reducible refine below_via (by assumption) ?_ ?_) | (with_reducible refine below_via (later_below _) ?_ ?_) | (with_reducible exact Nat.le_refl _) | omega | (simp; omega) | (simp; done)))), HV2.out.kept (kept_of (a := 0) (b := 0) hb7 (Nat.zero_le _)) (Nat.zero_le _), HALL.out⟩ | ((repeat apply Exists.intro); exact ⟨⟨k + 1, by omega, rfl, by go_num, (by show Below _ _ _; have h0 := HE2.out; (repeat' (first | (with_reducible exact Below.refl _ _) | (with_reducible assumption) | (with_reducible refine Below.alloc ?_ ?_ _) | (with_reducible refine below_drewN ?_ _) | (with_reducible refine Below.drew ?_) | (with_reducible refine Below.setCell ?_ ?_ _) | (with_reducible refine below_via (by assumption) ?_ ?_) | (with_reducible refine below_via (later_below _) ?_ ?_) | (with_reducible exact Nat.le_refl _) | omega | (simp; omega) | (simp; done)))), HV2.out.kept (kept_of (a := 0) (b := 0) hb7 (Nat.zero_le _)) (Nat.zero_le _), HALL.out⟩, rfl⟩)
                case measure => simp [intOf]; omega
              · have t0 : (d2 == 0) = false := by simpa using h0
                have t1 : (d2 != 0) = true := by simpa using h0
                subst hD0
                clear h0
                go_wp2_with (go_at_call 21; (with_reducible refine (HB0.out _ ?_).mono ?_); (focus (have h0 := HE2.out; (repeat' (first | (with_reducible exact Below.refl _ _) | (with_reducible assumption) | (with_reducible refine Below.alloc ?_ ?_ _) | (with_reducible refine below_drewN ?_ _) | (with_reducible refine Below.drew ?_) | (with_reducible refine Below.setCell ?_ ?_ _) | (with_reducible refine below_via (by assumption) ?_ ?_) | (with_reducible refine below_via (later_below _) ?_ ?_) | (with_reducible exact Nat.le_refl _) | omega | (simp; omega) | (simp; done))))); rintro e w7 ⟨rfl, hb7⟩)
                go_returns
                exact ⟨rfl, by have h0 := HE2.out; (repeat' (first | (with_reducible exact Below.refl _ _) | (with_reducible assumption) | (with_reducible refine Below.alloc ?_ ?_ _) | (with_reducible refine below_drewN ?_ _) | (with_reducible refine Below.drew ?_) | (with_reducible refine Below.setCell ?_ ?_ _) | (with_reducible refine below_via (by assumption) ?_ ?_) | (with_reducible refine below_via (later_below _) ?_ ?_) | (with_reducible exact Nat.le_refl _) | omega | (simp; omega) | (simp; done)))⟩
            · have t0 : (d == 0) = false := by simpa using h0
              have t1 : (d != 0) = true := by simpa using h0
              subst hD0
              clear h0
              go_wp2_with fail
              go_returns
              exact ⟨rfl, HE3⟩
        · exfalso; omega
      · obtain rfl : k = s.blocks.length := by omega
        have hDV := HDV.out (fun i hi => HZ.out.1 i hi (by omega)) (fun i hi => HZ.out.2 i hi hi)
        subst hDV
        clear HZ HUZ HVZ HDV
        go_wp2_with fail
        go_returns
        exact ⟨rfl, HE.out⟩


include hX hL hB hrk hrm hin in
theorem st_any : Calls Tryz.prog 37 #[s.v, .bool last] w fun e w' => e = .returned (.int .i64 (stE n s last)) ∧ Below w.heap.size w w' := by
  by_cases hcs : csE s last = 0
  · by_cases hle : fe (s.left.map fun x => rkE n (.inl x) false [⟨#[]⟩]) = 0
    · by_cases h7 : s.k = 7
      · exact st_rep n hL hB s last w hrk hrm hin h7 hcs hle
      · by_cases h8 : s.k = 8
        · exact st_if n hX hL hB s last w hrk hrm hin h8 hcs hle
        · exact st_els n hX hL hB s last w hrk hrm hin h7 h8 hcs hle
    · exact st_left n hL s last w hrk hrm hin hcs hle
  · exact st_bad n s last w hin hcs
end
theorem rc_all : ∀ n, RX n ∧ RB n
  | 0 => ⟨fun _ _ _ _ _ _ _ h => by omega, fun _ _ h => by omega⟩
  | n + 1 => by
    obtain ⟨hX, hB⟩ := rc_all n
    have hL := rl_step n hX
    exact ⟨rx_step n hL hB, rb_step n fun s last w h1 h2 h3 => st_any n hX hL hB s last w h1 h2 h3⟩
/-- The reference's block finds the program's error. -/
theorem rblock_any (y : TB) (w : World) (hrk : rkB y ≤ 1048600) (hin : InB w w.heap.size y) : Calls Tryz.prog 21 #[y.v] w fun e w' => e = .returned (.int .i64 (cbE y)) ∧ Below w.heap.size w w' := by
  rw [← rkE_block]
  exact (rc_all (rkB y + 1)).2 y w (Nat.lt_succ_self _) hrk hin
end Go.Proofs.YthkpggpnbdedjaaGreat
