/- The reference's token. -/
import Derived.Test.YtemlijadhdejeaaGreatDoorMLxRA
import Derived.Test.YtemlijadhdejeaaGreatDoorMLxWY
import Derived.Test.YtemlijadhdejeaaGreatDoorMRefA
namespace Go.Proofs.YtemlijadhdejeaaGreatDoor
open Go.RowKit Go.Instr
set_option linter.unusedVariables false

/-- What the reference's token hands back. -/
def r3V (i ln : Nat) (r : TokR) : Value := if r.e = 0 then .tuple #[.agg #[.int .i64 r.k, .string (mkS r.x), .int .i64 ln, .int .i64 i], .int .i64 ((i + r.n : Nat) : Int), .int .i64 0] else .tuple #[.agg #[.int .i64 0, .string ⟨#[]⟩, .int .i64 0, .int .i64 0], .int .i64 0, .int .i64 r.e]
theorem r3V_err {i ln : Nat} {r : TokR} {e : Int} (h : r = errR e) (he : e ≠ 0) : r3V i ln r = .tuple #[.agg #[.int .i64 0, .string ⟨#[]⟩, .int .i64 0, .int .i64 0], .int .i64 0, .int .i64 e] := by
  subst h; unfold r3V errR; rw [if_neg he]
theorem r3V_ok {i ln p n : Nat} {k : Int} {r : TokR} {x : List UInt8} {y : ByteArray} (h : r = ⟨0, k, x, n⟩) (hp : i + n = p) (hy : y.data.toList = x) : r3V i ln r = .tuple #[.agg #[.int .i64 k, .string y, .int .i64 ln, .int .i64 i], .int .i64 (p : Int), .int .i64 0] := by
  subst h hp hy; unfold r3V; rw [if_pos rfl, mkS_of]
/-- What the numeral at an index comes to. -/
theorem r3scan_says (s : ByteArray) (i : Nat) (hi : i ≤ s.size) (hs : s.size ≤ 4000) : ∃ P Q K E : Int, (∀ w', Calls Tryz.prog 61 #[.string s, .int .i64 i] w' fun e w'' => e = .returned (.tuple #[.agg #[.int .i64 P, .int .i64 Q], .int .i64 K, .int .i64 E]) ∧ Below w'.heap.size w' w'') ∧
    (scanL (s.data.toList.drop i) 0).2.2.2 = E ∧ (E = 0 → ∃ k : Nat, (scanL (s.data.toList.drop i) 0).2.2.1 = k ∧ K = ((i + k : Nat) : Int) ∧ 1 ≤ k ∧ i + k ≤ s.size) := by
  have h := scan_at s i hi
  obtain ⟨sc, hsc⟩ : ∃ sc, scanL (s.data.toList.drop i) 0 = sc := ⟨_, rfl⟩
  have hok := fun h0 => scanL_ok (l := s.data.toList.drop i) h0
  rw [hsc] at h hok ⊢
  obtain ⟨P, Q, K0, E⟩ := sc
  dsimp only at h hok ⊢
  refine ⟨P, Q, if E = 0 then K0 + i else K0, E, fun w' => ?_, rfl, fun h0 => ?_⟩
  · have h1 := rscan_any s i hs w'
    rw [h] at h1
    exact h1
  · obtain ⟨f, -, h2, h3, h4, -⟩ := hok h0
    simp at h3
    exact ⟨f.end_, h4, by rw [if_pos h0, h4]; omega, h2, by omega⟩
theorem key_short {w : List UInt8} (h : keyB w = true) : w.length ≤ 40 := by
  have hm : w ∈ keys := by unfold keyB at h; simpa using h
  exact (keys_words w hm).2.2
theorem word_key {r : List UInt8} (h : keyB (r.take (spanN wordB r)) = true) : wordT r = ⟨0, 2, r.take (spanN wordB r), spanN wordB r⟩ := by
  have h1 := key_short h
  have h2 := spanN_le wordB r
  rw [List.length_take] at h1
  unfold wordT
  rw [if_neg (by omega), h]; rfl
theorem word_long {r : List UInt8} (h : 40 < spanN wordB r) : wordT r = errR 3 := by unfold wordT; rw [if_pos h]
theorem word_name {r : List UInt8} (h : keyB (r.take (spanN wordB r)) = false) (h2 : ¬ 40 < spanN wordB r) : wordT r = ⟨0, 1, r.take (spanN wordB r), spanN wordB r⟩ := by unfold wordT; rw [if_neg h2, h]; rfl
section
variable (s : ByteArray) (i ln : Nat) (w : World) (hi : i < s.size) (hs : s.size ≤ 4000)
include hi hs

set_option maxHeartbeats 8000000 in
set_option maxRecDepth 100000 in
theorem r3tok_word (hl : letB (s[i]'hi) = true) : Calls Tryz.prog 37 #[.string s, .int .i64 i, .int .i64 ln] w fun e w' => e = .returned (r3V i ln (wordT (s.data.toList.drop i))) ∧ Below w.heap.size w w' := by
  have HL := Lib.hid (r3letter_any (s[i]'hi))
  have HWD := Lib.hid r3word_any
  have HK := Lib.hid r3key_any
  rw [hl] at HL
  clear hl
  go_enter Tryz.func37, Tryz.ntmps37
  go_wp2_with (first | (go_at_call 57; (with_reducible refine (HL.out _).mono ?_); rintro e w1 ⟨rfl, rfl⟩))
  go_loop [9] (fun u => ∃ j : Nat, i ≤ j ∧ j ≤ s.size ∧ u = .int .i64 j ∧ Hid (spanI wordB s j = spanI wordB s i)) (fun u => s.size - (intOf u).toNat)
  case atStart => exact ⟨i, Nat.le_refl _, by omega, rfl, rfl⟩
  case round =>
    obtain ⟨j, hij, hj, rfl, HJ⟩ := hrel
    by_cases hgo : ∃ h : j < s.size, wordB (s[j]'h) = true
    · obtain ⟨hlt, hw⟩ := hgo
      have HE : Hid (spanI wordB s (j + 1) = spanI wordB s i) := by show _ = _; rw [← HJ.out]; exact (spanI_yes hlt hw).symm
      have HC := Lib.hid (HWD.out (s[j]'hlt))
      rw [hw] at HC
      clear hw
      go_wp2_with (first | (go_at_call 58; (with_reducible refine (HC.out _).mono ?_); rintro e w1 ⟨rfl, rfl⟩))
      refine ⟨⟨j + 1, by omega, by omega, by go_num, HE.out⟩, by simp [intOf]; omega⟩
    · have hpe : spanI wordB s i = j := by
        rw [← HJ.out]
        by_cases h1 : j < s.size
        · refine spanI_no h1 ?_
          cases hb : wordB (s[j]'h1)
          · rfl
          · exact absurd ⟨h1, hb⟩ hgo
        · exact spanI_end (by omega)
      obtain ⟨n, hn⟩ : ∃ n, spanN wordB (s.data.toList.drop i) = n := ⟨_, rfl⟩
      have hjn : i + n = j := by rw [← hpe, ← hn]; rfl
      have hx : (s.extract i j).data.toList = (s.data.toList.drop i).take n := by rw [← hjn]; exact ext_take s i n (by omega)
      have hwk := word_key (r := s.data.toList.drop i)
      have hwl := word_long (r := s.data.toList.drop i)
      have hwn := word_name (r := s.data.toList.drop i)
      rw [hn] at hwk hwl hwn
      rw [← hx] at hwk hwn
      have HKy := Lib.hid (HK.out (s.extract i j))
      have hexit : (s.size ≤ j) ∨ ∃ h : j < s.size, wordB (s[j]'h) = false := by
        by_cases h1 : j < s.size
        · right
          refine ⟨h1, ?_⟩
          cases hb : wordB (s[j]'h1)
          · rfl
          · exact absurd ⟨h1, hb⟩ hgo
        · exact .inl (by omega)
      have HEX := Lib.hid hexit
      clear hgo hpe hexit hn
      have hsl : (i : Int) ≤ (j : Int) := by omega
      have hsl2 : (j : Int) ≤ (s.size : Int) := by omega
      cases hk : keyB (s.extract i j).data.toList
      · rw [hk] at HKy hwn
        by_cases h40 : 40 < n
        · have HE := Lib.hid (r3V_err (i := i) (ln := ln) (hwl h40) (by decide))
          have b40 : decide (40 < (j : Int) - (i : Int)) = true := by rw [decide_eq_true_eq]; omega
          clear hwk hwl hwn hk hx h40
          rcases HEX.out with h | ⟨h1, h2⟩
          · go_wp2_with (first | (go_at_call 59; (with_reducible refine (HKy.out _).mono ?_); rintro e w1 ⟨rfl, rfl⟩))
            ((try simp only [Exit.inBlock, Exit.then]); refine bodyPost_ret (by first | (simp [results, Tryz.results37, go_sem, *]; done) | (simp [results, Tryz.results37, go_sem, *]; rfl) | (simp [results, Tryz.results37, go_sem, ↓IntWalk.iteOmega, *]; try rfl)) rfl ?_)
            exact ⟨by rw [HE.out], by (repeat' (first | (with_reducible exact Below.refl _ _) | (with_reducible assumption) | (with_reducible refine Below.alloc ?_ ?_ _) | (with_reducible refine below_drewN ?_ _) | (with_reducible refine Below.drew ?_) | (with_reducible refine Below.setCell ?_ ?_ _) | (with_reducible refine below_via (by assumption) ?_ ?_) | (with_reducible refine below_via (later_below _) ?_ ?_) | (with_reducible exact Nat.le_refl _) | omega | (simp; omega) | (simp; done)))⟩
          · have HC := Lib.hid (HWD.out (s[j]'h1))
            rw [h2] at HC
            clear h2
            go_wp2_with (first | (go_at_call 58; (with_reducible refine (HC.out _).mono ?_); rintro e w1 ⟨rfl, rfl⟩) | (go_at_call 59; (with_reducible refine (HKy.out _).mono ?_); rintro e w1 ⟨rfl, rfl⟩))
            ((try simp only [Exit.inBlock, Exit.then]); refine bodyPost_ret (by first | (simp [results, Tryz.results37, go_sem, *]; done) | (simp [results, Tryz.results37, go_sem, *]; rfl) | (simp [results, Tryz.results37, go_sem, ↓IntWalk.iteOmega, *]; try rfl)) rfl ?_)
            exact ⟨by rw [HE.out], by (repeat' (first | (with_reducible exact Below.refl _ _) | (with_reducible assumption) | (with_reducible refine Below.alloc ?_ ?_ _) | (with_reducible refine below_drewN ?_ _) | (with_reducible refine Below.drew ?_) | (with_reducible refine Below.setCell ?_ ?_ _) | (with_reducible refine below_via (by assumption) ?_ ?_) | (with_reducible refine below_via (later_below _) ?_ ?_) | (with_reducible exact Nat.le_refl _) | omega | (simp; omega) | (simp; done)))⟩
        · have HE := Lib.hid (r3V_ok (i := i) (ln := ln) (hwn rfl h40) hjn rfl)
          have b40 : decide (40 < (j : Int) - (i : Int)) = false := by rw [decide_eq_false_iff_not]; omega
          clear hwk hwl hwn hk hx h40
          rcases HEX.out with h | ⟨h1, h2⟩
          · go_wp2_with (first | (go_at_call 59; (with_reducible refine (HKy.out _).mono ?_); rintro e w1 ⟨rfl, rfl⟩))
            ((try simp only [Exit.inBlock, Exit.then]); refine bodyPost_ret (by first | (simp [results, Tryz.results37, go_sem, *]; done) | (simp [results, Tryz.results37, go_sem, *]; rfl) | (simp [results, Tryz.results37, go_sem, ↓IntWalk.iteOmega, *]; try rfl)) rfl ?_)
            exact ⟨by rw [HE.out], by (repeat' (first | (with_reducible exact Below.refl _ _) | (with_reducible assumption) | (with_reducible refine Below.alloc ?_ ?_ _) | (with_reducible refine below_drewN ?_ _) | (with_reducible refine Below.drew ?_) | (with_reducible refine Below.setCell ?_ ?_ _) | (with_reducible refine below_via (by assumption) ?_ ?_) | (with_reducible refine below_via (later_below _) ?_ ?_) | (with_reducible exact Nat.le_refl _) | omega | (simp; omega) | (simp; done)))⟩
          · have HC := Lib.hid (HWD.out (s[j]'h1))
            rw [h2] at HC
            clear h2
            go_wp2_with (first | (go_at_call 58; (with_reducible refine (HC.out _).mono ?_); rintro e w1 ⟨rfl, rfl⟩) | (go_at_call 59; (with_reducible refine (HKy.out _).mono ?_); rintro e w1 ⟨rfl, rfl⟩))
            ((try simp only [Exit.inBlock, Exit.then]); refine bodyPost_ret (by first | (simp [results, Tryz.results37, go_sem, *]; done) | (simp [results, Tryz.results37, go_sem, *]; rfl) | (simp [results, Tryz.results37, go_sem, ↓IntWalk.iteOmega, *]; try rfl)) rfl ?_)
            exact ⟨by rw [HE.out], by (repeat' (first | (with_reducible exact Below.refl _ _) | (with_reducible assumption) | (with_reducible refine Below.alloc ?_ ?_ _) | (with_reducible refine below_drewN ?_ _) | (with_reducible refine Below.drew ?_) | (with_reducible refine Below.setCell ?_ ?_ _) | (with_reducible refine below_via (by assumption) ?_ ?_) | (with_reducible refine below_via (later_below _) ?_ ?_) | (with_reducible exact Nat.le_refl _) | omega | (simp; omega) | (simp; done)))⟩
      · rw [hk] at HKy hwk
        have HE := Lib.hid (r3V_ok (i := i) (ln := ln) (hwk rfl) hjn rfl)
        clear hwk hwl hwn hk hx
        rcases HEX.out with h | ⟨h1, h2⟩
        · go_wp2_with (first | (go_at_call 59; (with_reducible refine (HKy.out _).mono ?_); rintro e w1 ⟨rfl, rfl⟩))
          ((try simp only [Exit.inBlock, Exit.then]); refine bodyPost_ret (by first | (simp [results, Tryz.results37, go_sem, *]; done) | (simp [results, Tryz.results37, go_sem, *]; rfl) | (simp [results, Tryz.results37, go_sem, ↓IntWalk.iteOmega, *]; try rfl)) rfl ?_)
          exact ⟨by rw [HE.out], by (repeat' (first | (with_reducible exact Below.refl _ _) | (with_reducible assumption) | (with_reducible refine Below.alloc ?_ ?_ _) | (with_reducible refine below_drewN ?_ _) | (with_reducible refine Below.drew ?_) | (with_reducible refine Below.setCell ?_ ?_ _) | (with_reducible refine below_via (by assumption) ?_ ?_) | (with_reducible refine below_via (later_below _) ?_ ?_) | (with_reducible exact Nat.le_refl _) | omega | (simp; omega) | (simp; done)))⟩
        · have HC := Lib.hid (HWD.out (s[j]'h1))
          rw [h2] at HC
          clear h2
          go_wp2_with (first | (go_at_call 58; (with_reducible refine (HC.out _).mono ?_); rintro e w1 ⟨rfl, rfl⟩) | (go_at_call 59; (with_reducible refine (HKy.out _).mono ?_); rintro e w1 ⟨rfl, rfl⟩))
          ((try simp only [Exit.inBlock, Exit.then]); refine bodyPost_ret (by first | (simp [results, Tryz.results37, go_sem, *]; done) | (simp [results, Tryz.results37, go_sem, *]; rfl) | (simp [results, Tryz.results37, go_sem, ↓IntWalk.iteOmega, *]; try rfl)) rfl ?_)
          exact ⟨by rw [HE.out], by (repeat' (first | (with_reducible exact Below.refl _ _) | (with_reducible assumption) | (with_reducible refine Below.alloc ?_ ?_ _) | (with_reducible refine below_drewN ?_ _) | (with_reducible refine Below.drew ?_) | (with_reducible refine Below.setCell ?_ ?_ _) | (with_reducible refine below_via (by assumption) ?_ ?_) | (with_reducible refine below_via (later_below _) ?_ ?_) | (with_reducible exact Nat.le_refl _) | omega | (simp; omega) | (simp; done)))⟩

set_option maxHeartbeats 8000000 in
set_option maxRecDepth 100000 in
theorem r3tok_number (hl : letB (s[i]'hi) = false) (hd : digB (s[i]'hi) = true) : Calls Tryz.prog 37 #[.string s, .int .i64 i, .int .i64 ln] w fun e w' => e = .returned (r3V i ln (numberT (s.data.toList.drop i))) ∧ Below w.heap.size w w' := by
  have HL := Lib.hid (r3letter_any (s[i]'hi))
  have HD := Lib.hid (r3digit_any (s[i]'hi))
  have HWD := Lib.hid r3word_any
  rw [hl] at HL
  rw [hd] at HD
  clear hl hd
  obtain ⟨P, Q, K, E, hsays, hE, hok⟩ := r3scan_says s i (by omega) (by omega)
  have HS := Lib.hid hsays
  clear hsays
  by_cases hE0 : E = 0
  · obtain ⟨k, hk, hK, hk1, hk2⟩ := hok hE0
    subst hE0
    subst hK
    have hN : numberT (s.data.toList.drop i) = if wordAt (s.data.toList.drop i) k then errR 4 else ⟨0, 3, (s.data.toList.drop i).take k, k⟩ := by unfold numberT; rw [if_pos hE, hk]; rfl
    obtain ⟨p, hp⟩ : ∃ p, i + k = p := ⟨_, rfl⟩
    have hx : (s.extract i p).data.toList = (s.data.toList.drop i).take k := by rw [← hp]; exact ext_take s i k (by omega)
    rw [hp] at HS
    rw [hp] at hk2
    have hsl : (i : Int) ≤ (p : Int) := by omega
    have hsl2 : (p : Int) ≤ (s.size : Int) := by omega
    clear hE hok hk
    by_cases hlt : p < s.size
    · have hwa : wordAt (s.data.toList.drop i) k = wordB (s[p]'hlt) := by
        have e : (s.data.toList.drop i)[k]? = some (s[p]'hlt) := by
          subst hp
          exact drop_at s i k hlt
        unfold wordAt
        rw [e]
      rw [hwa] at hN
      have HC := Lib.hid (HWD.out (s[p]'hlt))
      cases hwb : wordB (s[p]'hlt)
      · rw [hwb] at hN HC
        have HE := Lib.hid (r3V_ok (i := i) (ln := ln) hN hp hx)
        clear hwa hwb hN hx
        go_enter Tryz.func37, Tryz.ntmps37
        go_wp2_with (first | (go_at_call 57; (with_reducible refine (HL.out _).mono ?_); rintro e w1 ⟨rfl, rfl⟩) | (go_at_call 60; (with_reducible refine (HD.out _).mono ?_); rintro e w1 ⟨rfl, rfl⟩) | (go_at_call 61; (with_reducible refine (HS.out _).mono ?_); rintro e w2 ⟨rfl, hb⟩; (refine mem hb ?_; intro N hN hz hc hf; (try simp at hN); subst hN)) | (go_at_call 58; (with_reducible refine (HC.out _).mono ?_); rintro e w1 ⟨rfl, rfl⟩))
        ((try simp only [Exit.inBlock, Exit.then]); refine bodyPost_ret (by first | (simp [results, Tryz.results37, go_sem, *]; done) | (simp [results, Tryz.results37, go_sem, *]; rfl) | (simp [results, Tryz.results37, go_sem, ↓IntWalk.iteOmega, *]; try rfl)) rfl ?_)
        refine ⟨by rw [HE.out], ?_⟩
        have h0 : Below w.heap.size w w2 := (Below.refl _ _).alloc (Nat.le_refl _) _ |>.trans (hb.mono (by simp))
        have h1 := h0.size
        (repeat' (first | (with_reducible exact Below.refl _ _) | (with_reducible assumption) | (with_reducible refine Below.alloc ?_ ?_ _) | (with_reducible refine below_drewN ?_ _) | (with_reducible refine Below.drew ?_) | (with_reducible refine Below.setCell ?_ ?_ _) | (with_reducible refine below_via (by assumption) ?_ ?_) | (with_reducible refine below_via (later_below _) ?_ ?_) | (with_reducible exact Nat.le_refl _) | omega | (simp; omega) | (simp; done)))
      · rw [hwb] at hN HC
        have HE := Lib.hid (r3V_err (i := i) (ln := ln) hN (by decide))
        clear hwa hwb hN hx
        go_enter Tryz.func37, Tryz.ntmps37
        go_wp2_with (first | (go_at_call 57; (with_reducible refine (HL.out _).mono ?_); rintro e w1 ⟨rfl, rfl⟩) | (go_at_call 60; (with_reducible refine (HD.out _).mono ?_); rintro e w1 ⟨rfl, rfl⟩) | (go_at_call 61; (with_reducible refine (HS.out _).mono ?_); rintro e w2 ⟨rfl, hb⟩; (refine mem hb ?_; intro N hN hz hc hf; (try simp at hN); subst hN)) | (go_at_call 58; (with_reducible refine (HC.out _).mono ?_); rintro e w1 ⟨rfl, rfl⟩))
        ((try simp only [Exit.inBlock, Exit.then]); refine bodyPost_ret (by first | (simp [results, Tryz.results37, go_sem, *]; done) | (simp [results, Tryz.results37, go_sem, *]; rfl) | (simp [results, Tryz.results37, go_sem, ↓IntWalk.iteOmega, *]; try rfl)) rfl ?_)
        refine ⟨by rw [HE.out], ?_⟩
        have h0 : Below w.heap.size w w2 := (Below.refl _ _).alloc (Nat.le_refl _) _ |>.trans (hb.mono (by simp))
        have h1 := h0.size
        (repeat' (first | (with_reducible exact Below.refl _ _) | (with_reducible assumption) | (with_reducible refine Below.alloc ?_ ?_ _) | (with_reducible refine below_drewN ?_ _) | (with_reducible refine Below.drew ?_) | (with_reducible refine Below.setCell ?_ ?_ _) | (with_reducible refine below_via (by assumption) ?_ ?_) | (with_reducible refine below_via (later_below _) ?_ ?_) | (with_reducible exact Nat.le_refl _) | omega | (simp; omega) | (simp; done)))
    · have hwa : wordAt (s.data.toList.drop i) k = false := by
        have e : (s.data.toList.drop i)[k]? = none := List.getElem?_eq_none (by simp; omega)
        unfold wordAt
        rw [e]
      rw [hwa] at hN
      have HE := Lib.hid (r3V_ok (i := i) (ln := ln) hN hp hx)
      clear hwa hN hx
      go_enter Tryz.func37, Tryz.ntmps37
      go_wp2_with (first | (go_at_call 57; (with_reducible refine (HL.out _).mono ?_); rintro e w1 ⟨rfl, rfl⟩) | (go_at_call 60; (with_reducible refine (HD.out _).mono ?_); rintro e w1 ⟨rfl, rfl⟩) | (go_at_call 61; (with_reducible refine (HS.out _).mono ?_); rintro e w2 ⟨rfl, hb⟩; (refine mem hb ?_; intro N hN hz hc hf; (try simp at hN); subst hN)))
      ((try simp only [Exit.inBlock, Exit.then]); refine bodyPost_ret (by first | (simp [results, Tryz.results37, go_sem, *]; done) | (simp [results, Tryz.results37, go_sem, *]; rfl) | (simp [results, Tryz.results37, go_sem, ↓IntWalk.iteOmega, *]; try rfl)) rfl ?_)
      refine ⟨by rw [HE.out], ?_⟩
      have h0 : Below w.heap.size w w2 := (Below.refl _ _).alloc (Nat.le_refl _) _ |>.trans (hb.mono (by simp))
      have h1 := h0.size
      (repeat' (first | (with_reducible exact Below.refl _ _) | (with_reducible assumption) | (with_reducible refine Below.alloc ?_ ?_ _) | (with_reducible refine below_drewN ?_ _) | (with_reducible refine Below.drew ?_) | (with_reducible refine Below.setCell ?_ ?_ _) | (with_reducible refine below_via (by assumption) ?_ ?_) | (with_reducible refine below_via (later_below _) ?_ ?_) | (with_reducible exact Nat.le_refl _) | omega | (simp; omega) | (simp; done)))
  · have hN : numberT (s.data.toList.drop i) = errR E := by unfold numberT; rw [if_neg (by rw [hE]; exact hE0), hE]
    have HE := Lib.hid (r3V_err (i := i) (ln := ln) hN hE0)
    have bE : (E != 0) = true := by simp; exact hE0
    clear hE hok hN hE0
    go_enter Tryz.func37, Tryz.ntmps37
    go_wp2_with (first | (go_at_call 57; (with_reducible refine (HL.out _).mono ?_); rintro e w1 ⟨rfl, rfl⟩) | (go_at_call 60; (with_reducible refine (HD.out _).mono ?_); rintro e w1 ⟨rfl, rfl⟩) | (go_at_call 61; (with_reducible refine (HS.out _).mono ?_); rintro e w2 ⟨rfl, hb⟩; (refine mem hb ?_; intro N hN hz hc hf; (try simp at hN); subst hN)))
    ((try simp only [Exit.inBlock, Exit.then]); refine bodyPost_ret (by first | (simp [results, Tryz.results37, go_sem, *]; done) | (simp [results, Tryz.results37, go_sem, *]; rfl) | (simp [results, Tryz.results37, go_sem, ↓IntWalk.iteOmega, *]; try rfl)) rfl ?_)
    refine ⟨by rw [HE.out], ?_⟩
    have h0 : Below w.heap.size w w2 := (Below.refl _ _).alloc (Nat.le_refl _) _ |>.trans (hb.mono (by simp))
    have h1 := h0.size
    (repeat' (first | (with_reducible exact Below.refl _ _) | (with_reducible assumption) | (with_reducible refine Below.alloc ?_ ?_ _) | (with_reducible refine below_drewN ?_ _) | (with_reducible refine Below.drew ?_) | (with_reducible refine Below.setCell ?_ ?_ _) | (with_reducible refine below_via (by assumption) ?_ ?_) | (with_reducible refine below_via (later_below _) ?_ ?_) | (with_reducible exact Nat.le_refl _) | omega | (simp; omega) | (simp; done)))
end
end Go.Proofs.YtemlijadhdejeaaGreatDoor

/- The reference's token: strings and symbols; all of it. -/
namespace Go.Proofs.YtemlijadhdejeaaGreatDoor
open Go.RowKit Go.Instr
set_option linter.unusedVariables false

section
variable (s : ByteArray) (i ln : Nat) (w : World) (hi : i < s.size) (hs : s.size ≤ 4000)
include hi hs
set_option maxHeartbeats 8000000 in
set_option maxRecDepth 100000 in
theorem r3tok_string (hl : letB (s[i]'hi) = false) (hd : digB (s[i]'hi) = false) (hq : (s[i]'hi).toNat = 39 ∨ (s[i]'hi).toNat = 34) : Calls Tryz.prog 37 #[.string s, .int .i64 i, .int .i64 ln] w fun e w' => e = .returned (r3V i ln (stringT (s[i]'hi) (s.data.toList.drop (i + 1)))) ∧ Below w.heap.size w w' := by
  have HL := Lib.hid (r3letter_any (s[i]'hi))
  have HD := Lib.hid (r3digit_any (s[i]'hi))
  rw [hl] at HL
  rw [hd] at HD
  have HT := Lib.hid (fun w' => r3lit_any s i w' hi (by omega) (by omega))
  obtain ⟨c, hc⟩ : ∃ c, s[i]'hi = c := ⟨_, rfl⟩
  rw [hc] at HL HD HT hq ⊢
  obtain ⟨R, hR⟩ : ∃ R, stringT c (s.data.toList.drop (i + 1)) = R := ⟨_, rfl⟩
  have hRe : R.e ≠ 0 → R = errR R.e := by
    intro h
    rw [← hR] at h ⊢
    unfold stringT at h ⊢
    split at h
    · exact absurd rfl h
    · rename_i h1; rw [if_neg h1]; rfl
  have hRk : R.e = 0 → R = ⟨0, 4, R.x, R.n⟩ := by
    intro h
    rw [← hR] at h ⊢
    unfold stringT at h ⊢
    split at h
    · rename_i h1; rw [if_pos h1]
    · rename_i h1; exact absurd h h1
  rw [hR] at HT ⊢
  obtain ⟨Q1, hQ1⟩ : ∃ Q, ((c.toNat : Int) == 39) = Q := ⟨_, rfl⟩
  obtain ⟨Q2, hQ2⟩ : ∃ Q, ((c.toNat : Int) == 34) = Q := ⟨_, rfl⟩
  have hall : Q1 = true ∨ (Q1 = false ∧ Q2 = true) := by
    rw [← hQ1, ← hQ2]
    simp only [beq_iff_eq, beq_eq_false_iff_ne, ne_eq]
    omega
  clear hl hd hq hR
  by_cases h0 : R.e = 0
  · obtain ⟨x, n, hxn⟩ : ∃ x n, R = ⟨0, 4, x, n⟩ := ⟨_, _, hRk h0⟩
    obtain ⟨p, hp⟩ : ∃ p, i + n = p := ⟨_, rfl⟩
    have HE := Lib.hid (r3V_ok (i := i) (ln := ln) (y := mkS x) hxn hp rfl)
    have hlv := litV_ok (i := i) hxn hp
    rw [hlv] at HT
    clear hxn hlv hRk hRe h0 hp
    rcases hall with rfl | ⟨rfl, rfl⟩
    all_goals
      go_enter Tryz.func37, Tryz.ntmps37
      go_wp2_with (first | (go_at_call 57; (with_reducible refine (HL.out _).mono ?_); rintro e w1 ⟨rfl, rfl⟩) | (go_at_call 60; (with_reducible refine (HD.out _).mono ?_); rintro e w1 ⟨rfl, rfl⟩) | (go_at_call 62; (with_reducible refine (HT.out _).mono ?_); rintro e w2 ⟨rfl, hb⟩; (refine mem hb ?_; intro N hN hz hc hf; (try simp at hN); subst hN)))
      ((try simp only [Exit.inBlock, Exit.then]); refine bodyPost_ret (by first | (simp [results, Tryz.results37, go_sem, *]; done) | (simp [results, Tryz.results37, go_sem, *]; rfl) | (simp [results, Tryz.results37, go_sem, ↓IntWalk.iteOmega, *]; try rfl)) rfl ?_)
      refine ⟨by rw [HE.out], ?_⟩
      have h0 : Below w.heap.size w w2 := (Below.refl _ _).alloc (Nat.le_refl _) _ |>.trans (hb.mono (by simp))
      have h1 := h0.size
      (repeat' (first | (with_reducible exact Below.refl _ _) | (with_reducible assumption) | (with_reducible refine Below.alloc ?_ ?_ _) | (with_reducible refine below_drewN ?_ _) | (with_reducible refine Below.drew ?_) | (with_reducible refine Below.setCell ?_ ?_ _) | (with_reducible refine below_via (by assumption) ?_ ?_) | (with_reducible refine below_via (later_below _) ?_ ?_) | (with_reducible exact Nat.le_refl _) | omega | (simp; omega) | (simp; done)))
  · obtain ⟨E, hE⟩ : ∃ E, R.e = E := ⟨_, rfl⟩
    have hR2 := hRe h0
    rw [hE] at h0 hR2
    have HE := Lib.hid (r3V_err (i := i) (ln := ln) hR2 h0)
    have hlv := litV_err (i := i) hR2 h0
    rw [hlv] at HT
    have bE : (E != 0) = true := by simp; exact h0
    clear hlv hRk hRe h0 hR2 hE
    rcases hall with rfl | ⟨rfl, rfl⟩
    all_goals
      go_enter Tryz.func37, Tryz.ntmps37
      go_wp2_with (first | (go_at_call 57; (with_reducible refine (HL.out _).mono ?_); rintro e w1 ⟨rfl, rfl⟩) | (go_at_call 60; (with_reducible refine (HD.out _).mono ?_); rintro e w1 ⟨rfl, rfl⟩) | (go_at_call 62; (with_reducible refine (HT.out _).mono ?_); rintro e w2 ⟨rfl, hb⟩; (refine mem hb ?_; intro N hN hz hc hf; (try simp at hN); subst hN)))
      ((try simp only [Exit.inBlock, Exit.then]); refine bodyPost_ret (by first | (simp [results, Tryz.results37, go_sem, *]; done) | (simp [results, Tryz.results37, go_sem, *]; rfl) | (simp [results, Tryz.results37, go_sem, ↓IntWalk.iteOmega, *]; try rfl)) rfl ?_)
      refine ⟨by rw [HE.out], ?_⟩
      have h0 : Below w.heap.size w w2 := (Below.refl _ _).alloc (Nat.le_refl _) _ |>.trans (hb.mono (by simp))
      have h1 := h0.size
      (repeat' (first | (with_reducible exact Below.refl _ _) | (with_reducible assumption) | (with_reducible refine Below.alloc ?_ ?_ _) | (with_reducible refine below_drewN ?_ _) | (with_reducible refine Below.drew ?_) | (with_reducible refine Below.setCell ?_ ?_ _) | (with_reducible refine below_via (by assumption) ?_ ?_) | (with_reducible refine below_via (later_below _) ?_ ?_) | (with_reducible exact Nat.le_refl _) | omega | (simp; omega) | (simp; done)))

set_option maxHeartbeats 8000000 in
set_option maxRecDepth 100000 in
theorem r3tok_symbol (hl : letB (s[i]'hi) = false) (hd : digB (s[i]'hi) = false) (hq : ¬ ((s[i]'hi).toNat = 39 ∨ (s[i]'hi).toNat = 34)) : Calls Tryz.prog 37 #[.string s, .int .i64 i, .int .i64 ln] w fun e w' => e = .returned (r3V i ln (symbolT (s.data.toList.drop i))) ∧ Below w.heap.size w w' := by
  have HL := Lib.hid (r3letter_any (s[i]'hi))
  have HD := Lib.hid (r3digit_any (s[i]'hi))
  rw [hl] at HL
  rw [hd] at HD
  have hT := fun w' => r3sym_any (s.extract i s.size) w'
  rw [Lib.extract_to_end] at hT
  have HT := Lib.hid hT
  obtain ⟨c, hc⟩ : ∃ c, s[i]'hi = c := ⟨_, rfl⟩
  rw [hc] at HL HD hq
  have b39 : ((c.toNat : Int) == 39) = false := by rw [beq_eq_false_iff_ne]; omega
  have b34 : ((c.toNat : Int) == 34) = false := by rw [beq_eq_false_iff_ne]; omega
  have hisz : (i : Int) ≤ (s.size : Int) := by omega
  clear hl hd hq hT
  by_cases h0 : (symbolT (s.data.toList.drop i)).e = 0
  · obtain ⟨y, hy, hp, hR⟩ := symbolT_ok h0
    have hlen := (syms_ok y hy).1
    rw [List.isPrefixOf_iff_prefix, List.prefix_iff_eq_take] at hp
    have hln : i + y.length ≤ s.size := by
      have := congrArg List.length hp
      rw [List.length_take, List.length_drop] at this
      simp at this
      omega
    have hx : (s.extract i (i + y.length)).data.toList = y := by rw [ext_take s i y.length hln, ← hp]
    rw [hR] at HT ⊢
    have HE := Lib.hid (r3V_ok (i := i) (ln := ln) (r := ⟨0, 5, y, y.length⟩) rfl rfl hx)
    dsimp only at HT
    have hn0 : y.length ≠ 0 := fun e => hlen (List.eq_nil_of_length_eq_zero e)
    obtain ⟨n, hn⟩ : ∃ n, y.length = n := ⟨_, rfl⟩
    rw [hn] at HT HE hln hn0 ⊢
    have bn : ((n : Int) == 0) = false := by rw [beq_eq_false_iff_ne]; omega
    have hin1 : (i : Int) ≤ (i : Int) + (n : Int) := by omega
    have hin2 : (i : Int) + (n : Int) ≤ (s.size : Int) := by omega
    have hin3 : ((i : Int) + (n : Int)).toNat = i + n := by omega
    clear hp hx hR h0 hn
    go_enter Tryz.func37, Tryz.ntmps37
    go_wp2_with (first | (go_at_call 57; (with_reducible refine (HL.out _).mono ?_); rintro e w1 ⟨rfl, rfl⟩) | (go_at_call 60; (with_reducible refine (HD.out _).mono ?_); rintro e w1 ⟨rfl, rfl⟩) | (go_at_call 63; (with_reducible refine (HT.out _).mono ?_); rintro e w2 ⟨rfl, rfl⟩))
    ((try simp only [Exit.inBlock, Exit.then]); refine bodyPost_ret (by first | (simp [results, Tryz.results37, go_sem, *]; done) | (simp [results, Tryz.results37, go_sem, *]; rfl) | (simp [results, Tryz.results37, go_sem, ↓IntWalk.iteOmega, *]; try rfl)) rfl ?_)
    exact ⟨by rw [HE.out]; first | rfl | go_num, by (repeat' (first | (with_reducible exact Below.refl _ _) | (with_reducible assumption) | (with_reducible refine Below.alloc ?_ ?_ _) | (with_reducible refine below_drewN ?_ _) | (with_reducible refine Below.drew ?_) | (with_reducible refine Below.setCell ?_ ?_ _) | (with_reducible refine below_via (by assumption) ?_ ?_) | (with_reducible refine below_via (later_below _) ?_ ?_) | (with_reducible exact Nat.le_refl _) | omega | (simp; omega) | (simp; done)))⟩
  · have hR : symbolT (s.data.toList.drop i) = errR 4 := by
      unfold symbolT at h0 ⊢
      split at h0
      · exact absurd rfl h0
      · rfl
    rw [hR] at HT ⊢
    have HE := Lib.hid (r3V_err (i := i) (ln := ln) (r := errR 4) rfl (by decide))
    have bn : (((errR 4).n : Int) == 0) = true := rfl
    have HT2 : Hid (∀ w', Calls Tryz.prog 63 #[.string (s.extract i s.size)] w' fun e w'' => e = .returned (.int .i64 0) ∧ w' = w'') := fun w' => HT.out w'
    clear hR h0
    go_enter Tryz.func37, Tryz.ntmps37
    go_wp2_with (first | (go_at_call 57; (with_reducible refine (HL.out _).mono ?_); rintro e w1 ⟨rfl, rfl⟩) | (go_at_call 60; (with_reducible refine (HD.out _).mono ?_); rintro e w1 ⟨rfl, rfl⟩) | (go_at_call 63; (with_reducible refine (HT2.out _).mono ?_); rintro e w2 ⟨rfl, rfl⟩))
    ((try simp only [Exit.inBlock, Exit.then]); refine bodyPost_ret (by first | (simp [results, Tryz.results37, go_sem, *]; done) | (simp [results, Tryz.results37, go_sem, *]; rfl) | (simp [results, Tryz.results37, go_sem, ↓IntWalk.iteOmega, *]; try rfl)) rfl ?_)
    exact ⟨by rw [HE.out], by (repeat' (first | (with_reducible exact Below.refl _ _) | (with_reducible assumption) | (with_reducible refine Below.alloc ?_ ?_ _) | (with_reducible refine below_drewN ?_ _) | (with_reducible refine Below.drew ?_) | (with_reducible refine Below.setCell ?_ ?_ _) | (with_reducible refine below_via (by assumption) ?_ ?_) | (with_reducible refine below_via (later_below _) ?_ ?_) | (with_reducible exact Nat.le_refl _) | omega | (simp; omega) | (simp; done)))⟩

theorem r3tok_any : Calls Tryz.prog 37 #[.string s, .int .i64 i, .int .i64 ln] w fun e w' => e = .returned (r3V i ln (tokT (s.data.toList.drop i))) ∧ Below w.heap.size w w' := by
  have htok : tokT (s.data.toList.drop i) = if letB (s[i]'hi) then wordT (s.data.toList.drop i) else if digB (s[i]'hi) then numberT (s.data.toList.drop i) else if (s[i]'hi).toNat = 39 ∨ (s[i]'hi).toNat = 34 then stringT (s[i]'hi) (s.data.toList.drop (i + 1)) else symbolT (s.data.toList.drop i) := by
    have hdr := drop_get s i hi
    conv => lhs; rw [hdr]
    unfold tokT
    simp only []
    rw [← hdr]
  rw [htok]
  by_cases h1 : letB (s[i]'hi) = true
  · rw [if_pos h1]; exact r3tok_word s i ln w hi hs h1
  · rw [if_neg h1]
    have h1' : letB (s[i]'hi) = false := by simpa using h1
    by_cases h2 : digB (s[i]'hi) = true
    · rw [if_pos h2]; exact r3tok_number s i ln w hi hs h1' h2
    · rw [if_neg h2]
      have h2' : digB (s[i]'hi) = false := by simpa using h2
      by_cases h3 : (s[i]'hi).toNat = 39 ∨ (s[i]'hi).toNat = 34
      · rw [if_pos h3]; exact r3tok_string s i ln w hi hs h1' h2' h3
      · rw [if_neg h3]; exact r3tok_symbol s i ln w hi hs h1' h2' h3
end
end Go.Proofs.YtemlijadhdejeaaGreatDoor

/- The reference's Scan. -/
namespace Go.Proofs.YtemlijadhdejeaaGreatDoor
open Go.RowKit Go.Instr
set_option linter.unusedVariables false

/-- Tokens that the call itself collects. -/
def BufT (w0 : World) (base : Nat) (v : Value) (l : List Tk) (w : World) : Prop := w.ownsRow base 49 4 v l.length (flatTk l) ∧ Below base w0 w ∧ base ≤ w.heap.size
theorem BufT.later {w0 w w' : World} {base : Nat} {v : Value} {l : List Tk} (h : BufT w0 base v l w) (hb : Below w.heap.size w w') : BufT w0 base v l w' :=
  ⟨ownsRow_later h.1 hb, h.2.1.trans (hb.mono h.2.2), Nat.le_trans h.2.2 hb.size⟩
theorem BufT.alloc {w0 w : World} {base : Nat} {v : Value} {l : List Tk} (h : BufT w0 base v l w) (o : Obj) : BufT w0 base v l (w.alloc o) := h.later ((Below.refl _ _).alloc (Nat.le_refl _) o)
/-- 'append(out, t)'. -/
theorem wp_tok {W : World} {k : Int} {x : ByteArray} {L p : Nat} {T : TypeId} {ops : Array Oper} {rest : List Oper} {o : Oper} {a : Act} {Q : Exit → Act → World → Prop}
    (hg : o.guard = none) (s y : Operand) (hop : o.op = Op.call { callee := Callee.builtin Builtin.append, args := #[s, y], argTypes := #[44, 44] })
    (w0 : World) (base : Nat) (v : Value) (l : List Tk) (hb : BufT w0 base v l W) (hs : a.eval s = v) (hx : ∃ g c, a.eval y = .slice (some ⟨g, 0, none⟩) 1 c ∧ W.heap.size = g) (hl : l.length ≤ 1000000)
    (hK : ∀ v' w', BufT w0 base v' (l ++ [⟨k, x.data.toList, L, p⟩]) w' → wpList Tryz.prog ops Q rest (a.put o.dst v') w') : wpList Tryz.prog ops Q (o :: rest) a (W.alloc (.cells #[.int .i64 k, .string x, .int .i64 L, .int .i64 p] T)) := by
  obtain ⟨i0, hi0, hz0, hz1, hz2⟩ := info_parts token_info
  obtain ⟨g, c, hx, hgs⟩ := hx
  refine wpList_append_own _ hg s y _ hop base 49 i0 _ 4 40 Tryz.underlying44 hi0 hz0 hz1 hz2 rfl (by omega) v l.length (flatTk l) hs (hb.1.alloc _) ⟨g, 0, none⟩ 1 c [.int .i64 k, .string x, .int .i64 L, .int .i64 p] hx rfl
    (cells_at W g [.int .i64 k, .string x, .int .i64 L, .int .i64 p] T hgs) (by simp [Value.oneCell']) (by unfold maxLen; omega) (by omega) (by simp; have := hb.2.2; omega) ?_
  intro v' w' ho hgr _
  have hb2 := hb.alloc (.cells #[.int .i64 k, .string x, .int .i64 L, .int .i64 p] T)
  refine hK v' w' ⟨?_, hb2.2.1.grown hgr hb2.2.2 (fun r hr => ?_), Nat.le_trans hb2.2.2 hgr.size⟩
  · rw [List.length_append, flatTk_snoc, mkS_of]
    exact ho
  · obtain ⟨-, h2 | ⟨g2, cap, cur, hv, hg2, -⟩⟩ := hb.1
    · rw [h2.1] at hr; cases hr
    · rw [hv] at hr; cases hr; exact hg2
theorem nl_step (s : ByteArray) (j k : Nat) (hjk : j ≤ k) (h : k < s.size) : nlN ((s.data.toList.drop j).take (k + 1 - j)) = nlN ((s.data.toList.drop j).take (k - j)) + if (s[k]'h).toNat = 10 then 1 else 0 := by
  have hl : k - j < (s.data.toList.drop j).length := by rw [List.length_drop]; simp; omega
  have e : (s.data.toList.drop j)[k - j] = s[k]'h := by
    rw [List.getElem_drop]
    simp [show j + (k - j) = k by omega]
    rfl
  rw [show k + 1 - j = (k - j) + 1 by omega, List.take_succ_eq_append_getElem hl, nlN_app, e]
  congr 1
  show List.count 10 [s[k]'h] = _
  by_cases h10 : (s[k]'h).toNat = 10
  · have : s[k]'h = 10 := UInt8.toNat_inj.1 h10
    rw [if_pos h10, this]; rfl
  · have : s[k]'h ≠ 10 := fun e => h10 (by rw [e]; rfl)
    rw [if_neg h10, List.count_eq_zero_of_not_mem (by simpa using fun e => this e.symm)]

set_option maxHeartbeats 8000000 in
set_option maxRecDepth 100000 in
theorem r3scan_any (s : ByteArray) (w : World) (hs : s.size ≤ 4000) :
    Calls Tryz.prog 18 #[.string s] w fun e w' => (∃ v, e = .returned (.tuple #[v, .int .i64 (scanA s.data.toList 0 1).2.1, .int .i64 (scanA s.data.toList 0 1).2.2]) ∧ w'.ownsRow w.heap.size 49 4 v (scanA s.data.toList 0 1).1.length (flatTk (scanA s.data.toList 0 1).1)) ∧ Below w.heap.size w w' := by
  obtain ⟨R, hR⟩ : ∃ R, scanA s.data.toList 0 1 = R := ⟨_, rfl⟩
  have hform := scanA_form s.data.toList 0 1
  have HR0 : Hid (R = apA [] (scanA (s.data.toList.drop 0) 0 1)) := by
    show _ = _
    rw [List.drop_zero, hR, ← hR, apA_nil _ hform]
  rw [hR]
  clear hR hform
  have HG := Lib.hid (fun w' j h => r3gap_any s j w' h (by omega))
  have HTK := Lib.hid (fun w' p L h => r3tok_any s p L w' h hs)
  have hs0 : ¬ (65536 : Int) < (s.size : Int) := by omega
  go_enter Tryz.func18, Tryz.ntmps18
  go_wp2_with fail
  refine (HG.out _ 0 (Nat.zero_le _)).mono ?_
  rintro e w1 ⟨rfl, rfl⟩
  go_wp2_with fail
  go_loopw [5, 6, 7, 8] (fun v u6 u7 u8 wr => ∃ (j m : Nat) (l : List Tk), j ≤ s.size ∧ m ≤ 1 + j ∧ l.length ≤ j ∧ u6 = .int .i64 m ∧ u7 = .int .i64 j ∧ u8 = .int .i64 (gapI s j) ∧ Hid (BufT w w.heap.size v l wr) ∧ Hid (R = apA l (scanA (s.data.toList.drop j) j m))) (fun _ _ _ u8 _ => s.size - (intOf u8).toNat)
  case atStart => exact ⟨0, 1, [], Nat.zero_le _, by omega, Nat.le_refl _, rfl, rfl, rfl, ⟨World.ownsRow_nil _ _ _ _, Below.refl _ _, Nat.le_refl _⟩, HR0.out⟩
  case round =>
    obtain ⟨j, m, l, hj, hm, hll, rfl, rfl, rfl, HB, HE⟩ := hrel
    obtain ⟨hp1, hp2⟩ := gapI_le s j hj
    have hsz := HB.out.2.2
    by_cases hlt : gapI s j < s.size
    · have hbad := scan_bad (m := m) hlt
      have hgood := scan_good (m := m) hlt
      have hok := tokT_ok (r := s.data.toList.drop (gapI s j))
      have HK := Lib.hid (fun w' L => HTK.out w' (gapI s j) L hlt)
      have hcnt := gapN_count (s.data.toList.drop j).length (s.data.toList.drop j) (Nat.le_refl _)
      have hgl : gapL s j m = m + nlN ((s.data.toList.drop j).take (gapI s j - j)) := by
        rw [show gapI s j - j = (gapN (s.data.toList.drop j)).1 by unfold gapI; omega, hcnt]; rfl
      obtain ⟨tk, htk⟩ : ∃ tk, tokT (s.data.toList.drop (gapI s j)) = tk := ⟨_, rfl⟩
      rw [htk] at hbad hgood hok HK
      obtain ⟨p, hp⟩ : ∃ p, gapI s j = p := ⟨_, rfl⟩
      rw [hp] at hlt hp1 hgl HK hgood hok
      rw [hp]
      have HBAD := Lib.hid hbad
      have HGOOD := Lib.hid hgood
      have HOK := Lib.hid hok
      have HGL := Lib.hid hgl
      clear hbad hgood hok hcnt hgl htk hp2 hp
      go_wp2_with fail
      go_loop [6, 9] (fun u v => ∃ k M : Nat, j ≤ k ∧ k ≤ p ∧ v = .int .i64 k ∧ u = .int .i64 M ∧ M ≤ 1 + k ∧ Hid (M = m + nlN ((s.data.toList.drop j).take (k - j)))) (fun _ v => p - (intOf v).toNat)
      case atStart => exact ⟨j, m, Nat.le_refl _, hp1, rfl, rfl, hm, by show _ = _; rw [Nat.sub_self]; rfl⟩
      case round =>
        obtain ⟨k, M, hjk, hkp, rfl, rfl, hM, HM⟩ := hrel
        by_cases hk : k < p
        · have hks : k < s.size := by omega
          have hst := nl_step s j k hjk hks
          obtain ⟨c, hc⟩ : ∃ c, s[k]'hks = c := ⟨_, rfl⟩
          rw [hc, ← Nat.add_zero (nlN _)] at hst
          by_cases h10 : c.toNat = 10
          · have b10 : ((c.toNat : Int) == 10) = true := by simp; omega
            have HS : Hid (M + 1 = m + nlN ((s.data.toList.drop j).take (k + 1 - j))) := by
              show _ = _
              rw [if_pos h10] at hst
              have := HM.out
              omega
            clear hst h10
            go_wp2_with fail
            exact ⟨⟨k + 1, M + 1, by omega, by omega, by go_num, by go_num, by omega, HS.out⟩, by simp [intOf]; omega⟩
          · have b10 : ((c.toNat : Int) == 10) = false := by simp; omega
            have HS : Hid (M = m + nlN ((s.data.toList.drop j).take (k + 1 - j))) := by
              show _ = _
              rw [if_neg h10] at hst
              have := HM.out
              omega
            clear hst h10
            go_wp2_with fail
            exact ⟨⟨k + 1, M, by omega, by omega, by go_num, rfl, by omega, HS.out⟩, by simp [intOf]; omega⟩
        · obtain rfl : k = p := by omega
          have hML : gapL s j m = M := by rw [HGL.out, HM.out]
          have HC := Lib.hid (fun w' => HK.out w' M)
          by_cases he : tk.e = 0
          · obtain ⟨hn1, hn2, -⟩ := HOK.out he
            simp at hn2
            have h1 := HGOOD.out he
            rw [hML] at h1
            obtain ⟨K, x, n, htk⟩ : ∃ K x n, tk = ⟨0, K, x, n⟩ := ⟨tk.k, tk.x, tk.n, by rw [← he]⟩
            subst htk
            dsimp only at h1 hn1 hn2 he
            have HE2 : Hid (R = apA (l ++ [⟨K, (mkS x).data.toList, M, k⟩]) (scanA (s.data.toList.drop (k + n)) (k + n) M)) := by
              show _ = _
              rw [HE.out, h1, apA_scP]
              rfl
            obtain ⟨q, hq⟩ : ∃ q, k + n = q := ⟨_, rfl⟩
            rw [hq] at HE2
            have HC2 : Hid (∀ w', Calls Tryz.prog 37 #[.string s, .int .i64 k, .int .i64 M] w' fun e w'' => e = .returned (.tuple #[.agg #[.int .i64 K, .string (mkS x), .int .i64 M, .int .i64 k], .int .i64 q, .int .i64 0]) ∧ Below w'.heap.size w' w'') := fun w' => by
              have h0 := HC.out w'
              rw [r3V_ok (r := ⟨0, K, x, n⟩) (y := mkS x) rfl hq rfl] at h0
              exact h0
            have hqs : q ≤ s.size := by omega
            have HG2 := Lib.hid (fun w' => HG.out w' q hqs)
            have hgq := gapI_le s q hqs
            obtain ⟨q1, q2⟩ := hgq
            clear h1 he HBAD HGOOD HOK HGL HM hML HC HK
            go_wp2_with fail
            refine (HC2.out _).mono ?_
            rintro e w2 ⟨rfl, hb2⟩
            have HB2 := Lib.hid (HB.out.later hb2)
            clear hb2
            go_wp2_with (first | (go_at_call 36; (with_reducible refine (HG2.out _).mono ?_); rintro e w3 ⟨rfl, rfl⟩) | (at_builtin; refine wp_tok rfl _ _ rfl w w.heap.size _ l (HB2.out.alloc _) rfl ?_ ?_ ?_; (focus exact ⟨_, _, rfl, by first | rfl | simp⟩); (focus omega); intro v' w' hb'))
            refine ⟨⟨q, M, _, hqs, by omega, ?_, rfl, rfl, rfl, hb', HE2.out⟩, by simp [intOf]; omega⟩
            rw [List.length_append]; simp; omega
          · have h1 := HBAD.out he
            rw [hML] at h1
            have HRE : Hid (R = ([], M, tk.e)) := by
              show _ = _
              rw [HE.out, h1]
              unfold apA
              rw [if_neg he]
            have hr : tk = errR tk.e ∨ True := .inr trivial
            have HC2 : Hid (∀ w', Calls Tryz.prog 37 #[.string s, .int .i64 k, .int .i64 M] w' fun e w'' => e = .returned (.tuple #[.agg #[.int .i64 0, .string ⟨#[]⟩, .int .i64 0, .int .i64 0], .int .i64 0, .int .i64 tk.e]) ∧ Below w'.heap.size w' w'') := fun w' => by
              have h0 := HC.out w'
              unfold r3V at h0
              rw [if_neg he] at h0
              exact h0
            obtain ⟨E, hE⟩ : ∃ E, tk.e = E := ⟨_, rfl⟩
            rw [hE] at HC2 HRE he
            have be : (E != 0) = true := by simp; exact he
            clear h1 he HBAD HGOOD HOK HGL HM hML HC HK hr hE
            go_wp2_with fail
            refine (HC2.out _).mono ?_
            rintro e w2 ⟨rfl, hb2⟩
            have HB2 := Lib.hid (HB.out.later hb2)
            clear hb2
            go_wp2_with fail
            go_returns
            refine ⟨⟨.slice none 0 0, by rw [HRE.out]; rfl, ?_⟩, ?_⟩
            · rw [HRE.out]; exact World.ownsRow_nil _ _ _ _
            · have h0 := HB2.out.2.1
              have h1 := HB2.out.2.2
              (repeat' (first | (with_reducible exact Below.refl _ _) | (with_reducible assumption) | (with_reducible refine Below.alloc ?_ ?_ _) | (with_reducible refine below_drewN ?_ _) | (with_reducible refine Below.drew ?_) | (with_reducible refine Below.setCell ?_ ?_ _) | (with_reducible refine below_via (by assumption) ?_ ?_) | (with_reducible refine below_via (later_below _) ?_ ?_) | (with_reducible exact Nat.le_refl _) | omega | (simp; omega) | (simp; done)))
    · have hdone := scan_done (m := m) (Nat.le_of_not_lt hlt)
      have HRE : Hid (R = (l, 0, 0)) := by
        show _ = _
        rw [HE.out, hdone]
        unfold apA
        simp
      clear hdone
      go_wp2_with fail
      go_returns
      exact ⟨⟨_, by rw [HRE.out]; rfl, by rw [HRE.out]; exact HB.out.1⟩, HB.out.2.1⟩
end Go.Proofs.YtemlijadhdejeaaGreatDoor
