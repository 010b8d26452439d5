/- The reference's token. -/
import Derived.Test.YtgjeljhodflbgaaDoorMLxR3
import Derived.Test.YtgjeljhodflbgaaDoorMLxD
import Derived.Test.YtgjeljhodflbgaaDoorMRefN10
namespace Go.Proofs.YtgjeljhodflbgaaDoor
open Go.RowKit Go.Instr
set_option linter.unusedVariables false

/-- What the reference's token hands back. -/
def r3V (i ln : Nat) (r : TokR) : Value := if r.e = 0 then .tuple #[.agg #[.int .i64 r.k, .string (mkS r.x), .int .i64 ln, .int .i64 i], .int .i64 ((i + r.n : Nat) : Int), .int .i64 0] else .tuple #[.agg #[.int .i64 0, .string ⟨#[]⟩, .int .i64 0, .int .i64 0], .int .i64 0, .int .i64 r.e]
theorem r3V_err {i ln : Nat} {r : TokR} {e : Int} (h : r = errR e) (he : e ≠ 0) : r3V i ln r = .tuple #[.agg #[.int .i64 0, .string ⟨#[]⟩, .int .i64 0, .int .i64 0], .int .i64 0, .int .i64 e] := by
  subst h; unfold r3V errR; rw [if_neg he]
theorem r3V_ok {i ln p n : Nat} {k : Int} {r : TokR} {x : List UInt8} {y : ByteArray} (h : r = ⟨0, k, x, n⟩) (hp : i + n = p) (hy : y.data.toList = x) : r3V i ln r = .tuple #[.agg #[.int .i64 k, .string y, .int .i64 ln, .int .i64 i], .int .i64 (p : Int), .int .i64 0] := by
  subst h hp hy; unfold r3V; rw [if_pos rfl, mkS_of]
/-- What the numeral at an index comes to. -/
theorem r3scan_says (s : ByteArray) (i : Nat) (hi : i ≤ s.size) (hs : s.size ≤ 4000) : ∃ P Q K E : Int, (∀ w', Calls Tryd.prog 52 #[.string s, .int .i64 i] w' fun e w'' => e = .returned (.tuple #[.agg #[.int .i64 P, .int .i64 Q], .int .i64 K, .int .i64 E]) ∧ Below w'.heap.size w' w'') ∧
    (scanL (s.data.toList.drop i) 0).2.2.2 = E ∧ (E = 0 → ∃ k : Nat, (scanL (s.data.toList.drop i) 0).2.2.1 = k ∧ K = ((i + k : Nat) : Int) ∧ 1 ≤ k ∧ i + k ≤ s.size) := by
  have h := scan_at s i hi
  obtain ⟨sc, hsc⟩ : ∃ sc, scanL (s.data.toList.drop i) 0 = sc := ⟨_, rfl⟩
  have hok := fun h0 => scanL_ok (l := s.data.toList.drop i) h0
  rw [hsc] at h hok ⊢
  obtain ⟨P, Q, K0, E⟩ := sc
  dsimp only at h hok ⊢
  refine ⟨P, Q, if E = 0 then K0 + i else K0, E, fun w' => ?_, rfl, fun h0 => ?_⟩
  · have h1 := rscan_any s i hs w'
    rw [h] at h1
    exact h1
  · obtain ⟨f, -, h2, h3, h4, -⟩ := hok h0
    simp at h3
    exact ⟨f.end_, h4, by rw [if_pos h0, h4]; omega, h2, by omega⟩
theorem key_short {w : List UInt8} (h : keyB w = true) : w.length ≤ 40 := by
  have hm : w ∈ keys := by unfold keyB at h; simpa using h
  exact (keys_words w hm).2.2
theorem word_key {r : List UInt8} (h : keyB (r.take (spanN wordB r)) = true) : wordT r = ⟨0, 2, r.take (spanN wordB r), spanN wordB r⟩ := by
  have h1 := key_short h
  have h2 := spanN_le wordB r
  rw [List.length_take] at h1
  unfold wordT
  rw [if_neg (by omega), h]; rfl
theorem word_long {r : List UInt8} (h : 40 < spanN wordB r) : wordT r = errR 3 := by unfold wordT; rw [if_pos h]
theorem word_name {r : List UInt8} (h : keyB (r.take (spanN wordB r)) = false) (h2 : ¬ 40 < spanN wordB r) : wordT r = ⟨0, 1, r.take (spanN wordB r), spanN wordB r⟩ := by unfold wordT; rw [if_neg h2, h]; rfl
section
variable (s : ByteArray) (i ln : Nat) (w : World) (hi : i < s.size) (hs : s.size ≤ 3000)
include hi hs

set_option maxHeartbeats 8000000 in
set_option maxRecDepth 100000 in
theorem r3tok_word (hl : letB (s[i]'hi) = true) : Calls Tryd.prog 29 #[.string s, .int .i64 i, .int .i64 ln] w fun e w' => e = .returned (r3V i ln (wordT (s.data.toList.drop i))) ∧ Below w.heap.size w w' := by
  have HL := Lib.hid (r3letter_any (s[i]'hi))
  have HWD := Lib.hid r3word_any
  have HK := Lib.hid r3key_any
  rw [hl] at HL
  clear hl
  go_enter Tryd.func29, Tryd.ntmps29
  go_wp2_with (first | (go_at_call 51; (with_reducible refine (HL.out _).mono ?_); rintro e w1 ⟨rfl, rfl⟩))
  go_loop [9] (fun u => ∃ j : Nat, i ≤ j ∧ j ≤ s.size ∧ u = .int .i64 j ∧ Hid (spanI wordB s j = spanI wordB s i)) (fun u => s.size - (intOf u).toNat)
  case atStart => exact ⟨i, Nat.le_refl _, by omega, rfl, rfl⟩
  case round =>
    obtain ⟨j, hij, hj, rfl, HJ⟩ := hrel
    by_cases hgo : ∃ h : j < s.size, wordB (s[j]'h) = true
    · obtain ⟨hlt, hw⟩ := hgo
      have HE : Hid (spanI wordB s (j + 1) = spanI wordB s i) := by show _ = _; rw [← HJ.out]; exact (spanI_yes hlt hw).symm
      have HC := Lib.hid (HWD.out (s[j]'hlt))
      rw [hw] at HC
      clear hw
      go_wp2_with (first | (go_at_call 34; (with_reducible refine (HC.out _).mono ?_); rintro e w1 ⟨rfl, rfl⟩))
      refine ⟨⟨j + 1, by omega, by omega, by go_num, HE.out⟩, by simp [intOf]; omega⟩
    · have hpe : spanI wordB s i = j := by
        rw [← HJ.out]
        by_cases h1 : j < s.size
        · refine spanI_no h1 ?_
          cases hb : wordB (s[j]'h1)
          · rfl
          · exact absurd ⟨h1, hb⟩ hgo
        · exact spanI_end (by omega)
      obtain ⟨n, hn⟩ : ∃ n, spanN wordB (s.data.toList.drop i) = n := ⟨_, rfl⟩
      have hjn : i + n = j := by rw [← hpe, ← hn]; rfl
      have hx : (s.extract i j).data.toList = (s.data.toList.drop i).take n := by rw [← hjn]; exact ext_take s i n (by omega)
      have hwk := word_key (r := s.data.toList.drop i)
      have hwl := word_long (r := s.data.toList.drop i)
      have hwn := word_name (r := s.data.toList.drop i)
      rw [hn] at hwk hwl hwn
      rw [← hx] at hwk hwn
      have HKy := Lib.hid (HK.out (s.extract i j))
      have hexit : (s.size ≤ j) ∨ ∃ h : j < s.size, wordB (s[j]'h) = false := by
        by_cases h1 : j < s.size
        · right
          refine ⟨h1, ?_⟩
          cases hb : wordB (s[j]'h1)
          · rfl
          · exact absurd ⟨h1, hb⟩ hgo
        · exact .inl (by omega)
      have HEX := Lib.hid hexit
      clear hgo hpe hexit hn
      have hsl : (i : Int) ≤ (j : Int) := by omega
      have hsl2 : (j : Int) ≤ (s.size : Int) := by omega
      cases hk : keyB (s.extract i j).data.toList
      · rw [hk] at HKy hwn
        by_cases h40 : 40 < n
        · have HE := Lib.hid (r3V_err (i := i) (ln := ln) (hwl h40) (by decide))
          have b40 : decide (40 < (j : Int) - (i : Int)) = true := by rw [decide_eq_true_eq]; omega
          clear hwk hwl hwn hk hx h40
          rcases HEX.out with h | ⟨h1, h2⟩
          · go_wp2_with (first | (go_at_call 18; (with_reducible refine (HKy.out _).mono ?_); rintro e w1 ⟨rfl, rfl⟩))
            ((try simp only [Exit.inBlock, Exit.then]); refine bodyPost_ret (by first | (simp [results, Tryd.results29, go_sem, *]; done) | (simp [results, Tryd.results29, go_sem, *]; rfl) | (simp [results, Tryd.results29, go_sem, ↓IntWalk.iteOmega, *]; try rfl)) rfl ?_)
            exact ⟨by rw [HE.out], by (repeat' (first | (with_reducible exact Below.refl _ _) | (with_reducible assumption) | (with_reducible refine Below.alloc ?_ ?_ _) | (with_reducible refine Go.below_drewN ?_ _) | (with_reducible refine Below.drew ?_) | (with_reducible refine Below.setCell ?_ ?_ _) | (with_reducible refine below_via (by assumption) ?_ ?_) | (with_reducible refine below_via (later_below _) ?_ ?_) | (with_reducible exact Nat.le_refl _) | omega | (simp; omega) | (simp; done)))⟩
          · have HC := Lib.hid (HWD.out (s[j]'h1))
            rw [h2] at HC
            clear h2
            go_wp2_with (first | (go_at_call 34; (with_reducible refine (HC.out _).mono ?_); rintro e w1 ⟨rfl, rfl⟩) | (go_at_call 18; (with_reducible refine (HKy.out _).mono ?_); rintro e w1 ⟨rfl, rfl⟩))
            ((try simp only [Exit.inBlock, Exit.then]); refine bodyPost_ret (by first | (simp [results, Tryd.results29, go_sem, *]; done) | (simp [results, Tryd.results29, go_sem, *]; rfl) | (simp [results, Tryd.results29, go_sem, ↓IntWalk.iteOmega, *]; try rfl)) rfl ?_)
            exact ⟨by rw [HE.out], by (repeat' (first | (with_reducible exact Below.refl _ _) | (with_reducible assumption) | (with_reducible refine Below.alloc ?_ ?_ _) | (with_reducible refine Go.below_drewN ?_ _) | (with_reducible refine Below.drew ?_) | (with_reducible refine Below.setCell ?_ ?_ _) | (with_reducible refine below_via (by assumption) ?_ ?_) | (with_reducible refine below_via (later_below _) ?_ ?_) | (with_reducible exact Nat.le_refl _) | omega | (simp; omega) | (simp; done)))⟩
        · have HE := Lib.hid (r3V_ok (i := i) (ln := ln) (hwn rfl h40) hjn rfl)
          have b40 : decide (40 < (j : Int) - (i : Int)) = false := by rw [decide_eq_false_iff_not]; omega
          clear hwk hwl hwn hk hx h40
          rcases HEX.out with h | ⟨h1, h2⟩
          · go_wp2_with (first | (go_at_call 18; (with_reducible refine (HKy.out _).mono ?_); rintro e w1 ⟨rfl, rfl⟩))
            ((try simp only [Exit.inBlock, Exit.then]); refine bodyPost_ret (by first | (simp [results, Tryd.results29, go_sem, *]; done) | (simp [results, Tryd.results29, go_sem, *]; rfl) | (simp [results, Tryd.results29, go_sem, ↓IntWalk.iteOmega, *]; try rfl)) rfl ?_)
            exact ⟨by rw [HE.out], by (repeat' (first | (with_reducible exact Below.refl _ _) | (with_reducible assumption) | (with_reducible refine Below.alloc ?_ ?_ _) | (with_reducible refine Go.below_drewN ?_ _) | (with_reducible refine Below.drew ?_) | (with_reducible refine Below.setCell ?_ ?_ _) | (with_reducible refine below_via (by assumption) ?_ ?_) | (with_reducible refine below_via (later_below _) ?_ ?_) | (with_reducible exact Nat.le_refl _) | omega | (simp; omega) | (simp; done)))⟩
          · have HC := Lib.hid (HWD.out (s[j]'h1))
            rw [h2] at HC
            clear h2
            go_wp2_with (first | (go_at_call 34; (with_reducible refine (HC.out _).mono ?_); rintro e w1 ⟨rfl, rfl⟩) | (go_at_call 18; (with_reducible refine (HKy.out _).mono ?_); rintro e w1 ⟨rfl, rfl⟩))
            ((try simp only [Exit.inBlock, Exit.then]); refine bodyPost_ret (by first | (simp [results, Tryd.results29, go_sem, *]; done) | (simp [results, Tryd.results29, go_sem, *]; rfl) | (simp [results, Tryd.results29, go_sem, ↓IntWalk.iteOmega, *]; try rfl)) rfl ?_)
            exact ⟨by rw [HE.out], by (repeat' (first | (with_reducible exact Below.refl _ _) | (with_reducible assumption) | (with_reducible refine Below.alloc ?_ ?_ _) | (with_reducible refine Go.below_drewN ?_ _) | (with_reducible refine Below.drew ?_) | (with_reducible refine Below.setCell ?_ ?_ _) | (with_reducible refine below_via (by assumption) ?_ ?_) | (with_reducible refine below_via (later_below _) ?_ ?_) | (with_reducible exact Nat.le_refl _) | omega | (simp; omega) | (simp; done)))⟩
      · rw [hk] at HKy hwk
        have HE := Lib.hid (r3V_ok (i := i) (ln := ln) (hwk rfl) hjn rfl)
        clear hwk hwl hwn hk hx
        rcases HEX.out with h | ⟨h1, h2⟩
        · go_wp2_with (first | (go_at_call 18; (with_reducible refine (HKy.out _).mono ?_); rintro e w1 ⟨rfl, rfl⟩))
          ((try simp only [Exit.inBlock, Exit.then]); refine bodyPost_ret (by first | (simp [results, Tryd.results29, go_sem, *]; done) | (simp [results, Tryd.results29, go_sem, *]; rfl) | (simp [results, Tryd.results29, go_sem, ↓IntWalk.iteOmega, *]; try rfl)) rfl ?_)
          exact ⟨by rw [HE.out], by (repeat' (first | (with_reducible exact Below.refl _ _) | (with_reducible assumption) | (with_reducible refine Below.alloc ?_ ?_ _) | (with_reducible refine Go.below_drewN ?_ _) | (with_reducible refine Below.drew ?_) | (with_reducible refine Below.setCell ?_ ?_ _) | (with_reducible refine below_via (by assumption) ?_ ?_) | (with_reducible refine below_via (later_below _) ?_ ?_) | (with_reducible exact Nat.le_refl _) | omega | (simp; omega) | (simp; done)))⟩
        · have HC := Lib.hid (HWD.out (s[j]'h1))
          rw [h2] at HC
          clear h2
          go_wp2_with (first | (go_at_call 34; (with_reducible refine (HC.out _).mono ?_); rintro e w1 ⟨rfl, rfl⟩) | (go_at_call 18; (with_reducible refine (HKy.out _).mono ?_); rintro e w1 ⟨rfl, rfl⟩))
          ((try simp only [Exit.inBlock, Exit.then]); refine bodyPost_ret (by first | (simp [results, Tryd.results29, go_sem, *]; done) | (simp [results, Tryd.results29, go_sem, *]; rfl) | (simp [results, Tryd.results29, go_sem, ↓IntWalk.iteOmega, *]; try rfl)) rfl ?_)
          exact ⟨by rw [HE.out], by (repeat' (first | (with_reducible exact Below.refl _ _) | (with_reducible assumption) | (with_reducible refine Below.alloc ?_ ?_ _) | (with_reducible refine Go.below_drewN ?_ _) | (with_reducible refine Below.drew ?_) | (with_reducible refine Below.setCell ?_ ?_ _) | (with_reducible refine below_via (by assumption) ?_ ?_) | (with_reducible refine below_via (later_below _) ?_ ?_) | (with_reducible exact Nat.le_refl _) | omega | (simp; omega) | (simp; done)))⟩

set_option maxHeartbeats 8000000 in
set_option maxRecDepth 100000 in
theorem r3tok_number (hl : letB (s[i]'hi) = false) (hd : digB (s[i]'hi) = true) : Calls Tryd.prog 29 #[.string s, .int .i64 i, .int .i64 ln] w fun e w' => e = .returned (r3V i ln (numberT (s.data.toList.drop i))) ∧ Below w.heap.size w w' := by
  have HL := Lib.hid (r3letter_any (s[i]'hi))
  have HD := Lib.hid (r3digit_any (s[i]'hi))
  have HWD := Lib.hid r3word_any
  rw [hl] at HL
  rw [hd] at HD
  clear hl hd
  obtain ⟨P, Q, K, E, hsays, hE, hok⟩ := r3scan_says s i (by omega) (by omega)
  have HS := Lib.hid hsays
  clear hsays
  by_cases hE0 : E = 0
  · obtain ⟨k, hk, hK, hk1, hk2⟩ := hok hE0
    subst hE0
    subst hK
    have hN : numberT (s.data.toList.drop i) = if wordAt (s.data.toList.drop i) k then errR 4 else ⟨0, 3, (s.data.toList.drop i).take k, k⟩ := by unfold numberT; rw [if_pos hE, hk]; rfl
    obtain ⟨p, hp⟩ : ∃ p, i + k = p := ⟨_, rfl⟩
    have hx : (s.extract i p).data.toList = (s.data.toList.drop i).take k := by rw [← hp]; exact ext_take s i k (by omega)
    rw [hp] at HS
    rw [hp] at hk2
    have hsl : (i : Int) ≤ (p : Int) := by omega
    have hsl2 : (p : Int) ≤ (s.size : Int) := by omega
    clear hE hok hk
    by_cases hlt : p < s.size
    · have hwa : wordAt (s.data.toList.drop i) k = wordB (s[p]'hlt) := by
        have e : (s.data.toList.drop i)[k]? = some (s[p]'hlt) := by
          subst hp
          exact drop_at s i k hlt
        unfold wordAt
        rw [e]
      rw [hwa] at hN
      have HC := Lib.hid (HWD.out (s[p]'hlt))
      cases hwb : wordB (s[p]'hlt)
      · rw [hwb] at hN HC
        have HE := Lib.hid (r3V_ok (i := i) (ln := ln) hN hp hx)
        clear hwa hwb hN hx
        go_enter Tryd.func29, Tryd.ntmps29
        go_wp2_with (first | (go_at_call 51; (with_reducible refine (HL.out _).mono ?_); rintro e w1 ⟨rfl, rfl⟩) | (go_at_call 33; (with_reducible refine (HD.out _).mono ?_); rintro e w1 ⟨rfl, rfl⟩) | (go_at_call 52; (with_reducible refine (HS.out _).mono ?_); rintro e w2 ⟨rfl, hb⟩; (refine mem hb ?_; intro N hN hz hc hf; (try simp at hN); subst hN)) | (go_at_call 34; (with_reducible refine (HC.out _).mono ?_); rintro e w1 ⟨rfl, rfl⟩))
        ((try simp only [Exit.inBlock, Exit.then]); refine bodyPost_ret (by first | (simp [results, Tryd.results29, go_sem, *]; done) | (simp [results, Tryd.results29, go_sem, *]; rfl) | (simp [results, Tryd.results29, go_sem, ↓IntWalk.iteOmega, *]; try rfl)) rfl ?_)
        refine ⟨by rw [HE.out], ?_⟩
        have h0 : Below w.heap.size w w2 := (Below.refl _ _).alloc (Nat.le_refl _) _ |>.trans (hb.mono (by simp))
        have h1 := h0.size
        (repeat' (first | (with_reducible exact Below.refl _ _) | (with_reducible assumption) | (with_reducible refine Below.alloc ?_ ?_ _) | (with_reducible refine Go.below_drewN ?_ _) | (with_reducible refine Below.drew ?_) | (with_reducible refine Below.setCell ?_ ?_ _) | (with_reducible refine below_via (by assumption) ?_ ?_) | (with_reducible refine below_via (later_below _) ?_ ?_) | (with_reducible exact Nat.le_refl _) | omega | (simp; omega) | (simp; done)))
      · rw [hwb] at hN HC
        have HE := Lib.hid (r3V_err (i := i) (ln := ln) hN (by decide))
        clear hwa hwb hN hx
        go_enter Tryd.func29, Tryd.ntmps29
        go_wp2_with (first | (go_at_call 51; (with_reducible refine (HL.out _).mono ?_); rintro e w1 ⟨rfl, rfl⟩) | (go_at_call 33; (with_reducible refine (HD.out _).mono ?_); rintro e w1 ⟨rfl, rfl⟩) | (go_at_call 52; (with_reducible refine (HS.out _).mono ?_); rintro e w2 ⟨rfl, hb⟩; (refine mem hb ?_; intro N hN hz hc hf; (try simp at hN); subst hN)) | (go_at_call 34; (with_reducible refine (HC.out _).mono ?_); rintro e w1 ⟨rfl, rfl⟩))
        ((try simp only [Exit.inBlock, Exit.then]); refine bodyPost_ret (by first | (simp [results, Tryd.results29, go_sem, *]; done) | (simp [results, Tryd.results29, go_sem, *]; rfl) | (simp [results, Tryd.results29, go_sem, ↓IntWalk.iteOmega, *]; try rfl)) rfl ?_)
        refine ⟨by rw [HE.out], ?_⟩
        have h0 : Below w.heap.size w w2 := (Below.refl _ _).alloc (Nat.le_refl _) _ |>.trans (hb.mono (by simp))
        have h1 := h0.size
        (repeat' (first | (with_reducible exact Below.refl _ _) | (with_reducible assumption) | (with_reducible refine Below.alloc ?_ ?_ _) | (with_reducible refine Go.below_drewN ?_ _) | (with_reducible refine Below.drew ?_) | (with_reducible refine Below.setCell ?_ ?_ _) | (with_reducible refine below_via (by assumption) ?_ ?_) | (with_reducible refine below_via (later_below _) ?_ ?_) | (with_reducible exact Nat.le_refl _) | omega | (simp; omega) | (simp; done)))
    · have hwa : wordAt (s.data.toList.drop i) k = false := by
        have e : (s.data.toList.drop i)[k]? = none := List.getElem?_eq_none (by simp; omega)
        unfold wordAt
        rw [e]
      rw [hwa] at hN
      have HE := Lib.hid (r3V_ok (i := i) (ln := ln) hN hp hx)
      clear hwa hN hx
      go_enter Tryd.func29, Tryd.ntmps29
      go_wp2_with (first | (go_at_call 51; (with_reducible refine (HL.out _).mono ?_); rintro e w1 ⟨rfl, rfl⟩) | (go_at_call 33; (with_reducible refine (HD.out _).mono ?_); rintro e w1 ⟨rfl, rfl⟩) | (go_at_call 52; (with_reducible refine (HS.out _).mono ?_); rintro e w2 ⟨rfl, hb⟩; (refine mem hb ?_; intro N hN hz hc hf; (try simp at hN); subst hN)))
      ((try simp only [Exit.inBlock, Exit.then]); refine bodyPost_ret (by first | (simp [results, Tryd.results29, go_sem, *]; done) | (simp [results, Tryd.results29, go_sem, *]; rfl) | (simp [results, Tryd.results29, go_sem, ↓IntWalk.iteOmega, *]; try rfl)) rfl ?_)
      refine ⟨by rw [HE.out], ?_⟩
      have h0 : Below w.heap.size w w2 := (Below.refl _ _).alloc (Nat.le_refl _) _ |>.trans (hb.mono (by simp))
      have h1 := h0.size
      (repeat' (first | (with_reducible exact Below.refl _ _) | (with_reducible assumption) | (with_reducible refine Below.alloc ?_ ?_ _) | (with_reducible refine Go.below_drewN ?_ _) | (with_reducible refine Below.drew ?_) | (with_reducible refine Below.setCell ?_ ?_ _) | (with_reducible refine below_via (by assumption) ?_ ?_) | (with_reducible refine below_via (later_below _) ?_ ?_) | (with_reducible exact Nat.le_refl _) | omega | (simp; omega) | (simp; done)))
  · have hN : numberT (s.data.toList.drop i) = errR E := by unfold numberT; rw [if_neg (by rw [hE]; exact hE0), hE]
    have HE := Lib.hid (r3V_err (i := i) (ln := ln) hN hE0)
    have bE : (E != 0) = true := by simp; exact hE0
    clear hE hok hN hE0
    go_enter Tryd.func29, Tryd.ntmps29
    go_wp2_with (first | (go_at_call 51; (with_reducible refine (HL.out _).mono ?_); rintro e w1 ⟨rfl, rfl⟩) | (go_at_call 33; (with_reducible refine (HD.out _).mono ?_); rintro e w1 ⟨rfl, rfl⟩) | (go_at_call 52; (with_reducible refine (HS.out _).mono ?_); rintro e w2 ⟨rfl, hb⟩; (refine mem hb ?_; intro N hN hz hc hf; (try simp at hN); subst hN)))
    ((try simp only [Exit.inBlock, Exit.then]); refine bodyPost_ret (by first | (simp [results, Tryd.results29, go_sem, *]; done) | (simp [results, Tryd.results29, go_sem, *]; rfl) | (simp [results, Tryd.results29, go_sem, ↓IntWalk.iteOmega, *]; try rfl)) rfl ?_)
    refine ⟨by rw [HE.out], ?_⟩
    have h0 : Below w.heap.size w w2 := (Below.refl _ _).alloc (Nat.le_refl _) _ |>.trans (hb.mono (by simp))
    have h1 := h0.size
    (repeat' (first | (with_reducible exact Below.refl _ _) | (with_reducible assumption) | (with_reducible refine Below.alloc ?_ ?_ _) | (with_reducible refine Go.below_drewN ?_ _) | (with_reducible refine Below.drew ?_) | (with_reducible refine Below.setCell ?_ ?_ _) | (with_reducible refine below_via (by assumption) ?_ ?_) | (with_reducible refine below_via (later_below _) ?_ ?_) | (with_reducible exact Nat.le_refl _) | omega | (simp; omega) | (simp; done)))
end
end Go.Proofs.YtgjeljhodflbgaaDoor
