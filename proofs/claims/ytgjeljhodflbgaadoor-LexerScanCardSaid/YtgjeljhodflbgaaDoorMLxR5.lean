/- The reference's token: strings and symbols; all of it. -/
import Derived.Test.YtgjeljhodflbgaaDoorMLxR4
namespace Go.Proofs.YtgjeljhodflbgaaDoor
open Go.RowKit Go.Instr
set_option linter.unusedVariables false

section
variable (s : ByteArray) (i ln : Nat) (w : World) (hi : i < s.size) (hs : s.size ≤ 3000)
include hi hs
set_option maxHeartbeats 8000000 in
set_option maxRecDepth 100000 in
theorem r3tok_string (hl : letB (s[i]'hi) = false) (hd : digB (s[i]'hi) = false) (hq : (s[i]'hi).toNat = 39 ∨ (s[i]'hi).toNat = 34) : Calls Tryd.prog 29 #[.string s, .int .i64 i, .int .i64 ln] w fun e w' => e = .returned (r3V i ln (stringT (s[i]'hi) (s.data.toList.drop (i + 1)))) ∧ Below w.heap.size w w' := by
  have HL := Lib.hid (r3letter_any (s[i]'hi))
  have HD := Lib.hid (r3digit_any (s[i]'hi))
  rw [hl] at HL
  rw [hd] at HD
  have HT := Lib.hid (fun w' => r3lit_any s i w' hi (by omega) (by omega))
  obtain ⟨c, hc⟩ : ∃ c, s[i]'hi = c := ⟨_, rfl⟩
  rw [hc] at HL HD HT hq ⊢
  obtain ⟨R, hR⟩ : ∃ R, stringT c (s.data.toList.drop (i + 1)) = R := ⟨_, rfl⟩
  have hRe : R.e ≠ 0 → R = errR R.e := by
    intro h
    rw [← hR] at h ⊢
    unfold stringT at h ⊢
    split at h
    · exact absurd rfl h
    · rename_i h1; rw [if_neg h1]; rfl
  have hRk : R.e = 0 → R = ⟨0, 4, R.x, R.n⟩ := by
    intro h
    rw [← hR] at h ⊢
    unfold stringT at h ⊢
    split at h
    · rename_i h1; rw [if_pos h1]
    · rename_i h1; exact absurd h h1
  rw [hR] at HT ⊢
  obtain ⟨Q1, hQ1⟩ : ∃ Q, ((c.toNat : Int) == 39) = Q := ⟨_, rfl⟩
  obtain ⟨Q2, hQ2⟩ : ∃ Q, ((c.toNat : Int) == 34) = Q := ⟨_, rfl⟩
  have hall : Q1 = true ∨ (Q1 = false ∧ Q2 = true) := by
    rw [← hQ1, ← hQ2]
    simp only [beq_iff_eq, beq_eq_false_iff_ne, ne_eq]
    omega
  clear hl hd hq hR
  by_cases h0 : R.e = 0
  · obtain ⟨x, n, hxn⟩ : ∃ x n, R = ⟨0, 4, x, n⟩ := ⟨_, _, hRk h0⟩
    obtain ⟨p, hp⟩ : ∃ p, i + n = p := ⟨_, rfl⟩
    have HE := Lib.hid (r3V_ok (i := i) (ln := ln) (y := mkS x) hxn hp rfl)
    have hlv := litV_ok (i := i) hxn hp
    rw [hlv] at HT
    clear hxn hlv hRk hRe h0 hp
    rcases hall with rfl | ⟨rfl, rfl⟩
    all_goals
      go_enter Tryd.func29, Tryd.ntmps29
      go_wp2_with (first | (go_at_call 51; (with_reducible refine (HL.out _).mono ?_); rintro e w1 ⟨rfl, rfl⟩) | (go_at_call 33; (with_reducible refine (HD.out _).mono ?_); rintro e w1 ⟨rfl, rfl⟩) | (go_at_call 53; (with_reducible refine (HT.out _).mono ?_); rintro e w2 ⟨rfl, hb⟩; (refine mem hb ?_; intro N hN hz hc hf; (try simp at hN); subst hN)))
      ((try simp only [Exit.inBlock, Exit.then]); refine bodyPost_ret (by first | (simp [results, Tryd.results29, go_sem, *]; done) | (simp [results, Tryd.results29, go_sem, *]; rfl) | (simp [results, Tryd.results29, go_sem, ↓IntWalk.iteOmega, *]; try rfl)) rfl ?_)
      refine ⟨by rw [HE.out], ?_⟩
      have h0 : Below w.heap.size w w2 := (Below.refl _ _).alloc (Nat.le_refl _) _ |>.trans (hb.mono (by simp))
      have h1 := h0.size
      (repeat' (first | (with_reducible exact Below.refl _ _) | (with_reducible assumption) | (with_reducible refine Below.alloc ?_ ?_ _) | (with_reducible refine Go.below_drewN ?_ _) | (with_reducible refine Below.drew ?_) | (with_reducible refine Below.setCell ?_ ?_ _) | (with_reducible refine below_via (by assumption) ?_ ?_) | (with_reducible refine below_via (later_below _) ?_ ?_) | (with_reducible exact Nat.le_refl _) | omega | (simp; omega) | (simp; done)))
  · obtain ⟨E, hE⟩ : ∃ E, R.e = E := ⟨_, rfl⟩
    have hR2 := hRe h0
    rw [hE] at h0 hR2
    have HE := Lib.hid (r3V_err (i := i) (ln := ln) hR2 h0)
    have hlv := litV_err (i := i) hR2 h0
    rw [hlv] at HT
    have bE : (E != 0) = true := by simp; exact h0
    clear hlv hRk hRe h0 hR2 hE
    rcases hall with rfl | ⟨rfl, rfl⟩
    all_goals
      go_enter Tryd.func29, Tryd.ntmps29
      go_wp2_with (first | (go_at_call 51; (with_reducible refine (HL.out _).mono ?_); rintro e w1 ⟨rfl, rfl⟩) | (go_at_call 33; (with_reducible refine (HD.out _).mono ?_); rintro e w1 ⟨rfl, rfl⟩) | (go_at_call 53; (with_reducible refine (HT.out _).mono ?_); rintro e w2 ⟨rfl, hb⟩; (refine mem hb ?_; intro N hN hz hc hf; (try simp at hN); subst hN)))
      ((try simp only [Exit.inBlock, Exit.then]); refine bodyPost_ret (by first | (simp [results, Tryd.results29, go_sem, *]; done) | (simp [results, Tryd.results29, go_sem, *]; rfl) | (simp [results, Tryd.results29, go_sem, ↓IntWalk.iteOmega, *]; try rfl)) rfl ?_)
      refine ⟨by rw [HE.out], ?_⟩
      have h0 : Below w.heap.size w w2 := (Below.refl _ _).alloc (Nat.le_refl _) _ |>.trans (hb.mono (by simp))
      have h1 := h0.size
      (repeat' (first | (with_reducible exact Below.refl _ _) | (with_reducible assumption) | (with_reducible refine Below.alloc ?_ ?_ _) | (with_reducible refine Go.below_drewN ?_ _) | (with_reducible refine Below.drew ?_) | (with_reducible refine Below.setCell ?_ ?_ _) | (with_reducible refine below_via (by assumption) ?_ ?_) | (with_reducible refine below_via (later_below _) ?_ ?_) | (with_reducible exact Nat.le_refl _) | omega | (simp; omega) | (simp; done)))

set_option maxHeartbeats 8000000 in
set_option maxRecDepth 100000 in
theorem r3tok_symbol (hl : letB (s[i]'hi) = false) (hd : digB (s[i]'hi) = false) (hq : ¬ ((s[i]'hi).toNat = 39 ∨ (s[i]'hi).toNat = 34)) : Calls Tryd.prog 29 #[.string s, .int .i64 i, .int .i64 ln] w fun e w' => e = .returned (r3V i ln (symbolT (s.data.toList.drop i))) ∧ Below w.heap.size w w' := by
  have HL := Lib.hid (r3letter_any (s[i]'hi))
  have HD := Lib.hid (r3digit_any (s[i]'hi))
  rw [hl] at HL
  rw [hd] at HD
  have hT := fun w' => r3sym_any (s.extract i s.size) w'
  rw [Lib.extract_to_end] at hT
  have HT := Lib.hid hT
  obtain ⟨c, hc⟩ : ∃ c, s[i]'hi = c := ⟨_, rfl⟩
  rw [hc] at HL HD hq
  have b39 : ((c.toNat : Int) == 39) = false := by rw [beq_eq_false_iff_ne]; omega
  have b34 : ((c.toNat : Int) == 34) = false := by rw [beq_eq_false_iff_ne]; omega
  have hisz : (i : Int) ≤ (s.size : Int) := by omega
  clear hl hd hq hT
  by_cases h0 : (symbolT (s.data.toList.drop i)).e = 0
  · obtain ⟨y, hy, hp, hR⟩ := symbolT_ok h0
    have hlen := (syms_ok y hy).1
    rw [List.isPrefixOf_iff_prefix, List.prefix_iff_eq_take] at hp
    have hln : i + y.length ≤ s.size := by
      have := congrArg List.length hp
      rw [List.length_take, List.length_drop] at this
      simp at this
      omega
    have hx : (s.extract i (i + y.length)).data.toList = y := by rw [ext_take s i y.length hln, ← hp]
    rw [hR] at HT ⊢
    have HE := Lib.hid (r3V_ok (i := i) (ln := ln) (r := ⟨0, 5, y, y.length⟩) rfl rfl hx)
    dsimp only at HT
    have hn0 : y.length ≠ 0 := fun e => hlen (List.eq_nil_of_length_eq_zero e)
    obtain ⟨n, hn⟩ : ∃ n, y.length = n := ⟨_, rfl⟩
    rw [hn] at HT HE hln hn0 ⊢
    have bn : ((n : Int) == 0) = false := by rw [beq_eq_false_iff_ne]; omega
    have hin1 : (i : Int) ≤ (i : Int) + (n : Int) := by omega
    have hin2 : (i : Int) + (n : Int) ≤ (s.size : Int) := by omega
    have hin3 : ((i : Int) + (n : Int)).toNat = i + n := by omega
    clear hp hx hR h0 hn
    go_enter Tryd.func29, Tryd.ntmps29
    go_wp2_with (first | (go_at_call 51; (with_reducible refine (HL.out _).mono ?_); rintro e w1 ⟨rfl, rfl⟩) | (go_at_call 33; (with_reducible refine (HD.out _).mono ?_); rintro e w1 ⟨rfl, rfl⟩) | (go_at_call 54; (with_reducible refine (HT.out _).mono ?_); rintro e w2 ⟨rfl, rfl⟩))
    ((try simp only [Exit.inBlock, Exit.then]); refine bodyPost_ret (by first | (simp [results, Tryd.results29, go_sem, *]; done) | (simp [results, Tryd.results29, go_sem, *]; rfl) | (simp [results, Tryd.results29, go_sem, ↓IntWalk.iteOmega, *]; try rfl)) rfl ?_)
    exact ⟨by rw [HE.out]; first | rfl | go_num, by (repeat' (first | (with_reducible exact Below.refl _ _) | (with_reducible assumption) | (with_reducible refine Below.alloc ?_ ?_ _) | (with_reducible refine Go.below_drewN ?_ _) | (with_reducible refine Below.drew ?_) | (with_reducible refine Below.setCell ?_ ?_ _) | (with_reducible refine below_via (by assumption) ?_ ?_) | (with_reducible refine below_via (later_below _) ?_ ?_) | (with_reducible exact Nat.le_refl _) | omega | (simp; omega) | (simp; done)))⟩
  · have hR : symbolT (s.data.toList.drop i) = errR 4 := by
      unfold symbolT at h0 ⊢
      split at h0
      · exact absurd rfl h0
      · rfl
    rw [hR] at HT ⊢
    have HE := Lib.hid (r3V_err (i := i) (ln := ln) (r := errR 4) rfl (by decide))
    have bn : (((errR 4).n : Int) == 0) = true := rfl
    have HT2 : Hid (∀ w', Calls Tryd.prog 54 #[.string (s.extract i s.size)] w' fun e w'' => e = .returned (.int .i64 0) ∧ w' = w'') := fun w' => HT.out w'
    clear hR h0
    go_enter Tryd.func29, Tryd.ntmps29
    go_wp2_with (first | (go_at_call 51; (with_reducible refine (HL.out _).mono ?_); rintro e w1 ⟨rfl, rfl⟩) | (go_at_call 33; (with_reducible refine (HD.out _).mono ?_); rintro e w1 ⟨rfl, rfl⟩) | (go_at_call 54; (with_reducible refine (HT2.out _).mono ?_); rintro e w2 ⟨rfl, rfl⟩))
    ((try simp only [Exit.inBlock, Exit.then]); refine bodyPost_ret (by first | (simp [results, Tryd.results29, go_sem, *]; done) | (simp [results, Tryd.results29, go_sem, *]; rfl) | (simp [results, Tryd.results29, go_sem, ↓IntWalk.iteOmega, *]; try rfl)) rfl ?_)
    exact ⟨by rw [HE.out], by (repeat' (first | (with_reducible exact Below.refl _ _) | (with_reducible assumption) | (with_reducible refine Below.alloc ?_ ?_ _) | (with_reducible refine Go.below_drewN ?_ _) | (with_reducible refine Below.drew ?_) | (with_reducible refine Below.setCell ?_ ?_ _) | (with_reducible refine below_via (by assumption) ?_ ?_) | (with_reducible refine below_via (later_below _) ?_ ?_) | (with_reducible exact Nat.le_refl _) | omega | (simp; omega) | (simp; done)))⟩

theorem r3tok_any : Calls Tryd.prog 29 #[.string s, .int .i64 i, .int .i64 ln] w fun e w' => e = .returned (r3V i ln (tokT (s.data.toList.drop i))) ∧ Below w.heap.size w w' := by
  have htok : tokT (s.data.toList.drop i) = if letB (s[i]'hi) then wordT (s.data.toList.drop i) else if digB (s[i]'hi) then numberT (s.data.toList.drop i) else if (s[i]'hi).toNat = 39 ∨ (s[i]'hi).toNat = 34 then stringT (s[i]'hi) (s.data.toList.drop (i + 1)) else symbolT (s.data.toList.drop i) := by
    have hdr := drop_get s i hi
    conv => lhs; rw [hdr]
    unfold tokT
    simp only []
    rw [← hdr]
  rw [htok]
  by_cases h1 : letB (s[i]'hi) = true
  · rw [if_pos h1]; exact r3tok_word s i ln w hi hs h1
  · rw [if_neg h1]
    have h1' : letB (s[i]'hi) = false := by simpa using h1
    by_cases h2 : digB (s[i]'hi) = true
    · rw [if_pos h2]; exact r3tok_number s i ln w hi hs h1' h2
    · rw [if_neg h2]
      have h2' : digB (s[i]'hi) = false := by simpa using h2
      by_cases h3 : (s[i]'hi).toNat = 39 ∨ (s[i]'hi).toNat = 34
      · rw [if_pos h3]; exact r3tok_string s i ln w hi hs h1' h2' h3
      · rw [if_neg h3]; exact r3tok_symbol s i ln w hi hs h1' h2' h3
end
end Go.Proofs.YtgjeljhodflbgaaDoor
