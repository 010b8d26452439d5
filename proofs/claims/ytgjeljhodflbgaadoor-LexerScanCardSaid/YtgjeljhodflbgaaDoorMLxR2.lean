/- The reference's escapes. -/
import Derived.Test.YtgjeljhodflbgaaDoorMLxR1
import Derived.Test.YtgjeljhodflbgaaDoorMLxW9
namespace Go.Proofs.YtgjeljhodflbgaaDoor
open Go.RowKit Go.Instr
set_option linter.unusedVariables false

theorem span2 {a b : UInt8} {t : List UInt8} : 2 ≤ spanN hexB (a :: b :: t) ↔ (hexB a = true ∧ hexB b = true) := by
  cases ha : hexB a
  · rw [spanN_no ha]; simp
  · rw [spanN_yes ha]
    cases hb : hexB b
    · rw [spanN_no hb]; simp
    · rw [spanN_yes hb]; simp
theorem span1 {l : List UInt8} (h : l.length ≤ 1) : ¬ 2 ≤ spanN hexB l := by have := spanN_le hexB l; omega
theorem span_hit {p : UInt8 → Bool} {l : List UInt8} {j : Nat} (h : j ≤ spanN p l) (hj : ∀ c, l[j]? = some c → p c = false) : spanN p l = j := by
  have hle := spanN_le p l
  by_cases hlt : j < spanN p l
  · have hm := span_all (p := p) (l := l) (k := j + 1) (by omega)
    have hjl : j < l.length := by omega
    have h1 := hj l[j] (List.getElem?_eq_getElem hjl)
    have h2 := hm l[j] (by rw [List.take_succ_eq_append_getElem hjl]; exact List.mem_append_right _ (List.mem_singleton.2 rfl))
    rw [h1] at h2; cases h2
  · omega
theorem span_go {p : UInt8 → Bool} {c : UInt8} : ∀ {l : List UInt8} {j : Nat}, j ≤ spanN p l → l[j]? = some c → p c = true → j + 1 ≤ spanN p l
  | [], j, _, h, _ => by simp at h
  | d :: l, 0, _, h, hp => by
    simp at h; subst h
    rw [spanN_yes hp]; omega
  | d :: l, j + 1, h1, h, hp => by
    cases hd : p d
    · rw [spanN_no hd] at h1; omega
    · rw [spanN_yes hd] at h1 ⊢
      have := span_go (l := l) (j := j) (by omega) (by simpa using h) hp
      omega
theorem drop_at (s : ByteArray) (i j : Nat) (h : i + j < s.size) : (s.data.toList.drop i)[j]? = some (s[i + j]'h) := by
  rw [List.getElem?_drop, List.getElem?_eq_getElem (by simpa using h)]; rfl
theorem hexV_dig {c : UInt8} (h : digB c = true) : hexV c = c.toNat - 48 ∧ 48 ≤ c.toNat ∧ c.toNat ≤ 57 := by
  unfold digB at h
  simp at h
  refine ⟨?_, h.1, h.2⟩
  unfold hexV
  rw [if_pos (by omega)]

set_option maxHeartbeats 8000000 in
set_option maxRecDepth 100000 in
theorem r3esc_any (s : ByteArray) (i : Nat) (w : World) (hi : i < s.size) (hs : s.size ≤ 1000000) :
    Calls Tryd.prog 68 #[.string s, .int .i64 i] w fun e w' => e = .returned (escV s i (escT (s.data.toList.drop (i + 1)))) ∧ Below w.heap.size w w' := by
  by_cases hend : i + 1 < s.size
  · have he1 : decide ((s.size : Int) ≤ (i : Int) + 1) = false := by simp; omega
    obtain ⟨c, hc⟩ : ∃ c, s[i + 1]'hend = c := ⟨_, rfl⟩
    have HC := Lib.hid hc
    have hlt := UInt8.toNat_lt c
    by_cases h110 : c.toNat = 110
    · have HE := Lib.hid (escV_ok (s := s) (i := i) (esc_n s i hend (by rw [hc]; exact h110)))
      have b1 : ((c.toNat : Int) == 110) = true := by simp; omega
      clear h110
      go_enter Tryd.func68, Tryd.ntmps68
      go_wp2
      go_returns
      exact ⟨by rw [HE.out]; go_num, Below.refl _ _⟩
    · have b1 : ((c.toNat : Int) == 110) = false := by simp; omega
      by_cases h116 : c.toNat = 116
      · have HE := Lib.hid (escV_ok (s := s) (i := i) (esc_t s i hend (by rw [hc]; exact h116)))
        have b2 : ((c.toNat : Int) == 116) = true := by simp; omega
        clear h110 h116
        go_enter Tryd.func68, Tryd.ntmps68
        go_wp2
        go_returns
        exact ⟨by rw [HE.out]; go_num, Below.refl _ _⟩
      · have b2 : ((c.toNat : Int) == 116) = false := by simp; omega
        by_cases hq : c.toNat = 92 ∨ c.toNat = 39 ∨ c.toNat = 34
        · have HE := Lib.hid (escV_ok (s := s) (i := i) (esc_q s i hend (by rw [hc]; exact hq)))
          rw [hc] at HE
          obtain ⟨B1, hB1⟩ : ∃ B, ((c.toNat : Int) == 92) = B := ⟨_, rfl⟩
          obtain ⟨B2, hB2⟩ : ∃ B, ((c.toNat : Int) == 39) = B := ⟨_, rfl⟩
          obtain ⟨B3, hB3⟩ : ∃ B, ((c.toNat : Int) == 34) = B := ⟨_, rfl⟩
          have hall : B1 = true ∨ (B1 = false ∧ B2 = true) ∨ (B1 = false ∧ B2 = false ∧ B3 = true) := by
            rw [← hB1, ← hB2, ← hB3]
            simp only [beq_iff_eq, beq_eq_false_iff_ne, ne_eq]
            omega
          clear hq h110 h116
          rcases hall with rfl | ⟨rfl, rfl⟩ | ⟨rfl, rfl, rfl⟩
          all_goals
            go_enter Tryd.func68, Tryd.ntmps68
            go_wp2
            go_returns
            exact ⟨by rw [HE.out]; go_num, Below.refl _ _⟩
        · have b3 : ((c.toNat : Int) == 92) = false := by simp; omega
          have b4 : ((c.toNat : Int) == 39) = false := by simp; omega
          have b5 : ((c.toNat : Int) == 34) = false := by simp; omega
          by_cases hx : c.toNat = 120
          · have b6 : ((c.toNat : Int) == 120) = true := by simp; omega
            have hEX := esc_x s i hend (by rw [hc]; exact hx)
            by_cases h3 : i + 3 < s.size
            · have he3 : decide ((s.size : Int) ≤ (i : Int) + 3) = false := by simp; omega
              have hd2 : s.data.toList.drop (i + 2) = s[i + 2]'(by omega) :: s[i + 3]'h3 :: s.data.toList.drop (i + 4) := by
                rw [drop_get s (i + 2) (by omega), drop_get s (i + 3) h3]
              obtain ⟨a, ha⟩ : ∃ a, s[i + 2]'(show i + 2 < s.size by omega) = a := ⟨_, rfl⟩
              obtain ⟨b, hb⟩ : ∃ b, s[i + 3]'h3 = b := ⟨_, rfl⟩
              rw [ha, hb] at hd2
              rw [hd2] at hEX
              have HA := Lib.hid (r3hex_any a)
              have HB := Lib.hid (r3hex_any b)
              clear hd2 hq h110 h116 hx
              by_cases hxa : hexB a = true
              · have eA : hexI a = (hexV a : Int) := by unfold hexI; rw [if_pos hxa]
                have bdA := (hex_bd3 hxa).2.2
                rw [eA] at HA
                have ba : decide ((hexV a : Int) < 0) = false := by rw [decide_eq_false_iff_not]; omega
                by_cases hxb : hexB b = true
                · have eB : hexI b = (hexV b : Int) := by unfold hexI; rw [if_pos hxb]
                  have bdB := (hex_bd3 hxb).2.2
                  rw [eB] at HB
                  have bb : decide ((hexV b : Int) < 0) = false := by rw [decide_eq_false_iff_not]; omega
                  rw [if_pos (span2.2 ⟨hxa, hxb⟩), show (a :: b :: s.data.toList.drop (i + 4)).take 2 = [a, b] from rfl, show valN 16 [a, b] = (0 * 16 + hexV a) * 16 + hexV b from rfl] at hEX
                  have HE := Lib.hid (escV_ok (s := s) (i := i) hEX)
                  clear hEX hxa hxb
                  obtain ⟨A, hA⟩ : ∃ A, hexV a = A := ⟨_, rfl⟩
                  obtain ⟨B, hB⟩ : ∃ B, hexV b = B := ⟨_, rfl⟩
                  rw [hA] at HA HE ba bdA eA
                  rw [hB] at HB HE bb bdB eB
                  clear hA hB
                  have HX : Hid (∀ c w, Calls Tryd.prog 92 #[.int .u8 (c : UInt8).toNat] w fun e w' => e = .returned (.int .i64 (hexI c)) ∧ w' = w) := fun c w => (r3hex_any c w).mono fun _ _ ⟨he, hw⟩ => ⟨he, hw.symm⟩
                  have hbA : (A : Int) ≤ 15 := by omega
                  have hbB : (B : Int) ≤ 15 := by omega
                  go_enter Tryd.func68, Tryd.ntmps68
                  go_wp2_with (first | (go_at_call 92; (first | (with_reducible refine (HA.out _).mono ?_) | (with_reducible refine (HB.out _).mono ?_)); rintro e w1 ⟨rfl, rfl⟩))
                  have e1 : IntKind.i64.wrap ((i : Int) + 2) = (i : Int) + 2 := IntWalk.i64_in _ (by omega)
                  have e2 : IntKind.i64.wrap ((i : Int) + 3) = (i : Int) + 3 := IntWalk.i64_in _ (by omega)
                  have e3 : IntKind.i64.wrap ((i : Int) + 4) = (i : Int) + 4 := IntWalk.i64_in _ (by omega)
                  have e4 : IntKind.i64.wrap (16 * (A : Int)) = 16 * (A : Int) := IntWalk.i64_in _ (by omega)
                  have e5 : IntKind.i64.wrap (16 * (A : Int) + (B : Int)) = 16 * (A : Int) + (B : Int) := IntWalk.i64_in _ (by omega)
                  have g1 : (0 : Int) ≤ (i : Int) + 2 := by omega
                  have g2 : (0 : Int) ≤ (i : Int) + 3 := by omega
                  have g3 : (i : Int) + 2 < (s.size : Int) := by omega
                  have g4 : (i : Int) + 3 < (s.size : Int) := by omega
                  have g5 : ((i : Int) + 2).toNat = i + 2 := by omega
                  have g6 : ((i : Int) + 3).toNat = i + 3 := by omega
                  go_quiet ((go_at_call 92; exact Calls.quiet_of_same (HX.out _ _)))
                  clear e1 e2 e3 e4 e5
                  go_wp2_with fail
                  go_returns
                  exact ⟨by rw [HE.out]; first | go_num | (congr 3; simp; omega), by (repeat' (first | (with_reducible exact Below.refl _ _) | (with_reducible assumption) | (with_reducible refine Below.alloc ?_ ?_ _) | (with_reducible refine Go.below_drewN ?_ _) | (with_reducible refine Below.drew ?_) | (with_reducible refine Below.setCell ?_ ?_ _) | (with_reducible refine below_via (by assumption) ?_ ?_) | (with_reducible refine below_via (later_below _) ?_ ?_) | (with_reducible exact Nat.le_refl _) | omega | (simp; omega) | (simp; done)))⟩
                · have eB : hexI b = -1 := by unfold hexI; rw [if_neg hxb]
                  rw [eB] at HB
                  rw [if_neg (fun h => hxb (span2.1 h).2)] at hEX
                  have HE := Lib.hid (escV_err (s := s) (i := i) hEX (by decide))
                  clear hEX hxa hxb eA eB
                  obtain ⟨A, hA⟩ : ∃ A, hexV a = A := ⟨_, rfl⟩
                  rw [hA] at HA ba bdA
                  clear hA
                  go_enter Tryd.func68, Tryd.ntmps68
                  go_wp2_with (first | (go_at_call 92; (first | (with_reducible refine (HA.out _).mono ?_) | (with_reducible refine (HB.out _).mono ?_)); rintro e w1 ⟨rfl, rfl⟩))
                  go_returns
                  exact ⟨by rw [HE.out]; rfl, Below.refl _ _⟩
              · have eA : hexI a = -1 := by unfold hexI; rw [if_neg hxa]
                rw [eA] at HA
                rw [if_neg (fun h => hxa (span2.1 h).1)] at hEX
                have HE := Lib.hid (escV_err (s := s) (i := i) hEX (by decide))
                clear hEX hxa eA
                go_enter Tryd.func68, Tryd.ntmps68
                go_wp2_with (first | (go_at_call 92; (first | (with_reducible refine (HA.out _).mono ?_) | (with_reducible refine (HB.out _).mono ?_)); rintro e w1 ⟨rfl, rfl⟩))
                go_returns
                exact ⟨by rw [HE.out]; rfl, Below.refl _ _⟩
            · have he3 : decide ((s.size : Int) ≤ (i : Int) + 3) = true := by simp; omega
              rw [if_neg (span1 (by rw [List.length_drop]; simp; omega))] at hEX
              have HE := Lib.hid (escV_err (s := s) (i := i) hEX (by decide))
              clear hEX hq h110 h116 hx h3
              go_enter Tryd.func68, Tryd.ntmps68
              go_wp2
              go_returns
              exact ⟨by rw [HE.out]; rfl, Below.refl _ _⟩
          · have b6 : ((c.toNat : Int) == 120) = false := by simp; omega
            have hED := esc_d s i hend (by rw [hc]; exact h110) (by rw [hc]; exact h116) (by rw [hc]; exact hq) (by rw [hc]; exact hx)
            have hEN := esc_no s i hend (by rw [hc]; exact h110) (by rw [hc]; exact h116) (by rw [hc]; exact hq) (by rw [hc]; exact hx)
            rw [hc] at hED hEN
            obtain ⟨t, ht⟩ : ∃ t, s.data.toList.drop (i + 1) = t := ⟨_, rfl⟩
            have htl : t.length = s.size - (i + 1) := by rw [← ht]; simp
            have hat : ∀ j, (h : i + 1 + j < s.size) → t[j]? = some (s[i + 1 + j]'h) := fun j h => by rw [← ht]; exact drop_at s (i + 1) j h
            have ht0 : t[0]? = some c := by rw [hat 0 hend, ← hc]
            rw [ht] at hED hEN ⊢
            have HED := Lib.hid hED
            have HEN := Lib.hid hEN
            have HAT := Lib.hid hat
            have HT0 := Lib.hid ht0
            have HDG := Lib.hid r3digit_any
            clear hED hEN hat ht ht0 hq h110 h116 hx
            go_enter Tryd.func68, Tryd.ntmps68
            go_wp2_with fail
            go_loop [8, 9] (fun u v => ∃ j K N : Nat, j ≤ 3 ∧ i + 1 + j ≤ K ∧ K ≤ i + 1 + j ∧ K ≤ s.size ∧ N ≤ 1000 ∧ u = .int .i64 N ∧ v = .int .i64 K ∧ Hid (N = valN 10 (t.take j)) ∧ Hid (j ≤ spanN digB t) ∧ Hid (j = 1 → N ≤ 9) ∧ Hid (j = 2 → N ≤ 99)) (fun _ v => s.size - (intOf v).toNat)
            case atStart => exact ⟨0, i + 1, 0, by omega, by omega, by omega, by omega, by omega, rfl, by go_num, rfl, Nat.zero_le _, fun h => by omega, fun h => by omega⟩
            case round =>
              obtain ⟨j, K, N, hj, hK1, hK2, hKs, hN, rfl, rfl, HN, HJ, HN1, HN2⟩ := hrel
              have hKe : K = i + 1 + j := by omega
              by_cases hgo : ∃ h : K < s.size, j < 3 ∧ digB (s[K]'h) = true
              · obtain ⟨hlt2, hj3, hdg⟩ := hgo
                have hxt : t[j]? = some (s[K]'hlt2) := by subst hKe; exact HAT.out j hlt2
                obtain ⟨x, hx⟩ : ∃ x, s[K]'hlt2 = x := ⟨_, rfl⟩
                rw [hx] at hxt hdg
                obtain ⟨v1, v2, v3⟩ := hexV_dig hdg
                have HD := Lib.hid (HDG.out x)
                rw [hdg] at HD
                have HS : Hid (N * 10 + (x.toNat - 48) = valN 10 (t.take (j + 1))) := by
                  show _ = _
                  have hjl : j < t.length := (List.getElem?_eq_some_iff.1 hxt).1
                  have hxe : t[j] = x := (List.getElem?_eq_some_iff.1 hxt).2
                  rw [List.take_succ_eq_append_getElem hjl, valN_snoc, hxe, v1, ← HN.out]
                have HJ2 := Lib.hid (span_go HJ.out hxt hdg)
                have bl : decide ((K : Int) < (i : Int) + 4) = true := by simp; omega
                have q1 := HN1.out
                have q2 := HN2.out
                have q0 : j = 0 → N = 0 := fun h => by rw [HN.out, h]; rfl
                have hNn : N * 10 + (x.toNat - 48) ≤ 1000 := by omega
                have hn1 : Hid (j + 1 = 1 → N * 10 + (x.toNat - 48) ≤ 9) := fun h => by have := q0 (by omega); omega
                have hn2 : Hid (j + 1 = 2 → N * 10 + (x.toNat - 48) ≤ 99) := fun h => by have := q1 (by omega); omega
                have w48 : (48 : Int) ≤ (x.toNat : Int) := by omega
                have w57 : (x.toNat : Int) ≤ 57 := by omega
                clear hxt hdg v1 q0 q1 q2 hKe HED HEN
                go_wp2_with (first | (go_at_call 33; (with_reducible refine (HD.out _).mono ?_); rintro e w1 ⟨rfl, rfl⟩))
                refine ⟨⟨j + 1, K + 1, N * 10 + (x.toNat - 48), by omega, by omega, by omega, by omega, hNn, ?_, by go_num, HS.out, HJ2.out, hn1.out, hn2.out⟩, by simp [intOf]; omega⟩
                congr 1; omega
              · -- the loop ends
                have hexit : s.size ≤ K ∨ (K < s.size ∧ 3 ≤ j) ∨ (j < 3 ∧ ∃ h : K < s.size, digB (s[K]'h) = false) := by
                  by_cases h1 : K < s.size
                  · by_cases h2 : j < 3
                    · refine .inr (.inr ⟨h2, h1, ?_⟩)
                      cases hd : digB (s[K]'h1)
                      · rfl
                      · exact absurd ⟨h1, h2, hd⟩ hgo
                    · exact .inr (.inl ⟨h1, by omega⟩)
                  · exact .inl (by omega)
                have hsp : min (spanN digB t) 3 = j := by
                  have h0 := HJ.out
                  rcases hexit with h | h | ⟨h2, h3, h4⟩
                  · have := spanN_le digB t; omega
                  · omega
                  · have : spanN digB t = j := span_hit h0 (fun d hd => by
                      have h5 : t[j]? = some (s[K]'h3) := by subst hKe; exact HAT.out j h3
                      rw [h5] at hd; cases hd; exact h4)
                    omega
                have hres : (j = 0 ∧ escT t = (4, 0, 0)) ∨ (0 < j ∧ 255 < N ∧ escT t = (6, 0, 0)) ∨ (0 < j ∧ N ≤ 255 ∧ escT t = (0, N, j)) := by
                  cases hd : digB c
                  · have hz := span_hit (p := digB) (l := t) (j := 0) (Nat.zero_le _) (fun d hd' => by rw [HT0.out] at hd'; cases hd'; exact hd)
                    exact .inl ⟨by omega, HEN.out hd⟩
                  · have hz := span_go (p := digB) (l := t) (j := 0) (Nat.zero_le _) HT0.out hd
                    have h1 := HED.out hd
                    rw [hsp, ← HN.out] at h1
                    by_cases h255 : 255 < N
                    · rw [if_pos h255] at h1; exact .inr (.inl ⟨by omega, h255, h1⟩)
                    · rw [if_neg h255] at h1; exact .inr (.inr ⟨by omega, by omega, h1⟩)
                clear hgo hsp HED HEN HAT HT0
                have HEX := Lib.hid hexit
                clear hexit
                rcases hres with ⟨rfl, h⟩ | ⟨h0, h1, h⟩ | ⟨h0, h1, h⟩
                · have HE := Lib.hid (escV_err (s := s) (i := i) h (by decide))
                  clear h
                  have bk : ((K : Int) == (i : Int) + 1) = true := by simp; omega
                  have bl : decide ((K : Int) < (i : Int) + 4) = true := by simp; omega
                  clear hKe
                  rcases HEX.out with h | ⟨-, h⟩ | ⟨h2, h3, h4⟩
                  · omega
                  · omega
                  · have HD := Lib.hid (HDG.out (s[K]'h3))
                    rw [h4] at HD
                    clear h4
                    go_wp2_with (first | (go_at_call 33; (with_reducible refine (HD.out _).mono ?_); rintro e w1 ⟨rfl, rfl⟩))
                    go_returns
                    exact ⟨by rw [HE.out]; rfl, Below.refl _ _⟩
                · have HE := Lib.hid (escV_err (s := s) (i := i) h (by decide))
                  have bk : ((K : Int) == (i : Int) + 1) = false := by rw [beq_eq_false_iff_ne]; omega
                  have bn : decide (255 < (N : Int)) = true := by simp; omega
                  clear h hKe
                  rcases HEX.out with h | ⟨h, h2⟩ | ⟨h2, h3, h4⟩
                  · go_wp2_with fail
                    go_returns
                    exact ⟨by rw [HE.out]; rfl, Below.refl _ _⟩
                  · have bl : decide ((K : Int) < (i : Int) + 4) = false := by simp; omega
                    go_wp2_with fail
                    go_returns
                    exact ⟨by rw [HE.out]; rfl, Below.refl _ _⟩
                  · have HD := Lib.hid (HDG.out (s[K]'h3))
                    rw [h4] at HD
                    have bl : decide ((K : Int) < (i : Int) + 4) = true := by simp; omega
                    clear h4
                    go_wp2_with (first | (go_at_call 33; (with_reducible refine (HD.out _).mono ?_); rintro e w1 ⟨rfl, rfl⟩))
                    go_returns
                    exact ⟨by rw [HE.out]; rfl, Below.refl _ _⟩
                · have HE := Lib.hid (escV_ok (s := s) (i := i) h)
                  rw [← hKe] at HE
                  have bk : ((K : Int) == (i : Int) + 1) = false := by rw [beq_eq_false_iff_ne]; omega
                  have bn : decide (255 < (N : Int)) = false := by simp; omega
                  clear h hKe
                  rcases HEX.out with h | ⟨h, h2⟩ | ⟨h2, h3, h4⟩
                  · go_wp2_with fail
                    go_returns
                    exact ⟨by rw [HE.out]; rfl, Below.refl _ _⟩
                  · have bl : decide ((K : Int) < (i : Int) + 4) = false := by simp; omega
                    go_wp2_with fail
                    go_returns
                    exact ⟨by rw [HE.out]; rfl, Below.refl _ _⟩
                  · have HD := Lib.hid (HDG.out (s[K]'h3))
                    rw [h4] at HD
                    have bl : decide ((K : Int) < (i : Int) + 4) = true := by simp; omega
                    clear h4
                    go_wp2_with (first | (go_at_call 33; (with_reducible refine (HD.out _).mono ?_); rintro e w1 ⟨rfl, rfl⟩))
                    go_returns
                    exact ⟨by rw [HE.out]; rfl, Below.refl _ _⟩
  · have he1 : decide ((s.size : Int) ≤ (i : Int) + 1) = true := by simp; omega
    have HE := Lib.hid (escV_err (s := s) (i := i) (esc_end s i (by omega)) (by decide))
    go_enter Tryd.func68, Tryd.ntmps68
    go_wp2
    go_returns
    exact ⟨by rw [HE.out]; rfl, Below.refl _ _⟩
end Go.Proofs.YtgjeljhodflbgaaDoor
