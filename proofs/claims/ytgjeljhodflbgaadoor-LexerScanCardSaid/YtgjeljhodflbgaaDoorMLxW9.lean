/- The lexer's escapes. -/
import Derived.Test.YtgjeljhodflbgaaDoorMLxC
namespace Go.Proofs.YtgjeljhodflbgaaDoor
open Go.RowKit Go.Instr
set_option linter.unusedVariables false

/-- What an escape hands back. -/
def escV (s : ByteArray) (i : Nat) (x : Int × Nat × Nat) : Value := if x.1 = 0 then .tuple #[.int .u8 x.2.1, .int .i64 ((i + 1 + x.2.2 : Nat) : Int), .int .i64 0] else .tuple #[.int .u8 0, .int .i64 0, .int .i64 x.1]
theorem escV_ok {s : ByteArray} {i b n : Nat} {x : Int × Nat × Nat} (h : x = (0, b, n)) : escV s i x = .tuple #[.int .u8 b, .int .i64 ((i + 1 + n : Nat) : Int), .int .i64 0] := by rw [h]; rfl
theorem escV_err {s : ByteArray} {i : Nat} {e : Int} {x : Int × Nat × Nat} (h : x = (e, 0, 0)) (he : e ≠ 0) : escV s i x = .tuple #[.int .u8 0, .int .i64 0, .int .i64 e] := by rw [h]; exact if_neg he

section
variable (s : ByteArray) (i : Nat)
theorem esc_at (h : i + 1 < s.size) : s.data.toList.drop (i + 1) = s[i + 1]'h :: s.data.toList.drop (i + 2) := drop_get s (i + 1) h
theorem esc_end (h : s.size ≤ i + 1) : escT (s.data.toList.drop (i + 1)) = (4, 0, 0) := by rw [List.drop_eq_nil_of_le (by simpa using h)]; rfl
variable (h : i + 1 < s.size)
include h
theorem esc_n (hc : (s[i + 1]'h).toNat = 110) : escT (s.data.toList.drop (i + 1)) = (0, 10, 1) := by
  rw [esc_at s i h]; unfold escT; simp only []; rw [if_pos hc]
theorem esc_t (hc : (s[i + 1]'h).toNat = 116) : escT (s.data.toList.drop (i + 1)) = (0, 9, 1) := by
  rw [esc_at s i h]; unfold escT; simp only []; rw [if_neg (by omega), if_pos hc]
theorem esc_q (hc : (s[i + 1]'h).toNat = 92 ∨ (s[i + 1]'h).toNat = 39 ∨ (s[i + 1]'h).toNat = 34) : escT (s.data.toList.drop (i + 1)) = (0, (s[i + 1]'h).toNat, 1) := by
  rw [esc_at s i h]; unfold escT; simp only []; rw [if_neg (by omega), if_neg (by omega), if_pos hc]
theorem esc_x (hc : (s[i + 1]'h).toNat = 120) : escT (s.data.toList.drop (i + 1)) = if 2 ≤ spanN hexB (s.data.toList.drop (i + 2)) then (0, valN 16 ((s.data.toList.drop (i + 2)).take 2), 3) else (4, 0, 0) := by
  rw [esc_at s i h]; unfold escT; simp only []; rw [if_neg (by omega), if_neg (by omega), if_neg (by omega), if_pos hc]
theorem esc_d (h0 : (s[i + 1]'h).toNat ≠ 110) (h1 : (s[i + 1]'h).toNat ≠ 116) (h2 : ¬ ((s[i + 1]'h).toNat = 92 ∨ (s[i + 1]'h).toNat = 39 ∨ (s[i + 1]'h).toNat = 34)) (h3 : (s[i + 1]'h).toNat ≠ 120) (hd : digB (s[i + 1]'h) = true) :
    escT (s.data.toList.drop (i + 1)) = if 255 < valN 10 ((s.data.toList.drop (i + 1)).take (min (spanN digB (s.data.toList.drop (i + 1))) 3)) then (6, 0, 0) else (0, valN 10 ((s.data.toList.drop (i + 1)).take (min (spanN digB (s.data.toList.drop (i + 1))) 3)), min (spanN digB (s.data.toList.drop (i + 1))) 3) := by
  rw [esc_at s i h]; unfold escT; simp only []; rw [if_neg h0, if_neg h1, if_neg h2, if_neg h3, if_pos hd]
theorem esc_no (h0 : (s[i + 1]'h).toNat ≠ 110) (h1 : (s[i + 1]'h).toNat ≠ 116) (h2 : ¬ ((s[i + 1]'h).toNat = 92 ∨ (s[i + 1]'h).toNat = 39 ∨ (s[i + 1]'h).toNat = 34)) (h3 : (s[i + 1]'h).toNat ≠ 120) (hd : digB (s[i + 1]'h) = false) :
    escT (s.data.toList.drop (i + 1)) = (4, 0, 0) := by
  rw [esc_at s i h]; unfold escT; simp only []; rw [if_neg h0, if_neg h1, if_neg h2, if_neg h3, if_neg (by rw [hd]; simp)]
end
theorem quote_dec : ∀ c : Fin 256, decide (0 ≤ Lib.indexByte [92, 39, 34] (UInt8.ofNat c.val)) = decide (c.val = 92 ∨ c.val = 39 ∨ c.val = 34) := by decide +kernel
theorem quote_is (c : UInt8) : decide (0 ≤ Lib.indexByte (⟨#[92, 39, 34]⟩ : ByteArray).data.toList c) = decide (c.toNat = 92 ∨ c.toNat = 39 ∨ c.toNat = 34) := by
  have := quote_dec ⟨c.toNat, UInt8.toNat_lt c⟩
  simpa using this
/-- A byte that stands for itself behind a backslash. -/
def qteB (c : UInt8) : Bool := decide (c.toNat = 92 ∨ c.toNat = 39 ∨ c.toNat = 34)
theorem quotes_any (w : World) : Calls Tryd.prog 57 #[.string ⟨#[92, 39, 34]⟩] w fun e w' => (∃ v, e = .returned v ∧ IsTest w' v qteB) ∧ Below w.heap.size w w' :=
  (one_any ⟨#[92, 39, 34]⟩ w).mono fun _ _ ⟨⟨v, he, hv⟩, hb⟩ => ⟨⟨v, he, hv.ext quote_is⟩, hb⟩

theorem hex_dec : ∀ c : Fin 256, hexB (UInt8.ofNat c.val) = true → 48 ≤ c.val ∧ c.val ≤ 102 ∧ hexV (UInt8.ofNat c.val) ≤ 15 := by decide +kernel
theorem hex_bd3 {c : UInt8} (h : hexB c = true) : 48 ≤ c.toNat ∧ c.toNat ≤ 102 ∧ hexV c ≤ 15 := by
  have := hex_dec ⟨c.toNat, UInt8.toNat_lt c⟩ (by simpa using h)
  simpa using this
theorem hex_bd {c : UInt8} (h : hexB c = true) : 48 ≤ c.toNat ∧ c.toNat ≤ 102 := ⟨(hex_bd3 h).1, (hex_bd3 h).2.1⟩
theorem dig_bd {c : UInt8} (h : digB c = true) : 48 ≤ c.toNat ∧ c.toNat ≤ 102 := by
  unfold digB at h
  simp at h
  omega
theorem hex_two {l : List UInt8} (hl : l.length = 2) (h : ∀ c ∈ l, hexB c = true) : valN 16 l ≤ 255 := by
  match l, hl with
  | [x, y], _ =>
    have h1 := (hex_bd3 (h x (by simp))).2.2
    have h2 := (hex_bd3 (h y (by simp))).2.2
    show (0 * 16 + hexV x) * 16 + hexV y ≤ _
    omega
theorem IsTest.ask {w : World} {v : Value} {p : UInt8 → Bool} (h : IsTest w v p) {c : UInt8} {b : Bool} (hp : p c = b) : ∃ g lb, v = .func (.func g) #[] lb ∧ (∀ args u, (callFunc g args).run Tryd.prog u = .ok (.enter g args) u) ∧
    Hid (∀ (W : World), Below w.heap.size w W → Calls Tryd.prog g (#[.int .u8 c.toNat] ++ lb) W fun e W' => e = .returned (.bool b) ∧ Below W.heap.size W W') := by
  obtain ⟨g, lb, h1, h2, h3⟩ := h
  exact ⟨g, lb, h1, h2, fun W hb => by rw [← hp]; exact h3 W c hb⟩
set_option maxHeartbeats 4000000 in
set_option maxRecDepth 100000 in
theorem escape_any (s : ByteArray) (i : Nat) (w : World) (hi : i < s.size) (hs : s.size ≤ 1000000000) :
    Calls Tryd.prog 65 #[.string s, .int .i64 i] w fun e w' => e = .returned (escV s i (escT (s.data.toList.drop (i + 1)))) ∧ Below w.heap.size w w' := by
  by_cases hend : i + 1 < s.size
  · obtain ⟨c, hc⟩ : ∃ c, s[i + 1]'hend = c := ⟨_, rfl⟩
    have HC := Lib.hid hc
    have HQ := Lib.hid (quotes_any)
    have hne : ((i : Int) + 1 == (s.size : Int)) = false := by simp; omega
    have hlt := UInt8.toNat_lt c
    by_cases h110 : c.toNat = 110
    · have HE := Lib.hid (escV_ok (s := s) (i := i) (esc_n s i hend (by rw [hc]; exact h110)))
      have b1 : ((c.toNat : Int) == 110) = true := by simp; omega
      go_enter Tryd.func65, Tryd.ntmps65
      go_wp2
      go_returns
      exact ⟨by rw [HE.out]; go_num, Below.refl _ _⟩
    · have b1 : ((c.toNat : Int) == 110) = false := by simp; omega
      by_cases h116 : c.toNat = 116
      · have HE := Lib.hid (escV_ok (s := s) (i := i) (esc_t s i hend (by rw [hc]; exact h116)))
        have b2 : ((c.toNat : Int) == 116) = true := by simp; omega
        go_enter Tryd.func65, Tryd.ntmps65
        go_wp2
        go_returns
        exact ⟨by rw [HE.out]; go_num, Below.refl _ _⟩
      · have b2 : ((c.toNat : Int) == 116) = false := by simp; omega
        by_cases hq : c.toNat = 92 ∨ c.toNat = 39 ∨ c.toNat = 34
        · have HE := Lib.hid (escV_ok (s := s) (i := i) (esc_q s i hend (by rw [hc]; exact hq)))
          have HT : Hid (qteB c = true) := by show _ = _; unfold qteB; simpa using hq
          clear hq h110 h116
          go_enter Tryd.func65, Tryd.ntmps65
          go_wp2_with fail
          refine (HQ.out _).mono ?_
          rintro e w1 ⟨⟨v, rfl, hv⟩, hb1⟩
          obtain ⟨g, lb, rfl, hg, HV⟩ := hv.ask HT.out
          have hs1 := hb1.size
          go_wp2_with (go_at_fn g; (with_reducible refine (HV.out _ (Below.refl _ _)).mono ?_); rintro e w2 ⟨rfl, hb2⟩)
          go_returns
          have HC2 := HC.out
          refine ⟨?_, ?_⟩
          · rw [HE.out, HC2]; go_num
          · exact hb1.trans (hb2.mono hs1)
        · have HT : Hid (qteB c = false) := by show _ = _; unfold qteB; simpa using hq
          by_cases hx : c.toNat = 120
          · have b4 : ((c.toNat : Int) == 120) = true := by simp; omega
            have hsp := spanN_le hexB (s.data.toList.drop (i + 2))
            simp at hsp
            have hEX := esc_x s i hend (by rw [hc]; exact hx)
            obtain ⟨n, hn⟩ : ∃ n, spanN hexB (s.data.toList.drop (i + 2)) = n := ⟨_, rfl⟩
            rw [hn] at hsp hEX
            have HSP : Hid (∀ (w' : World) (v : Value), IsTest w' v hexB → Calls Tryd.prog 31 #[.string s, .int .i64 ((i : Int) + 1 + 1), v] w' fun e w'' => e = .returned (.int .i64 ((i : Int) + 2 + (n : Int))) ∧ Below w'.heap.size w' w'') := fun w' v hv => by
              have h0 := span_any s (i + 2) v hexB w' (by omega) (by omega) hv
              have e1 : ((i + 2 : Nat) : Int) = (i : Int) + 1 + 1 := by omega
              have e2 : ((spanI hexB s (i + 2) : Nat) : Int) = (i : Int) + 2 + (n : Int) := by unfold spanI; rw [hn]; omega
              rw [e1, e2] at h0
              exact h0
            clear hq h110 h116 hx
            by_cases h2 : 2 ≤ n
            · rw [if_pos h2] at hEX
              have HE := Lib.hid (escV_ok (s := s) (i := i) hEX)
              have hD := span_all (p := hexB) (l := s.data.toList.drop (i + 2)) (k := 2) (by omega)
              have hX := ext_take s (i + 2) 2 (by omega)
              have hV := hex_two (by rw [List.length_take, List.length_drop]; simp; omega) hD
              have HVL : Hid (∀ w', Calls Tryd.prog 84 #[.string (s.extract (i + 1 + 1) (i + 4)), .int .i64 16] w' fun e w'' => e = .returned (.int .i64 (valN 16 ((s.data.toList.drop (i + 2)).take 2))) ∧ w' = w'') := fun w' => by
                have h0 := value_any (s.extract (i + 2) (i + 2 + 2)) 16 w' (by rw [ext_size _ _ _ (by omega)]; omega) (by omega) (by rw [hX]; exact fun d hd => hex_bd (hD d hd))
                rw [hX] at h0
                exact h0
              obtain ⟨V, hVe⟩ : ∃ V, valN 16 ((s.data.toList.drop (i + 2)).take 2) = V := ⟨_, rfl⟩
              rw [hVe] at HE HVL hV
              have hmin : min ((i : Int) + 2 + (n : Int)) ((i : Int) + 1 + 3) = (i : Int) + 4 := by omega
              have hn4 : (i : Int) + 4 ≤ (s.size : Int) := by omega
              have ht4 : ((i : Int) + 4).toNat = i + 4 := by omega
              clear hEX hn hD hX hVe
              go_enter Tryd.func65, Tryd.ntmps65
              go_wp2_with fail
              refine (HQ.out _).mono ?_
              rintro e w1 ⟨⟨v, rfl, hv⟩, hb1⟩
              obtain ⟨g, lb, rfl, hg, HV⟩ := hv.ask HT.out
              have hs1 := hb1.size
              go_wp2_with (go_at_fn g; (with_reducible refine (HV.out _ (Below.refl _ _)).mono ?_); rintro e w2 ⟨rfl, hb2⟩)
              have B2 : Hid (Below w.heap.size w w2) := hb1.trans (hb2.mono hs1)
              clear hb1 hb2 HV hg hv hs1
              refine (hexadecimal_any _).mono ?_
              rintro e w3 ⟨⟨v3, rfl, hv3⟩, hb3⟩
              have H3 := Lib.hid hv3; clear hv3
              have B3 : Hid (Below w.heap.size w w3) := B2.out.trans (hb3.mono B2.out.size)
              clear hb3
              go_wp2_with fail
              refine (HSP.out _ _ H3.out).mono ?_
              rintro e w4 ⟨rfl, hb4⟩
              have B4 : Hid (Below w.heap.size w w4) := B3.out.trans (hb4.mono B3.out.size)
              clear hb4 H3 B3
              go_wp2_with (first | (go_at_call 84; (with_reducible refine (HVL.out _).mono ?_); rintro e w5 ⟨rfl, rfl⟩))
              go_returns
              refine ⟨?_, B4.out⟩
              rw [HE.out]; go_num
            · rw [if_neg h2] at hEX
              have HE := Lib.hid (escV_err (s := s) (i := i) hEX (by decide))
              have hmin : min ((i : Int) + 2 + (n : Int)) ((i : Int) + 1 + 3) = (i : Int) + 2 + (n : Int) := by omega
              clear hEX hn
              go_enter Tryd.func65, Tryd.ntmps65
              go_wp2_with fail
              refine (HQ.out _).mono ?_
              rintro e w1 ⟨⟨v, rfl, hv⟩, hb1⟩
              obtain ⟨g, lb, rfl, hg, HV⟩ := hv.ask HT.out
              have hs1 := hb1.size
              go_wp2_with (go_at_fn g; (with_reducible refine (HV.out _ (Below.refl _ _)).mono ?_); rintro e w2 ⟨rfl, hb2⟩)
              have B2 : Hid (Below w.heap.size w w2) := hb1.trans (hb2.mono hs1)
              clear hb1 hb2 HV hg hv hs1
              refine (hexadecimal_any _).mono ?_
              rintro e w3 ⟨⟨v3, rfl, hv3⟩, hb3⟩
              have H3 := Lib.hid hv3; clear hv3
              have B3 : Hid (Below w.heap.size w w3) := B2.out.trans (hb3.mono B2.out.size)
              clear hb3
              go_wp2_with fail
              refine (HSP.out _ _ H3.out).mono ?_
              rintro e w4 ⟨rfl, hb4⟩
              have B4 : Hid (Below w.heap.size w w4) := B3.out.trans (hb4.mono B3.out.size)
              clear hb4 H3 B3
              go_wp2_with fail
              go_returns
              refine ⟨?_, B4.out⟩
              rw [HE.out]; rfl
          · have b4 : ((c.toNat : Int) == 120) = false := by simp; omega
            cases hdg : digB c
            · have HE := Lib.hid (escV_err (s := s) (i := i) (esc_no s i hend (by rw [hc]; exact h110) (by rw [hc]; exact h116) (by rw [hc]; exact hq) (by rw [hc]; exact hx) (by rw [hc]; exact hdg)) (by decide))
              have HDG := Lib.hid hdg
              clear hq h110 h116 hx hdg
              go_enter Tryd.func65, Tryd.ntmps65
              go_wp2_with fail
              refine (HQ.out _).mono ?_
              rintro e w1 ⟨⟨v, rfl, hv⟩, hb1⟩
              obtain ⟨g, lb, rfl, hg, HV⟩ := hv.ask HT.out
              have hs1 := hb1.size
              go_wp2_with (go_at_fn g; (with_reducible refine (HV.out _ (Below.refl _ _)).mono ?_); rintro e w2 ⟨rfl, hb2⟩)
              have B2 : Hid (Below w.heap.size w w2) := hb1.trans (hb2.mono hs1)
              clear hb1 hb2 HV hg hv hs1
              refine (digits_any _).mono ?_
              rintro e w3 ⟨⟨v3, rfl, hv3⟩, hb3⟩
              obtain ⟨g3, lb3, rfl, hg3, HV3⟩ := hv3.ask HDG.out
              have B3 : Hid (Below w.heap.size w w3) := B2.out.trans (hb3.mono B2.out.size)
              clear hb3
              go_wp2_with (go_at_fn g3; (with_reducible refine (HV3.out _ (Below.refl _ _)).mono ?_); rintro e w4 ⟨rfl, hb4⟩)
              go_returns
              refine ⟨?_, B3.out.trans (hb4.mono B3.out.size)⟩
              rw [HE.out]; rfl
            · have hEX := esc_d s i hend (by rw [hc]; exact h110) (by rw [hc]; exact h116) (by rw [hc]; exact hq) (by rw [hc]; exact hx) (by rw [hc]; exact hdg)
              have HDG := Lib.hid hdg
              have hsp := spanN_le digB (s.data.toList.drop (i + 1))
              simp at hsp
              have hsp1 : 1 ≤ spanN digB (s.data.toList.drop (i + 1)) := by rw [esc_at s i hend, hc, spanN_yes hdg]; omega
              have hD0 := fun k hk => span_all (p := digB) (l := s.data.toList.drop (i + 1)) (k := k) hk
              obtain ⟨n, hn⟩ : ∃ n, spanN digB (s.data.toList.drop (i + 1)) = n := ⟨_, rfl⟩
              rw [hn] at hsp hsp1 hEX hD0
              obtain ⟨m, hm⟩ : ∃ m, min n 3 = m := ⟨_, rfl⟩
              rw [hm] at hEX
              have hD := hD0 m (by omega)
              have hX := ext_take s (i + 1) m (by omega)
              have HSP : Hid (∀ (w' : World) (v : Value), IsTest w' v digB → Calls Tryd.prog 31 #[.string s, .int .i64 ((i : Int) + 1), v] w' fun e w'' => e = .returned (.int .i64 ((i : Int) + 1 + (n : Int))) ∧ Below w'.heap.size w' w'') := fun w' v hv => by
                have h0 := span_any s (i + 1) v digB w' (by omega) (by omega) hv
                have e2 : ((spanI digB s (i + 1) : Nat) : Int) = (i : Int) + 1 + (n : Int) := by unfold spanI; rw [hn]; omega
                rw [e2] at h0
                exact h0
              have HVL : Hid (∀ w', Calls Tryd.prog 84 #[.string (s.extract (i + 1) (i + 1 + m)), .int .i64 10] w' fun e w'' => e = .returned (.int .i64 (valN 10 ((s.data.toList.drop (i + 1)).take m))) ∧ w' = w'') := fun w' => by
                have h0 := value_any (s.extract (i + 1) (i + 1 + m)) 10 w' (by rw [ext_size _ _ _ (by omega)]; omega) (by omega) (by rw [hX]; exact fun d hd => dig_bd (hD d hd))
                rw [hX] at h0
                exact h0
              obtain ⟨V, hVe⟩ : ∃ V, valN 10 ((s.data.toList.drop (i + 1)).take m) = V := ⟨_, rfl⟩
              rw [hVe] at HVL hEX
              have hmin : min ((i : Int) + 1 + (n : Int)) ((i : Int) + 1 + 3) = (i : Int) + 1 + (m : Int) := by omega
              have hn4 : (i : Int) + 1 + (m : Int) ≤ (s.size : Int) := by omega
              have hn5 : (i : Int) + 1 ≤ (i : Int) + 1 + (m : Int) := by omega
              have ht4 : ((i : Int) + 1 + (m : Int)).toNat = i + 1 + m := by omega
              clear hn hD hD0 hX hVe hm hq h110 h116 hx hdg
              by_cases h255 : 255 < V
              · rw [if_pos h255] at hEX
                have HE := Lib.hid (escV_err (s := s) (i := i) hEX (by decide))
                clear hEX
                go_enter Tryd.func65, Tryd.ntmps65
                go_wp2_with fail
                refine (HQ.out _).mono ?_
                rintro e w1 ⟨⟨v, rfl, hv⟩, hb1⟩
                obtain ⟨g, lb, rfl, hg, HV⟩ := hv.ask HT.out
                have hs1 := hb1.size
                go_wp2_with (go_at_fn g; (with_reducible refine (HV.out _ (Below.refl _ _)).mono ?_); rintro e w2 ⟨rfl, hb2⟩)
                have B2 : Hid (Below w.heap.size w w2) := hb1.trans (hb2.mono hs1)
                clear hb1 hb2 HV hg hv hs1
                refine (digits_any _).mono ?_
                rintro e w3 ⟨⟨v3, rfl, hv3⟩, hb3⟩
                obtain ⟨g3, lb3, rfl, hg3, HV3⟩ := hv3.ask HDG.out
                have B3 : Hid (Below w.heap.size w w3) := B2.out.trans (hb3.mono B2.out.size)
                clear hb3
                go_wp2_with (go_at_fn g3; (with_reducible refine (HV3.out _ (Below.refl _ _)).mono ?_); rintro e w4 ⟨rfl, hb4⟩)
                have B4 : Hid (Below w.heap.size w w4) := B3.out.trans (hb4.mono B3.out.size)
                clear hb4 HV3 hv3 hg3
                refine (digits_any _).mono ?_
                rintro e w5 ⟨⟨v5, rfl, hv5⟩, hb5⟩
                have H5 := Lib.hid hv5; clear hv5
                have B5 : Hid (Below w.heap.size w w5) := B4.out.trans (hb5.mono B4.out.size)
                clear hb5
                go_wp2_with fail
                refine (HSP.out _ _ H5.out).mono ?_
                rintro e w6 ⟨rfl, hb6⟩
                have B6 : Hid (Below w.heap.size w w6) := B5.out.trans (hb6.mono B5.out.size)
                clear hb6 H5
                go_wp2_with (first | (go_at_call 84; (with_reducible refine (HVL.out _).mono ?_); rintro e w7 ⟨rfl, rfl⟩))
                go_returns
                refine ⟨?_, B6.out⟩
                rw [HE.out]; rfl
              · rw [if_neg h255] at hEX
                have HE := Lib.hid (escV_ok (s := s) (i := i) hEX)
                clear hEX
                go_enter Tryd.func65, Tryd.ntmps65
                go_wp2_with fail
                refine (HQ.out _).mono ?_
                rintro e w1 ⟨⟨v, rfl, hv⟩, hb1⟩
                obtain ⟨g, lb, rfl, hg, HV⟩ := hv.ask HT.out
                have hs1 := hb1.size
                go_wp2_with (go_at_fn g; (with_reducible refine (HV.out _ (Below.refl _ _)).mono ?_); rintro e w2 ⟨rfl, hb2⟩)
                have B2 : Hid (Below w.heap.size w w2) := hb1.trans (hb2.mono hs1)
                clear hb1 hb2 HV hg hv hs1
                refine (digits_any _).mono ?_
                rintro e w3 ⟨⟨v3, rfl, hv3⟩, hb3⟩
                obtain ⟨g3, lb3, rfl, hg3, HV3⟩ := hv3.ask HDG.out
                have B3 : Hid (Below w.heap.size w w3) := B2.out.trans (hb3.mono B2.out.size)
                clear hb3
                go_wp2_with (go_at_fn g3; (with_reducible refine (HV3.out _ (Below.refl _ _)).mono ?_); rintro e w4 ⟨rfl, hb4⟩)
                have B4 : Hid (Below w.heap.size w w4) := B3.out.trans (hb4.mono B3.out.size)
                clear hb4 HV3 hv3 hg3
                refine (digits_any _).mono ?_
                rintro e w5 ⟨⟨v5, rfl, hv5⟩, hb5⟩
                have H5 := Lib.hid hv5; clear hv5
                have B5 : Hid (Below w.heap.size w w5) := B4.out.trans (hb5.mono B4.out.size)
                clear hb5
                go_wp2_with fail
                refine (HSP.out _ _ H5.out).mono ?_
                rintro e w6 ⟨rfl, hb6⟩
                have B6 : Hid (Below w.heap.size w w6) := B5.out.trans (hb6.mono B5.out.size)
                clear hb6 H5
                go_wp2_with (first | (go_at_call 84; (with_reducible refine (HVL.out _).mono ?_); rintro e w7 ⟨rfl, rfl⟩))
                go_returns
                refine ⟨?_, B6.out⟩
                rw [HE.out]; go_num
  · have HE := Lib.hid (escV_err (s := s) (i := i) (esc_end s i (by omega)) (by decide))
    have hne : ((i : Int) + 1 == (s.size : Int)) = true := by simp; omega
    go_enter Tryd.func65, Tryd.ntmps65
    go_wp2
    go_returns
    exact ⟨by rw [HE.out]; rfl, Below.refl _ _⟩
end Go.Proofs.YtgjeljhodflbgaaDoor
