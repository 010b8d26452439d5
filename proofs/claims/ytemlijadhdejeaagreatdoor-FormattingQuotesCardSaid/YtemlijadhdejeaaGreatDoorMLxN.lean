/- Names and keywords: of the program and of the reference. -/
import Derived.Test.YtemlijadhdejeaaGreatDoorMLxC
import Derived.Test.YtemlijadhdejeaaGreatDoorMLxP
namespace Go.Proofs.YtemlijadhdejeaaGreatDoor
open Go.RowKit Go.Instr
set_option linter.unusedVariables false

theorem IsTest.askA {w : World} {v : Value} {p : UInt8 → Bool} {c : UInt8} {q : Bool} (h : IsTest w v p) (hq : p c = q) :
    ∃ g lb, v = .func (.func g) #[] lb ∧ (∀ args u, (callFunc g args).run Tryz.prog u = .ok (.enter g args) u) ∧ Hid (∀ W : World, Below w.heap.size w W → Calls Tryz.prog g (#[.int .u8 c.toNat] ++ lb) W fun e W' => e = .returned (.bool q) ∧ Below W.heap.size W W') := by
  obtain ⟨g, lb, h1, h2, h3⟩ := h
  exact ⟨g, lb, h1, h2, fun W hb => by have := h3 W c hb; rw [hq] at this; exact this⟩
theorem byte_empty {s : ByteArray} (h : s.size = 0) : s = ⟨#[]⟩ := by
  have e : s.data.toList = [] := List.eq_nil_of_length_eq_zero (by simpa using h)
  exact mkS_ext e
theorem size_len (s : ByteArray) : s.data.toList.length = s.size := by simp
theorem drop_all (s : ByteArray) (h : 0 < s.size) : s.data.toList = s[0]'h :: s.data.toList.drop 1 := by
  have := drop_get s 0 h
  simpa using this

set_option maxHeartbeats 1000000 in
theorem r3key_yes (s : ByteArray) (h : keyB s.data.toList = true) (w : World) : Calls Tryz.prog 59 #[.string s] w fun e w' => e = .returned (.bool true) ∧ w = w' := by
  have hs : s.toList = s.data.toList := Lib.toList_data s
  unfold keyB at h
  rw [List.contains_iff_mem] at h
  obtain ⟨l, hl⟩ : ∃ l, s.data.toList = l := ⟨_, rfl⟩
  rw [hl] at h hs
  have HS := Lib.hid hl
  clear hl
  unfold keys at h
  simp only [List.mem_cons, List.not_mem_nil, or_false] at h
  rcases h with rfl | rfl | rfl | rfl | rfl | rfl | rfl | rfl | rfl | rfl | rfl | rfl | rfl | rfl | rfl | rfl | rfl | rfl | rfl | rfl | rfl | rfl
  all_goals
    go_enter Tryz.func59, Tryz.ntmps59
    go_wp2
    go_returns
    exact ⟨rfl, rfl⟩
set_option maxHeartbeats 1000000 in
theorem r3key_no (s : ByteArray) (h : keyB s.data.toList = false) (w : World) : Calls Tryz.prog 59 #[.string s] w fun e w' => e = .returned (.bool false) ∧ w = w' := by
  have hs : s.toList = s.data.toList := Lib.toList_data s
  unfold keyB keys at h
  simp only [List.contains_cons, List.contains_nil, Bool.or_false, Bool.or_eq_false_iff] at h
  rw [← hs] at h
  obtain ⟨k0, k1, k2, k3, k4, k5, k6, k7, k8, k9, k10, k11, k12, k13, k14, k15, k16, k17, k18, k19, k20, k21⟩ := h
  clear hs
  go_enter Tryz.func59, Tryz.ntmps59
  go_wp2
  go_returns
  exact ⟨rfl, rfl⟩
theorem r3key_any (s : ByteArray) (w : World) : Calls Tryz.prog 59 #[.string s] w fun e w' => e = .returned (.bool (keyB s.data.toList)) ∧ w = w' := by
  cases h : keyB s.data.toList
  · exact r3key_no s h w
  · exact r3key_yes s h w
theorem r3digit_any (c : UInt8) (w : World) : Calls Tryz.prog 60 #[.int .u8 c.toNat] w fun e w' => e = .returned (.bool (digB c)) ∧ w = w' := by
  by_cases h1 : 48 ≤ c.toNat
  · have a1 := decide_eq_true h1
    by_cases h2 : c.toNat ≤ 57
    · have a2 := decide_eq_true h2
      have d1 : decide ((48 : Int) ≤ (c.toNat : Int)) = true := by simp; omega
      have d2 : decide (((c.toNat : Nat) : Int) ≤ 57) = true := by simp; omega
      clear h1 h2
      rw [show digB c = true by unfold digB; rw [a1, a2]; rfl]
      go_enter Tryz.func60, Tryz.ntmps60
      go_wp2
      go_returns
      exact ⟨rfl, rfl⟩
    · have a2 := decide_eq_false h2
      have d1 : decide ((48 : Int) ≤ (c.toNat : Int)) = true := by simp; omega
      have d2 : decide (((c.toNat : Nat) : Int) ≤ 57) = false := by simp; omega
      clear h1 h2
      rw [show digB c = false by unfold digB; rw [a1, a2]; rfl]
      go_enter Tryz.func60, Tryz.ntmps60
      go_wp2
      go_returns
      exact ⟨rfl, rfl⟩
  · have a1 := decide_eq_false h1
    have d1 : decide ((48 : Int) ≤ (c.toNat : Int)) = false := by simp; omega
    clear h1
    rw [show digB c = false by unfold digB; rw [a1]; rfl]
    go_enter Tryz.func60, Tryz.ntmps60
    go_wp2
    go_returns
    exact ⟨rfl, rfl⟩
theorem letB_of (c : UInt8) : letB c = (decide (97 ≤ c.toNat) && decide (c.toNat ≤ 122) || (decide (65 ≤ c.toNat) && decide (c.toNat ≤ 90) || decide (c.toNat = 95))) := rfl
set_option maxHeartbeats 1000000 in
theorem r3letter_any (c : UInt8) (w : World) : Calls Tryz.prog 57 #[.int .u8 c.toNat] w fun e w' => e = .returned (.bool (letB c)) ∧ w = w' := by
  have hall : (97 ≤ c.toNat ∧ c.toNat ≤ 122) ∨ (65 ≤ c.toNat ∧ c.toNat ≤ 90) ∨ c.toNat = 95 ∨ c.toNat < 65 ∨ (90 < c.toNat ∧ c.toNat < 97 ∧ c.toNat ≠ 95) ∨ 122 < c.toNat := by omega
  rcases hall with h | h | h | h | h | h
  · have HR : Hid (letB c = true) := by show _ = _; rw [letB_of]; simp; omega
    have d1 : decide ((97 : Int) ≤ (c.toNat : Int)) = true := by simp; omega
    have d2 : decide (((c.toNat : Nat) : Int) ≤ 122) = true := by simp; omega
    clear h
    rw [HR.out]
    go_enter Tryz.func57, Tryz.ntmps57
    go_wp2
    go_returns
    exact ⟨rfl, rfl⟩
  · have HR : Hid (letB c = true) := by show _ = _; rw [letB_of]; simp; omega
    have d1 : decide ((97 : Int) ≤ (c.toNat : Int)) = false := by simp; omega
    have d3 : decide ((65 : Int) ≤ (c.toNat : Int)) = true := by simp; omega
    have d4 : decide (((c.toNat : Nat) : Int) ≤ 90) = true := by simp; omega
    clear h
    rw [HR.out]
    go_enter Tryz.func57, Tryz.ntmps57
    go_wp2
    go_returns
    exact ⟨rfl, rfl⟩
  · have HR : Hid (letB c = true) := by show _ = _; rw [letB_of]; simp; omega
    have d1 : decide ((97 : Int) ≤ (c.toNat : Int)) = false := by simp; omega
    have d3 : decide ((65 : Int) ≤ (c.toNat : Int)) = true := by simp; omega
    have d4 : decide (((c.toNat : Nat) : Int) ≤ 90) = false := by simp; omega
    have e95 : ((c.toNat : Int) == 95) = true := by simp; omega
    clear h
    rw [HR.out]
    go_enter Tryz.func57, Tryz.ntmps57
    go_wp2
    go_returns
    exact ⟨rfl, rfl⟩
  · have HR : Hid (letB c = false) := by show _ = _; rw [letB_of]; simp; omega
    have d1 : decide ((97 : Int) ≤ (c.toNat : Int)) = false := by simp; omega
    have d3 : decide ((65 : Int) ≤ (c.toNat : Int)) = false := by simp; omega
    have e95 : ((c.toNat : Int) == 95) = false := by simp; omega
    clear h
    rw [HR.out]
    go_enter Tryz.func57, Tryz.ntmps57
    go_wp2
    go_returns
    exact ⟨rfl, rfl⟩
  · have HR : Hid (letB c = false) := by show _ = _; rw [letB_of]; simp; omega
    have d1 : decide ((97 : Int) ≤ (c.toNat : Int)) = false := by simp; omega
    have d3 : decide ((65 : Int) ≤ (c.toNat : Int)) = true := by simp; omega
    have d4 : decide (((c.toNat : Nat) : Int) ≤ 90) = false := by simp; omega
    have e95 : ((c.toNat : Int) == 95) = false := by simp; omega
    clear h
    rw [HR.out]
    go_enter Tryz.func57, Tryz.ntmps57
    go_wp2
    go_returns
    exact ⟨rfl, rfl⟩
  · have HR : Hid (letB c = false) := by show _ = _; rw [letB_of]; simp; omega
    have d1 : decide ((97 : Int) ≤ (c.toNat : Int)) = true := by simp; omega
    have d2 : decide (((c.toNat : Nat) : Int) ≤ 122) = false := by simp; omega
    have d3 : decide ((65 : Int) ≤ (c.toNat : Int)) = true := by simp; omega
    have d4 : decide (((c.toNat : Nat) : Int) ≤ 90) = false := by simp; omega
    have e95 : ((c.toNat : Int) == 95) = false := by simp; omega
    clear h
    rw [HR.out]
    go_enter Tryz.func57, Tryz.ntmps57
    go_wp2
    go_returns
    exact ⟨rfl, rfl⟩
theorem r3word_any (c : UInt8) (w : World) : Calls Tryz.prog 58 #[.int .u8 c.toNat] w fun e w' => e = .returned (.bool (wordB c)) ∧ w = w' := by
  have HL := Lib.hid (r3letter_any c)
  have HD := Lib.hid (r3digit_any c)
  have hw : wordB c = (letB c || digB c) := rfl
  rw [hw]
  clear hw
  obtain ⟨L, hL⟩ : ∃ L, letB c = L := ⟨_, rfl⟩
  obtain ⟨D, hD⟩ : ∃ D, digB c = D := ⟨_, rfl⟩
  rw [hL] at HL ⊢
  rw [hD] at HD ⊢
  clear hL hD
  cases L
  all_goals
    go_enter Tryz.func58, Tryz.ntmps58
    go_wp2_with (first | (go_at_call 57; (with_reducible refine (HL.out _).mono ?_); rintro e w1 ⟨rfl, rfl⟩) | (go_at_call 60; (with_reducible refine (HD.out _).mono ?_); rintro e w1 ⟨rfl, rfl⟩))
    go_returns
    exact ⟨rfl, rfl⟩
theorem all_from (s : ByteArray) (k : Nat) (h : k < s.size) : (s.data.toList.drop k).all wordB = (wordB (s[k]'h) && (s.data.toList.drop (k + 1)).all wordB) := by rw [drop_get s k h, List.all_cons]

end Go.Proofs.YtemlijadhdejeaaGreatDoor
