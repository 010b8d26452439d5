/- The law TreeLeaves holds: for every input it returns true, and each argument reads as it did, where the library's tables read as its text lays them. No other conditions. -/
import Derived.Test.YtplphejillkdeaaGreatDoorMTrTi
import Derived.Test.YtplphejillkdeaaGreatDoorMTrAw
import Derived.Test.YtplphejillkdeaaGreatDoorMNumW16
import Derived.Test.YtplphejillkdeaaGreatDoorMNumC
import Derived.Test.YtplphejillkdeaaGreatDoorMPlainD
import Derived.Test.YtplphejillkdeaaGreatDoorMLaid
import Derived.Test.YtplphejillkdeaaGreatDoorCards
import Derived.Test.YtplphejillkdeaaGreatDoorTie
namespace Go.Proofs.YtplphejillkdeaaGreatDoor.treeLeaves
open Go.ChangeShapes Go.WideShapes Go.ChangeAt Go.RowKit Go.Joins
open Go.ChangeMaps (open_string shut_string)
set_option linter.unusedVariables false

theorem name_long {s : ByteArray} (h : 40 < s.size) : nameB s.data.toList = false := by
  have hl : s.data.toList.length = s.size := by simp
  cases hs : s.data.toList with
  | nil => rfl
  | cons u v =>
    rw [nameB_cons, decide_eq_false (by rw [← hs, hl]; omega)]
    rfl
theorem fix9_size (P Q : Int) : (mkS (fixL P Q 9).1).size ≤ 9223372036854775807 := by
  have e : (mkS (fixL P Q 9).1).size = (fixL P Q 9).1.length := by simp [mkS, ByteArray.size]
  rw [e]
  unfold fixL
  split
  · rename_i h
    rw [Bool.and_eq_true] at h
    have := fix_len (n := 9) h.1 (Nat.le_refl _)
    show (decL (decide (P < 0)) (fixT P.natAbs Q.toNat (9 : Int).toNat).1 (fixT P.natAbs Q.toNat (9 : Int).toNat).2).length ≤ _
    rw [show (9 : Int).toNat = 9 from rfl]
    omega
  · exact Nat.zero_le _
/-- Either the decimal or the number of it is wrong, or all is right. -/
theorem leaf_cases {P Q : Int} {D : ByteArray} {H P2 Q2 G2 E4 : Int} (hD : mkS (fixL P Q 9).1 = D) (hH : (fixL P Q 9).2 = H) (h2 : parseL D.data.toList = (P2, Q2, G2))
    (h4 : (if (vldB P Q && (decide (0 ≤ P) && (1000000000 : Int) % Q == 0)) = true then (0 : Int) else 4) = E4) :
    (H ≠ 0 ∧ E4 ≠ 0) ∨ (H = 0 ∧ P2 = P ∧ Q2 = Q ∧ G2 = 0 ∧ 0 ≤ P ∧ E4 = 0) ∨ (H = 0 ∧ (G2 ≠ 0 ∨ (G2 = 0 ∧ (P2 ≠ P ∨ (P2 = P ∧ (Q2 ≠ Q ∨ (Q2 = Q ∧ P < 0)))))) ∧ E4 ≠ 0) := by
  cases hv : vldB P Q with
  | false =>
    refine .inl ⟨?_, ?_⟩
    · rw [← hH]; unfold fixL; rw [hv, Bool.false_and, if_neg (by decide)]; decide
    · rw [← h4, hv, Bool.false_and, if_neg (by decide)]; decide
  | true =>
    have e : fixL P Q 9 = (decL (decide (P < 0)) (fixT P.natAbs Q.toNat 9).1 (fixT P.natAbs Q.toNat 9).2, 0) := by
      unfold fixL
      rw [hv]
      rfl
    have hH0 : H = 0 := by rw [← hH, e]
    have hDl : D.data.toList = decL (decide (P < 0)) (fixT P.natAbs Q.toNat 9).1 (fixT P.natAbs Q.toNat 9).2 := by
      rw [← hD, e]
      simp [mkS]
    rw [hDl] at h2
    rw [hv, Bool.true_and] at h4
    by_cases hP : 0 ≤ P
    · rw [decide_eq_true hP, Bool.true_and] at h4
      have hl := leaf_law hv hP
      rw [h2] at hl
      by_cases hq : (1000000000 : Int) % Q = 0
      · have h3 := hl.2 hq
        injection h3 with a b
        injection b with b c
        refine .inr (.inl ⟨hH0, a, b, c, hP, ?_⟩)
        rw [← h4, hq]; rfl
      · refine .inr (.inr ⟨hH0, ?_, ?_⟩)
        · by_cases a : G2 = 0
          · by_cases b : P2 = P
            · by_cases c : Q2 = Q
              · exact absurd (hl.1 (by rw [a, b, c])) hq
              · exact .inr ⟨a, .inr ⟨b, .inl c⟩⟩
            · exact .inr ⟨a, .inl b⟩
          · exact .inl a
        · rw [← h4, if_neg (by simpa using hq)]; decide
    · rw [decide_eq_false hP, Bool.false_and, if_neg (by decide)] at h4
      refine .inr (.inr ⟨hH0, ?_, by rw [← h4]; decide⟩)
      by_cases a : G2 = 0
      · by_cases b : P2 = P
        · by_cases c : Q2 = Q
          · exact .inr ⟨a, .inr ⟨b, .inr ⟨c, by omega⟩⟩⟩
          · exact .inr ⟨a, .inr ⟨b, .inl c⟩⟩
        · exact .inr ⟨a, .inl b⟩
      · exact .inl a

set_option maxHeartbeats 8000000 in
set_option maxRecDepth 100000 in
theorem walk (s : ByteArray) (ws : s.size ≤ maxLen) (w : World) (hT : Tabs w) :
    Calls Tryz.prog 3 #[.string s] w fun e w' => e = .returned (.bool true) ∧ Below w.heap.size w w' := by
  have hs1 : s.size ≤ 9223372036854775807 := by unfold maxLen at ws; omega
  have HT := Lib.hid hT
  clear hT
  have i7 : I64 7 := by unfold I64; omega
  have i4 : I64 4 := by unfold I64; omega
  have i0 : I64 0 := by unfold I64; omega
  by_cases hl : 2000 < s.size
  · have d0 : decide ((2000 : Int) < s.size) = true := decide_eq_true (by omega)
    go_enter Tryz.func3, Tryz.ntmps3
    go_wp2_with (first | (go_at_call 5; (with_reducible refine (HX.out _).mono ?_); rintro e w1 ⟨rfl, hb⟩; (refine mem hb ?_; intro N hN hz hc hf; (try simp at hN); subst hN)) | (go_at_call 6; (with_reducible refine (HN.out _).mono ?_); rintro e w1 ⟨rfl, hb⟩; (refine mem hb ?_; intro N hN hz hc hf; (try simp at hN); subst hN)) | (go_at_call 7; (with_reducible refine (HP.out _).mono ?_); rintro e w1 ⟨rfl, hb⟩; (refine mem hb ?_; intro N hN hz hc hf; (try simp at hN); subst hN)) | (go_at_call 8; (with_reducible refine (HF.out _ ?_).mono ?_); (focus ((repeat' (first | (with_reducible exact Below.refl _ _) | (with_reducible assumption) | (with_reducible refine Below.alloc ?_ ?_ _) | (with_reducible refine below_drewN ?_ _) | (with_reducible refine Below.drew ?_) | (with_reducible refine Below.setCell ?_ ?_ _) | (with_reducible refine below_via (by assumption) ?_ ?_) | (with_reducible refine below_via (later_below _) ?_ ?_) | (with_reducible exact Nat.le_refl _) | omega | (simp; omega) | (simp; done))))); rintro e w1 ⟨rfl, hb⟩; (refine mem hb ?_; intro N hN hz hc hf; (try simp at hN); subst hN)) | (go_at_call 7; (with_reducible refine (HP2.out _).mono ?_); rintro e w1 ⟨rfl, hb⟩; (refine mem hb ?_; intro N hN hz hc hf; (try simp at hN); subst hN)) | (go_at_call 5; (with_reducible refine (HX4.out _).mono ?_); rintro e w1 ⟨rfl, hb⟩; (refine mem hb ?_; intro N hN hz hc hf; (try simp at hN); subst hN)) | (go_at_call 4; (with_reducible refine (awake_any _).mono ?_); rintro e w1 ⟨rfl, hb⟩; (refine mem hb ?_; intro N hN hz hc hf; (try simp at hN); subst hN)))
    go_returns
    refine ⟨by first | rfl | simp, ?_⟩
    (repeat' (first | (with_reducible exact Below.refl _ _) | (with_reducible assumption) | (with_reducible refine Below.alloc ?_ ?_ _) | (with_reducible refine below_drewN ?_ _) | (with_reducible refine Below.drew ?_) | (with_reducible refine Below.setCell ?_ ?_ _) | (with_reducible refine below_via (by assumption) ?_ ?_) | (with_reducible refine below_via (later_below _) ?_ ?_) | (with_reducible exact Nat.le_refl _) | omega | (simp; omega) | (simp; done)))
  · have d0 : decide ((2000 : Int) < s.size) = false := decide_eq_false (by omega)
    obtain ⟨EN, hEN⟩ : ∃ e, exE (leafX 7 0 0 s) = e := ⟨_, rfl⟩
    obtain ⟨NB, hNB⟩ : ∃ e, nameB s.data.toList = e := ⟨_, rfl⟩
    have HX : Hid (∀ W, Calls Tryz.prog 5 #[.agg #[.int .i64 7, .int .i64 0, .int .i64 0, .int .i64 0, .int .i64 0, .string s, .slice none 0 0, .slice none 0 0]] W fun e w' => e = .returned (.int .i64 EN) ∧ Below W.heap.size W w') := fun W => hEN ▸ expr_any (leafX 7 0 0 s) W (ok_leaf 7 0 0 s) (in_leaf 7 0 0 s W _ i7 i0 i0 hs1)
    have HN : Hid (∀ W, Calls Tryz.prog 6 #[.string s] W fun e w' => e = .returned (.bool NB) ∧ Below W.heap.size W w') := fun W => hNB ▸ name_any s W hs1
    obtain ⟨⟨P, Q, G⟩, hPQ⟩ : ∃ t, parseL s.data.toList = t := ⟨_, rfl⟩
    have HP : Hid (∀ W, Calls Tryz.prog 7 #[.string s] W fun e w' => e = .returned (.tuple #[.agg #[.int .i64 P, .int .i64 Q], .int .i64 G]) ∧ Below W.heap.size W w') := fun W => by have h := parse_any s hs1 W; rw [hPQ] at h; exact h
    have hbd := parse_bd s.data.toList
    rw [hPQ] at hbd
    obtain ⟨p1, p2⟩ := hbd
    dsimp only at p1 p2
    have hqb := parse_qbd s.data.toList
    rw [hPQ] at hqb
    obtain ⟨q1, q2⟩ := hqb
    dsimp only at q1 q2
    have hlen : s.size < 2001 := by omega
    have hT1 : ((EN == 0) != NB) = false ∧ ((EN != 0) = false ∨ ((EN != 0) = true ∧ ((EN == 3) != decide ((40 : Int) < s.size)) = false)) := by
      rw [← hEN, leaf_exE, ce_name, hNB]
      by_cases h40 : 40 < s.size
      · have hn : NB = false := by rw [← hNB]; exact name_long h40
        rw [if_pos h40, hn, decide_eq_true (by omega)]; decide
      · rw [if_neg h40, decide_eq_false (by omega)]
        cases NB <;> decide
    obtain ⟨t1, t2⟩ := hT1
    obtain ⟨A0, hA0⟩ : ∃ b, (EN == 0) = b := ⟨_, rfl⟩
    rw [hA0] at t1
    obtain rfl : A0 = NB := by cases A0 <;> cases NB <;> first | rfl | cases t1
    have hA1 : (EN != 0) = !A0 := by unfold bne; rw [hA0]
    obtain ⟨A3, hA3⟩ : ∃ b, (EN == 3) = b := ⟨_, rfl⟩
    obtain ⟨A4, hA4⟩ : ∃ b, decide ((40 : Int) < s.size) = b := ⟨_, rfl⟩
    rw [hA3, hA4, hA1] at t2
    have HEN := Lib.hid hEN
    clear hEN hNB t1
    by_cases hG : G = 0
    · subst hG
      obtain ⟨E4, hE4⟩ : ∃ e, exE (leafX 4 P Q ⟨#[]⟩) = e := ⟨_, rfl⟩
      have HX4 : Hid (∀ W, Calls Tryz.prog 5 #[.agg #[.int .i64 4, .int .i64 0, .int .i64 0, .int .i64 P, .int .i64 Q, .string ⟨#[]⟩, .slice none 0 0, .slice none 0 0]] W fun e w' => e = .returned (.int .i64 E4) ∧ Below W.heap.size W w') := fun W => hE4 ▸ expr_any (leafX 4 P Q ⟨#[]⟩) W (ok_leaf 4 P Q ⟨#[]⟩) (in_leaf 4 P Q ⟨#[]⟩ W _ i4 ⟨by omega, by omega⟩ ⟨by omega, by omega⟩ (by decide))
      rw [leaf_exE, ce_num] at hE4
      obtain ⟨D, hD⟩ : ∃ S, mkS (fixL P Q 9).1 = S := ⟨_, rfl⟩
      obtain ⟨H, hH⟩ : ∃ E, (fixL P Q 9).2 = E := ⟨_, rfl⟩
      have HF : Hid (∀ W, Below w.heap.size w W → Calls Tryz.prog 8 #[.agg #[.int .i64 P, .int .i64 Q], .int .i64 9] W fun e w' => e = .returned (.tuple #[.string D, .int .i64 H]) ∧ Below W.heap.size W w') := fun W hW => by have h := fixed_any P Q 9 W (by omega) (by omega) (HT.out.later hW); unfold strE at h; rw [hD, hH] at h; exact h
      obtain ⟨⟨P2, Q2, G2⟩, hPQ2⟩ : ∃ t, parseL D.data.toList = t := ⟨_, rfl⟩
      have hDs : D.size ≤ 9223372036854775807 := by rw [← hD]; exact fix9_size P Q
      have HP2 : Hid (∀ W, Calls Tryz.prog 7 #[.string D] W fun e w' => e = .returned (.tuple #[.agg #[.int .i64 P2, .int .i64 Q2], .int .i64 G2]) ∧ Below W.heap.size W w') := fun W => by have h := parse_any D hDs W; rw [hPQ2] at h; exact h
      have hfin := leaf_cases hD hH hPQ2 hE4
      clear hD hH hE4 hPQ2 hPQ HEN
      rcases hfin with ⟨z1, z2⟩ | ⟨rfl, rfl, rfl, rfl, z1, z2⟩ | ⟨rfl, z1, z2⟩
      · have z3 : (E4 == 0) = false := by simpa using z2
        have z4 : (H == 0) = false := by simpa using z1
        cases A0 with
        | true =>
          clear t2
          go_enter Tryz.func3, Tryz.ntmps3
          go_wp2_with (first | (go_at_call 5; (with_reducible refine (HX.out _).mono ?_); rintro e w1 ⟨rfl, hb⟩; (refine mem hb ?_; intro N hN hz hc hf; (try simp at hN); subst hN)) | (go_at_call 6; (with_reducible refine (HN.out _).mono ?_); rintro e w1 ⟨rfl, hb⟩; (refine mem hb ?_; intro N hN hz hc hf; (try simp at hN); subst hN)) | (go_at_call 7; (with_reducible refine (HP.out _).mono ?_); rintro e w1 ⟨rfl, hb⟩; (refine mem hb ?_; intro N hN hz hc hf; (try simp at hN); subst hN)) | (go_at_call 8; (with_reducible refine (HF.out _ ?_).mono ?_); (focus ((repeat' (first | (with_reducible exact Below.refl _ _) | (with_reducible assumption) | (with_reducible refine Below.alloc ?_ ?_ _) | (with_reducible refine below_drewN ?_ _) | (with_reducible refine Below.drew ?_) | (with_reducible refine Below.setCell ?_ ?_ _) | (with_reducible refine below_via (by assumption) ?_ ?_) | (with_reducible refine below_via (later_below _) ?_ ?_) | (with_reducible exact Nat.le_refl _) | omega | (simp; omega) | (simp; done))))); rintro e w1 ⟨rfl, hb⟩; (refine mem hb ?_; intro N hN hz hc hf; (try simp at hN); subst hN)) | (go_at_call 7; (with_reducible refine (HP2.out _).mono ?_); rintro e w1 ⟨rfl, hb⟩; (refine mem hb ?_; intro N hN hz hc hf; (try simp at hN); subst hN)) | (go_at_call 5; (with_reducible refine (HX4.out _).mono ?_); rintro e w1 ⟨rfl, hb⟩; (refine mem hb ?_; intro N hN hz hc hf; (try simp at hN); subst hN)) | (go_at_call 4; (with_reducible refine (awake_any _).mono ?_); rintro e w1 ⟨rfl, hb⟩; (refine mem hb ?_; intro N hN hz hc hf; (try simp at hN); subst hN)))
          go_returns
          refine ⟨by first | rfl | simp, ?_⟩
          (repeat' (first | (with_reducible exact Below.refl _ _) | (with_reducible assumption) | (with_reducible refine Below.alloc ?_ ?_ _) | (with_reducible refine below_drewN ?_ _) | (with_reducible refine Below.drew ?_) | (with_reducible refine Below.setCell ?_ ?_ _) | (with_reducible refine below_via (by assumption) ?_ ?_) | (with_reducible refine below_via (later_below _) ?_ ?_) | (with_reducible exact Nat.le_refl _) | omega | (simp; omega) | (simp; done)))
        | false =>
          obtain rfl : A3 = A4 := by rcases t2 with h | ⟨-, h⟩; cases h; cases A3 <;> cases A4 <;> first | rfl | cases h
          go_enter Tryz.func3, Tryz.ntmps3
          go_wp2_with (first | (go_at_call 5; (with_reducible refine (HX.out _).mono ?_); rintro e w1 ⟨rfl, hb⟩; (refine mem hb ?_; intro N hN hz hc hf; (try simp at hN); subst hN)) | (go_at_call 6; (with_reducible refine (HN.out _).mono ?_); rintro e w1 ⟨rfl, hb⟩; (refine mem hb ?_; intro N hN hz hc hf; (try simp at hN); subst hN)) | (go_at_call 7; (with_reducible refine (HP.out _).mono ?_); rintro e w1 ⟨rfl, hb⟩; (refine mem hb ?_; intro N hN hz hc hf; (try simp at hN); subst hN)) | (go_at_call 8; (with_reducible refine (HF.out _ ?_).mono ?_); (focus ((repeat' (first | (with_reducible exact Below.refl _ _) | (with_reducible assumption) | (with_reducible refine Below.alloc ?_ ?_ _) | (with_reducible refine below_drewN ?_ _) | (with_reducible refine Below.drew ?_) | (with_reducible refine Below.setCell ?_ ?_ _) | (with_reducible refine below_via (by assumption) ?_ ?_) | (with_reducible refine below_via (later_below _) ?_ ?_) | (with_reducible exact Nat.le_refl _) | omega | (simp; omega) | (simp; done))))); rintro e w1 ⟨rfl, hb⟩; (refine mem hb ?_; intro N hN hz hc hf; (try simp at hN); subst hN)) | (go_at_call 7; (with_reducible refine (HP2.out _).mono ?_); rintro e w1 ⟨rfl, hb⟩; (refine mem hb ?_; intro N hN hz hc hf; (try simp at hN); subst hN)) | (go_at_call 5; (with_reducible refine (HX4.out _).mono ?_); rintro e w1 ⟨rfl, hb⟩; (refine mem hb ?_; intro N hN hz hc hf; (try simp at hN); subst hN)) | (go_at_call 4; (with_reducible refine (awake_any _).mono ?_); rintro e w1 ⟨rfl, hb⟩; (refine mem hb ?_; intro N hN hz hc hf; (try simp at hN); subst hN)))
          go_returns
          refine ⟨by first | rfl | simp, ?_⟩
          (repeat' (first | (with_reducible exact Below.refl _ _) | (with_reducible assumption) | (with_reducible refine Below.alloc ?_ ?_ _) | (with_reducible refine below_drewN ?_ _) | (with_reducible refine Below.drew ?_) | (with_reducible refine Below.setCell ?_ ?_ _) | (with_reducible refine below_via (by assumption) ?_ ?_) | (with_reducible refine below_via (later_below _) ?_ ?_) | (with_reducible exact Nat.le_refl _) | omega | (simp; omega) | (simp; done)))
      · have z3 : (E4 == 0) = true := by simpa using z2
        have z4 := decide_eq_true z1
        cases A0 with
        | true =>
          clear t2
          go_enter Tryz.func3, Tryz.ntmps3
          go_wp2_with (first | (go_at_call 5; (with_reducible refine (HX.out _).mono ?_); rintro e w1 ⟨rfl, hb⟩; (refine mem hb ?_; intro N hN hz hc hf; (try simp at hN); subst hN)) | (go_at_call 6; (with_reducible refine (HN.out _).mono ?_); rintro e w1 ⟨rfl, hb⟩; (refine mem hb ?_; intro N hN hz hc hf; (try simp at hN); subst hN)) | (go_at_call 7; (with_reducible refine (HP.out _).mono ?_); rintro e w1 ⟨rfl, hb⟩; (refine mem hb ?_; intro N hN hz hc hf; (try simp at hN); subst hN)) | (go_at_call 8; (with_reducible refine (HF.out _ ?_).mono ?_); (focus ((repeat' (first | (with_reducible exact Below.refl _ _) | (with_reducible assumption) | (with_reducible refine Below.alloc ?_ ?_ _) | (with_reducible refine below_drewN ?_ _) | (with_reducible refine Below.drew ?_) | (with_reducible refine Below.setCell ?_ ?_ _) | (with_reducible refine below_via (by assumption) ?_ ?_) | (with_reducible refine below_via (later_below _) ?_ ?_) | (with_reducible exact Nat.le_refl _) | omega | (simp; omega) | (simp; done))))); rintro e w1 ⟨rfl, hb⟩; (refine mem hb ?_; intro N hN hz hc hf; (try simp at hN); subst hN)) | (go_at_call 7; (with_reducible refine (HP2.out _).mono ?_); rintro e w1 ⟨rfl, hb⟩; (refine mem hb ?_; intro N hN hz hc hf; (try simp at hN); subst hN)) | (go_at_call 5; (with_reducible refine (HX4.out _).mono ?_); rintro e w1 ⟨rfl, hb⟩; (refine mem hb ?_; intro N hN hz hc hf; (try simp at hN); subst hN)) | (go_at_call 4; (with_reducible refine (awake_any _).mono ?_); rintro e w1 ⟨rfl, hb⟩; (refine mem hb ?_; intro N hN hz hc hf; (try simp at hN); subst hN)))
          go_returns
          refine ⟨by first | rfl | simp, ?_⟩
          (repeat' (first | (with_reducible exact Below.refl _ _) | (with_reducible assumption) | (with_reducible refine Below.alloc ?_ ?_ _) | (with_reducible refine below_drewN ?_ _) | (with_reducible refine Below.drew ?_) | (with_reducible refine Below.setCell ?_ ?_ _) | (with_reducible refine below_via (by assumption) ?_ ?_) | (with_reducible refine below_via (later_below _) ?_ ?_) | (with_reducible exact Nat.le_refl _) | omega | (simp; omega) | (simp; done)))
        | false =>
          obtain rfl : A3 = A4 := by rcases t2 with h | ⟨-, h⟩; cases h; cases A3 <;> cases A4 <;> first | rfl | cases h
          go_enter Tryz.func3, Tryz.ntmps3
          go_wp2_with (first | (go_at_call 5; (with_reducible refine (HX.out _).mono ?_); rintro e w1 ⟨rfl, hb⟩; (refine mem hb ?_; intro N hN hz hc hf; (try simp at hN); subst hN)) | (go_at_call 6; (with_reducible refine (HN.out _).mono ?_); rintro e w1 ⟨rfl, hb⟩; (refine mem hb ?_; intro N hN hz hc hf; (try simp at hN); subst hN)) | (go_at_call 7; (with_reducible refine (HP.out _).mono ?_); rintro e w1 ⟨rfl, hb⟩; (refine mem hb ?_; intro N hN hz hc hf; (try simp at hN); subst hN)) | (go_at_call 8; (with_reducible refine (HF.out _ ?_).mono ?_); (focus ((repeat' (first | (with_reducible exact Below.refl _ _) | (with_reducible assumption) | (with_reducible refine Below.alloc ?_ ?_ _) | (with_reducible refine below_drewN ?_ _) | (with_reducible refine Below.drew ?_) | (with_reducible refine Below.setCell ?_ ?_ _) | (with_reducible refine below_via (by assumption) ?_ ?_) | (with_reducible refine below_via (later_below _) ?_ ?_) | (with_reducible exact Nat.le_refl _) | omega | (simp; omega) | (simp; done))))); rintro e w1 ⟨rfl, hb⟩; (refine mem hb ?_; intro N hN hz hc hf; (try simp at hN); subst hN)) | (go_at_call 7; (with_reducible refine (HP2.out _).mono ?_); rintro e w1 ⟨rfl, hb⟩; (refine mem hb ?_; intro N hN hz hc hf; (try simp at hN); subst hN)) | (go_at_call 5; (with_reducible refine (HX4.out _).mono ?_); rintro e w1 ⟨rfl, hb⟩; (refine mem hb ?_; intro N hN hz hc hf; (try simp at hN); subst hN)) | (go_at_call 4; (with_reducible refine (awake_any _).mono ?_); rintro e w1 ⟨rfl, hb⟩; (refine mem hb ?_; intro N hN hz hc hf; (try simp at hN); subst hN)))
          go_returns
          refine ⟨by first | rfl | simp, ?_⟩
          (repeat' (first | (with_reducible exact Below.refl _ _) | (with_reducible assumption) | (with_reducible refine Below.alloc ?_ ?_ _) | (with_reducible refine below_drewN ?_ _) | (with_reducible refine Below.drew ?_) | (with_reducible refine Below.setCell ?_ ?_ _) | (with_reducible refine below_via (by assumption) ?_ ?_) | (with_reducible refine below_via (later_below _) ?_ ?_) | (with_reducible exact Nat.le_refl _) | omega | (simp; omega) | (simp; done)))
      · have z3 : (E4 == 0) = false := by simpa using z2
        rcases z1 with z1 | ⟨rfl, z1 | ⟨rfl, z1 | ⟨rfl, z1⟩⟩⟩
        · have z4 : (G2 == 0) = false := by simpa using z1
          cases A0 with
          | true =>
            clear t2
            go_enter Tryz.func3, Tryz.ntmps3
            go_wp2_with (first | (go_at_call 5; (with_reducible refine (HX.out _).mono ?_); rintro e w1 ⟨rfl, hb⟩; (refine mem hb ?_; intro N hN hz hc hf; (try simp at hN); subst hN)) | (go_at_call 6; (with_reducible refine (HN.out _).mono ?_); rintro e w1 ⟨rfl, hb⟩; (refine mem hb ?_; intro N hN hz hc hf; (try simp at hN); subst hN)) | (go_at_call 7; (with_reducible refine (HP.out _).mono ?_); rintro e w1 ⟨rfl, hb⟩; (refine mem hb ?_; intro N hN hz hc hf; (try simp at hN); subst hN)) | (go_at_call 8; (with_reducible refine (HF.out _ ?_).mono ?_); (focus ((repeat' (first | (with_reducible exact Below.refl _ _) | (with_reducible assumption) | (with_reducible refine Below.alloc ?_ ?_ _) | (with_reducible refine below_drewN ?_ _) | (with_reducible refine Below.drew ?_) | (with_reducible refine Below.setCell ?_ ?_ _) | (with_reducible refine below_via (by assumption) ?_ ?_) | (with_reducible refine below_via (later_below _) ?_ ?_) | (with_reducible exact Nat.le_refl _) | omega | (simp; omega) | (simp; done))))); rintro e w1 ⟨rfl, hb⟩; (refine mem hb ?_; intro N hN hz hc hf; (try simp at hN); subst hN)) | (go_at_call 7; (with_reducible refine (HP2.out _).mono ?_); rintro e w1 ⟨rfl, hb⟩; (refine mem hb ?_; intro N hN hz hc hf; (try simp at hN); subst hN)) | (go_at_call 5; (with_reducible refine (HX4.out _).mono ?_); rintro e w1 ⟨rfl, hb⟩; (refine mem hb ?_; intro N hN hz hc hf; (try simp at hN); subst hN)) | (go_at_call 4; (with_reducible refine (awake_any _).mono ?_); rintro e w1 ⟨rfl, hb⟩; (refine mem hb ?_; intro N hN hz hc hf; (try simp at hN); subst hN)))
            go_returns
            refine ⟨by first | rfl | simp, ?_⟩
            (repeat' (first | (with_reducible exact Below.refl _ _) | (with_reducible assumption) | (with_reducible refine Below.alloc ?_ ?_ _) | (with_reducible refine below_drewN ?_ _) | (with_reducible refine Below.drew ?_) | (with_reducible refine Below.setCell ?_ ?_ _) | (with_reducible refine below_via (by assumption) ?_ ?_) | (with_reducible refine below_via (later_below _) ?_ ?_) | (with_reducible exact Nat.le_refl _) | omega | (simp; omega) | (simp; done)))
          | false =>
            obtain rfl : A3 = A4 := by rcases t2 with h | ⟨-, h⟩; cases h; cases A3 <;> cases A4 <;> first | rfl | cases h
            go_enter Tryz.func3, Tryz.ntmps3
            go_wp2_with (first | (go_at_call 5; (with_reducible refine (HX.out _).mono ?_); rintro e w1 ⟨rfl, hb⟩; (refine mem hb ?_; intro N hN hz hc hf; (try simp at hN); subst hN)) | (go_at_call 6; (with_reducible refine (HN.out _).mono ?_); rintro e w1 ⟨rfl, hb⟩; (refine mem hb ?_; intro N hN hz hc hf; (try simp at hN); subst hN)) | (go_at_call 7; (with_reducible refine (HP.out _).mono ?_); rintro e w1 ⟨rfl, hb⟩; (refine mem hb ?_; intro N hN hz hc hf; (try simp at hN); subst hN)) | (go_at_call 8; (with_reducible refine (HF.out _ ?_).mono ?_); (focus ((repeat' (first | (with_reducible exact Below.refl _ _) | (with_reducible assumption) | (with_reducible refine Below.alloc ?_ ?_ _) | (with_reducible refine below_drewN ?_ _) | (with_reducible refine Below.drew ?_) | (with_reducible refine Below.setCell ?_ ?_ _) | (with_reducible refine below_via (by assumption) ?_ ?_) | (with_reducible refine below_via (later_below _) ?_ ?_) | (with_reducible exact Nat.le_refl _) | omega | (simp; omega) | (simp; done))))); rintro e w1 ⟨rfl, hb⟩; (refine mem hb ?_; intro N hN hz hc hf; (try simp at hN); subst hN)) | (go_at_call 7; (with_reducible refine (HP2.out _).mono ?_); rintro e w1 ⟨rfl, hb⟩; (refine mem hb ?_; intro N hN hz hc hf; (try simp at hN); subst hN)) | (go_at_call 5; (with_reducible refine (HX4.out _).mono ?_); rintro e w1 ⟨rfl, hb⟩; (refine mem hb ?_; intro N hN hz hc hf; (try simp at hN); subst hN)) | (go_at_call 4; (with_reducible refine (awake_any _).mono ?_); rintro e w1 ⟨rfl, hb⟩; (refine mem hb ?_; intro N hN hz hc hf; (try simp at hN); subst hN)))
            go_returns
            refine ⟨by first | rfl | simp, ?_⟩
            (repeat' (first | (with_reducible exact Below.refl _ _) | (with_reducible assumption) | (with_reducible refine Below.alloc ?_ ?_ _) | (with_reducible refine below_drewN ?_ _) | (with_reducible refine Below.drew ?_) | (with_reducible refine Below.setCell ?_ ?_ _) | (with_reducible refine below_via (by assumption) ?_ ?_) | (with_reducible refine below_via (later_below _) ?_ ?_) | (with_reducible exact Nat.le_refl _) | omega | (simp; omega) | (simp; done)))
        · have z4 : (P2 == P) = false := by simpa using z1
          cases A0 with
          | true =>
            clear t2
            go_enter Tryz.func3, Tryz.ntmps3
            go_wp2_with (first | (go_at_call 5; (with_reducible refine (HX.out _).mono ?_); rintro e w1 ⟨rfl, hb⟩; (refine mem hb ?_; intro N hN hz hc hf; (try simp at hN); subst hN)) | (go_at_call 6; (with_reducible refine (HN.out _).mono ?_); rintro e w1 ⟨rfl, hb⟩; (refine mem hb ?_; intro N hN hz hc hf; (try simp at hN); subst hN)) | (go_at_call 7; (with_reducible refine (HP.out _).mono ?_); rintro e w1 ⟨rfl, hb⟩; (refine mem hb ?_; intro N hN hz hc hf; (try simp at hN); subst hN)) | (go_at_call 8; (with_reducible refine (HF.out _ ?_).mono ?_); (focus ((repeat' (first | (with_reducible exact Below.refl _ _) | (with_reducible assumption) | (with_reducible refine Below.alloc ?_ ?_ _) | (with_reducible refine below_drewN ?_ _) | (with_reducible refine Below.drew ?_) | (with_reducible refine Below.setCell ?_ ?_ _) | (with_reducible refine below_via (by assumption) ?_ ?_) | (with_reducible refine below_via (later_below _) ?_ ?_) | (with_reducible exact Nat.le_refl _) | omega | (simp; omega) | (simp; done))))); rintro e w1 ⟨rfl, hb⟩; (refine mem hb ?_; intro N hN hz hc hf; (try simp at hN); subst hN)) | (go_at_call 7; (with_reducible refine (HP2.out _).mono ?_); rintro e w1 ⟨rfl, hb⟩; (refine mem hb ?_; intro N hN hz hc hf; (try simp at hN); subst hN)) | (go_at_call 5; (with_reducible refine (HX4.out _).mono ?_); rintro e w1 ⟨rfl, hb⟩; (refine mem hb ?_; intro N hN hz hc hf; (try simp at hN); subst hN)) | (go_at_call 4; (with_reducible refine (awake_any _).mono ?_); rintro e w1 ⟨rfl, hb⟩; (refine mem hb ?_; intro N hN hz hc hf; (try simp at hN); subst hN)))
            go_returns
            refine ⟨by first | rfl | simp, ?_⟩
            (repeat' (first | (with_reducible exact Below.refl _ _) | (with_reducible assumption) | (with_reducible refine Below.alloc ?_ ?_ _) | (with_reducible refine below_drewN ?_ _) | (with_reducible refine Below.drew ?_) | (with_reducible refine Below.setCell ?_ ?_ _) | (with_reducible refine below_via (by assumption) ?_ ?_) | (with_reducible refine below_via (later_below _) ?_ ?_) | (with_reducible exact Nat.le_refl _) | omega | (simp; omega) | (simp; done)))
          | false =>
            obtain rfl : A3 = A4 := by rcases t2 with h | ⟨-, h⟩; cases h; cases A3 <;> cases A4 <;> first | rfl | cases h
            go_enter Tryz.func3, Tryz.ntmps3
            go_wp2_with (first | (go_at_call 5; (with_reducible refine (HX.out _).mono ?_); rintro e w1 ⟨rfl, hb⟩; (refine mem hb ?_; intro N hN hz hc hf; (try simp at hN); subst hN)) | (go_at_call 6; (with_reducible refine (HN.out _).mono ?_); rintro e w1 ⟨rfl, hb⟩; (refine mem hb ?_; intro N hN hz hc hf; (try simp at hN); subst hN)) | (go_at_call 7; (with_reducible refine (HP.out _).mono ?_); rintro e w1 ⟨rfl, hb⟩; (refine mem hb ?_; intro N hN hz hc hf; (try simp at hN); subst hN)) | (go_at_call 8; (with_reducible refine (HF.out _ ?_).mono ?_); (focus ((repeat' (first | (with_reducible exact Below.refl _ _) | (with_reducible assumption) | (with_reducible refine Below.alloc ?_ ?_ _) | (with_reducible refine below_drewN ?_ _) | (with_reducible refine Below.drew ?_) | (with_reducible refine Below.setCell ?_ ?_ _) | (with_reducible refine below_via (by assumption) ?_ ?_) | (with_reducible refine below_via (later_below _) ?_ ?_) | (with_reducible exact Nat.le_refl _) | omega | (simp; omega) | (simp; done))))); rintro e w1 ⟨rfl, hb⟩; (refine mem hb ?_; intro N hN hz hc hf; (try simp at hN); subst hN)) | (go_at_call 7; (with_reducible refine (HP2.out _).mono ?_); rintro e w1 ⟨rfl, hb⟩; (refine mem hb ?_; intro N hN hz hc hf; (try simp at hN); subst hN)) | (go_at_call 5; (with_reducible refine (HX4.out _).mono ?_); rintro e w1 ⟨rfl, hb⟩; (refine mem hb ?_; intro N hN hz hc hf; (try simp at hN); subst hN)) | (go_at_call 4; (with_reducible refine (awake_any _).mono ?_); rintro e w1 ⟨rfl, hb⟩; (refine mem hb ?_; intro N hN hz hc hf; (try simp at hN); subst hN)))
            go_returns
            refine ⟨by first | rfl | simp, ?_⟩
            (repeat' (first | (with_reducible exact Below.refl _ _) | (with_reducible assumption) | (with_reducible refine Below.alloc ?_ ?_ _) | (with_reducible refine below_drewN ?_ _) | (with_reducible refine Below.drew ?_) | (with_reducible refine Below.setCell ?_ ?_ _) | (with_reducible refine below_via (by assumption) ?_ ?_) | (with_reducible refine below_via (later_below _) ?_ ?_) | (with_reducible exact Nat.le_refl _) | omega | (simp; omega) | (simp; done)))
        · have z4 : (Q2 == Q) = false := by simpa using z1
          cases A0 with
          | true =>
            clear t2
            go_enter Tryz.func3, Tryz.ntmps3
            go_wp2_with (first | (go_at_call 5; (with_reducible refine (HX.out _).mono ?_); rintro e w1 ⟨rfl, hb⟩; (refine mem hb ?_; intro N hN hz hc hf; (try simp at hN); subst hN)) | (go_at_call 6; (with_reducible refine (HN.out _).mono ?_); rintro e w1 ⟨rfl, hb⟩; (refine mem hb ?_; intro N hN hz hc hf; (try simp at hN); subst hN)) | (go_at_call 7; (with_reducible refine (HP.out _).mono ?_); rintro e w1 ⟨rfl, hb⟩; (refine mem hb ?_; intro N hN hz hc hf; (try simp at hN); subst hN)) | (go_at_call 8; (with_reducible refine (HF.out _ ?_).mono ?_); (focus ((repeat' (first | (with_reducible exact Below.refl _ _) | (with_reducible assumption) | (with_reducible refine Below.alloc ?_ ?_ _) | (with_reducible refine below_drewN ?_ _) | (with_reducible refine Below.drew ?_) | (with_reducible refine Below.setCell ?_ ?_ _) | (with_reducible refine below_via (by assumption) ?_ ?_) | (with_reducible refine below_via (later_below _) ?_ ?_) | (with_reducible exact Nat.le_refl _) | omega | (simp; omega) | (simp; done))))); rintro e w1 ⟨rfl, hb⟩; (refine mem hb ?_; intro N hN hz hc hf; (try simp at hN); subst hN)) | (go_at_call 7; (with_reducible refine (HP2.out _).mono ?_); rintro e w1 ⟨rfl, hb⟩; (refine mem hb ?_; intro N hN hz hc hf; (try simp at hN); subst hN)) | (go_at_call 5; (with_reducible refine (HX4.out _).mono ?_); rintro e w1 ⟨rfl, hb⟩; (refine mem hb ?_; intro N hN hz hc hf; (try simp at hN); subst hN)) | (go_at_call 4; (with_reducible refine (awake_any _).mono ?_); rintro e w1 ⟨rfl, hb⟩; (refine mem hb ?_; intro N hN hz hc hf; (try simp at hN); subst hN)))
            go_returns
            refine ⟨by first | rfl | simp, ?_⟩
            (repeat' (first | (with_reducible exact Below.refl _ _) | (with_reducible assumption) | (with_reducible refine Below.alloc ?_ ?_ _) | (with_reducible refine below_drewN ?_ _) | (with_reducible refine Below.drew ?_) | (with_reducible refine Below.setCell ?_ ?_ _) | (with_reducible refine below_via (by assumption) ?_ ?_) | (with_reducible refine below_via (later_below _) ?_ ?_) | (with_reducible exact Nat.le_refl _) | omega | (simp; omega) | (simp; done)))
          | false =>
            obtain rfl : A3 = A4 := by rcases t2 with h | ⟨-, h⟩; cases h; cases A3 <;> cases A4 <;> first | rfl | cases h
            go_enter Tryz.func3, Tryz.ntmps3
            go_wp2_with (first | (go_at_call 5; (with_reducible refine (HX.out _).mono ?_); rintro e w1 ⟨rfl, hb⟩; (refine mem hb ?_; intro N hN hz hc hf; (try simp at hN); subst hN)) | (go_at_call 6; (with_reducible refine (HN.out _).mono ?_); rintro e w1 ⟨rfl, hb⟩; (refine mem hb ?_; intro N hN hz hc hf; (try simp at hN); subst hN)) | (go_at_call 7; (with_reducible refine (HP.out _).mono ?_); rintro e w1 ⟨rfl, hb⟩; (refine mem hb ?_; intro N hN hz hc hf; (try simp at hN); subst hN)) | (go_at_call 8; (with_reducible refine (HF.out _ ?_).mono ?_); (focus ((repeat' (first | (with_reducible exact Below.refl _ _) | (with_reducible assumption) | (with_reducible refine Below.alloc ?_ ?_ _) | (with_reducible refine below_drewN ?_ _) | (with_reducible refine Below.drew ?_) | (with_reducible refine Below.setCell ?_ ?_ _) | (with_reducible refine below_via (by assumption) ?_ ?_) | (with_reducible refine below_via (later_below _) ?_ ?_) | (with_reducible exact Nat.le_refl _) | omega | (simp; omega) | (simp; done))))); rintro e w1 ⟨rfl, hb⟩; (refine mem hb ?_; intro N hN hz hc hf; (try simp at hN); subst hN)) | (go_at_call 7; (with_reducible refine (HP2.out _).mono ?_); rintro e w1 ⟨rfl, hb⟩; (refine mem hb ?_; intro N hN hz hc hf; (try simp at hN); subst hN)) | (go_at_call 5; (with_reducible refine (HX4.out _).mono ?_); rintro e w1 ⟨rfl, hb⟩; (refine mem hb ?_; intro N hN hz hc hf; (try simp at hN); subst hN)) | (go_at_call 4; (with_reducible refine (awake_any _).mono ?_); rintro e w1 ⟨rfl, hb⟩; (refine mem hb ?_; intro N hN hz hc hf; (try simp at hN); subst hN)))
            go_returns
            refine ⟨by first | rfl | simp, ?_⟩
            (repeat' (first | (with_reducible exact Below.refl _ _) | (with_reducible assumption) | (with_reducible refine Below.alloc ?_ ?_ _) | (with_reducible refine below_drewN ?_ _) | (with_reducible refine Below.drew ?_) | (with_reducible refine Below.setCell ?_ ?_ _) | (with_reducible refine below_via (by assumption) ?_ ?_) | (with_reducible refine below_via (later_below _) ?_ ?_) | (with_reducible exact Nat.le_refl _) | omega | (simp; omega) | (simp; done)))
        · have z4 := decide_eq_false (Int.not_le.2 z1)
          cases A0 with
          | true =>
            clear t2
            go_enter Tryz.func3, Tryz.ntmps3
            go_wp2_with (first | (go_at_call 5; (with_reducible refine (HX.out _).mono ?_); rintro e w1 ⟨rfl, hb⟩; (refine mem hb ?_; intro N hN hz hc hf; (try simp at hN); subst hN)) | (go_at_call 6; (with_reducible refine (HN.out _).mono ?_); rintro e w1 ⟨rfl, hb⟩; (refine mem hb ?_; intro N hN hz hc hf; (try simp at hN); subst hN)) | (go_at_call 7; (with_reducible refine (HP.out _).mono ?_); rintro e w1 ⟨rfl, hb⟩; (refine mem hb ?_; intro N hN hz hc hf; (try simp at hN); subst hN)) | (go_at_call 8; (with_reducible refine (HF.out _ ?_).mono ?_); (focus ((repeat' (first | (with_reducible exact Below.refl _ _) | (with_reducible assumption) | (with_reducible refine Below.alloc ?_ ?_ _) | (with_reducible refine below_drewN ?_ _) | (with_reducible refine Below.drew ?_) | (with_reducible refine Below.setCell ?_ ?_ _) | (with_reducible refine below_via (by assumption) ?_ ?_) | (with_reducible refine below_via (later_below _) ?_ ?_) | (with_reducible exact Nat.le_refl _) | omega | (simp; omega) | (simp; done))))); rintro e w1 ⟨rfl, hb⟩; (refine mem hb ?_; intro N hN hz hc hf; (try simp at hN); subst hN)) | (go_at_call 7; (with_reducible refine (HP2.out _).mono ?_); rintro e w1 ⟨rfl, hb⟩; (refine mem hb ?_; intro N hN hz hc hf; (try simp at hN); subst hN)) | (go_at_call 5; (with_reducible refine (HX4.out _).mono ?_); rintro e w1 ⟨rfl, hb⟩; (refine mem hb ?_; intro N hN hz hc hf; (try simp at hN); subst hN)) | (go_at_call 4; (with_reducible refine (awake_any _).mono ?_); rintro e w1 ⟨rfl, hb⟩; (refine mem hb ?_; intro N hN hz hc hf; (try simp at hN); subst hN)))
            go_returns
            refine ⟨by first | rfl | simp, ?_⟩
            (repeat' (first | (with_reducible exact Below.refl _ _) | (with_reducible assumption) | (with_reducible refine Below.alloc ?_ ?_ _) | (with_reducible refine below_drewN ?_ _) | (with_reducible refine Below.drew ?_) | (with_reducible refine Below.setCell ?_ ?_ _) | (with_reducible refine below_via (by assumption) ?_ ?_) | (with_reducible refine below_via (later_below _) ?_ ?_) | (with_reducible exact Nat.le_refl _) | omega | (simp; omega) | (simp; done)))
          | false =>
            obtain rfl : A3 = A4 := by rcases t2 with h | ⟨-, h⟩; cases h; cases A3 <;> cases A4 <;> first | rfl | cases h
            go_enter Tryz.func3, Tryz.ntmps3
            go_wp2_with (first | (go_at_call 5; (with_reducible refine (HX.out _).mono ?_); rintro e w1 ⟨rfl, hb⟩; (refine mem hb ?_; intro N hN hz hc hf; (try simp at hN); subst hN)) | (go_at_call 6; (with_reducible refine (HN.out _).mono ?_); rintro e w1 ⟨rfl, hb⟩; (refine mem hb ?_; intro N hN hz hc hf; (try simp at hN); subst hN)) | (go_at_call 7; (with_reducible refine (HP.out _).mono ?_); rintro e w1 ⟨rfl, hb⟩; (refine mem hb ?_; intro N hN hz hc hf; (try simp at hN); subst hN)) | (go_at_call 8; (with_reducible refine (HF.out _ ?_).mono ?_); (focus ((repeat' (first | (with_reducible exact Below.refl _ _) | (with_reducible assumption) | (with_reducible refine Below.alloc ?_ ?_ _) | (with_reducible refine below_drewN ?_ _) | (with_reducible refine Below.drew ?_) | (with_reducible refine Below.setCell ?_ ?_ _) | (with_reducible refine below_via (by assumption) ?_ ?_) | (with_reducible refine below_via (later_below _) ?_ ?_) | (with_reducible exact Nat.le_refl _) | omega | (simp; omega) | (simp; done))))); rintro e w1 ⟨rfl, hb⟩; (refine mem hb ?_; intro N hN hz hc hf; (try simp at hN); subst hN)) | (go_at_call 7; (with_reducible refine (HP2.out _).mono ?_); rintro e w1 ⟨rfl, hb⟩; (refine mem hb ?_; intro N hN hz hc hf; (try simp at hN); subst hN)) | (go_at_call 5; (with_reducible refine (HX4.out _).mono ?_); rintro e w1 ⟨rfl, hb⟩; (refine mem hb ?_; intro N hN hz hc hf; (try simp at hN); subst hN)) | (go_at_call 4; (with_reducible refine (awake_any _).mono ?_); rintro e w1 ⟨rfl, hb⟩; (refine mem hb ?_; intro N hN hz hc hf; (try simp at hN); subst hN)))
            go_returns
            refine ⟨by first | rfl | simp, ?_⟩
            (repeat' (first | (with_reducible exact Below.refl _ _) | (with_reducible assumption) | (with_reducible refine Below.alloc ?_ ?_ _) | (with_reducible refine below_drewN ?_ _) | (with_reducible refine Below.drew ?_) | (with_reducible refine Below.setCell ?_ ?_ _) | (with_reducible refine below_via (by assumption) ?_ ?_) | (with_reducible refine below_via (later_below _) ?_ ?_) | (with_reducible exact Nat.le_refl _) | omega | (simp; omega) | (simp; done)))
    · have g0 : (G != 0) = true := by simpa using hG
      clear hG
      clear HEN hPQ
      cases A0 with
      | true =>
        clear t2
        go_enter Tryz.func3, Tryz.ntmps3
        go_wp2_with (first | (go_at_call 5; (with_reducible refine (HX.out _).mono ?_); rintro e w1 ⟨rfl, hb⟩; (refine mem hb ?_; intro N hN hz hc hf; (try simp at hN); subst hN)) | (go_at_call 6; (with_reducible refine (HN.out _).mono ?_); rintro e w1 ⟨rfl, hb⟩; (refine mem hb ?_; intro N hN hz hc hf; (try simp at hN); subst hN)) | (go_at_call 7; (with_reducible refine (HP.out _).mono ?_); rintro e w1 ⟨rfl, hb⟩; (refine mem hb ?_; intro N hN hz hc hf; (try simp at hN); subst hN)) | (go_at_call 8; (with_reducible refine (HF.out _ ?_).mono ?_); (focus ((repeat' (first | (with_reducible exact Below.refl _ _) | (with_reducible assumption) | (with_reducible refine Below.alloc ?_ ?_ _) | (with_reducible refine below_drewN ?_ _) | (with_reducible refine Below.drew ?_) | (with_reducible refine Below.setCell ?_ ?_ _) | (with_reducible refine below_via (by assumption) ?_ ?_) | (with_reducible refine below_via (later_below _) ?_ ?_) | (with_reducible exact Nat.le_refl _) | omega | (simp; omega) | (simp; done))))); rintro e w1 ⟨rfl, hb⟩; (refine mem hb ?_; intro N hN hz hc hf; (try simp at hN); subst hN)) | (go_at_call 7; (with_reducible refine (HP2.out _).mono ?_); rintro e w1 ⟨rfl, hb⟩; (refine mem hb ?_; intro N hN hz hc hf; (try simp at hN); subst hN)) | (go_at_call 5; (with_reducible refine (HX4.out _).mono ?_); rintro e w1 ⟨rfl, hb⟩; (refine mem hb ?_; intro N hN hz hc hf; (try simp at hN); subst hN)) | (go_at_call 4; (with_reducible refine (awake_any _).mono ?_); rintro e w1 ⟨rfl, hb⟩; (refine mem hb ?_; intro N hN hz hc hf; (try simp at hN); subst hN)))
        go_returns
        refine ⟨by first | rfl | simp, ?_⟩
        (repeat' (first | (with_reducible exact Below.refl _ _) | (with_reducible assumption) | (with_reducible refine Below.alloc ?_ ?_ _) | (with_reducible refine below_drewN ?_ _) | (with_reducible refine Below.drew ?_) | (with_reducible refine Below.setCell ?_ ?_ _) | (with_reducible refine below_via (by assumption) ?_ ?_) | (with_reducible refine below_via (later_below _) ?_ ?_) | (with_reducible exact Nat.le_refl _) | omega | (simp; omega) | (simp; done)))
      | false =>
        obtain rfl : A3 = A4 := by rcases t2 with h | ⟨-, h⟩; cases h; cases A3 <;> cases A4 <;> first | rfl | cases h
        go_enter Tryz.func3, Tryz.ntmps3
        go_wp2_with (first | (go_at_call 5; (with_reducible refine (HX.out _).mono ?_); rintro e w1 ⟨rfl, hb⟩; (refine mem hb ?_; intro N hN hz hc hf; (try simp at hN); subst hN)) | (go_at_call 6; (with_reducible refine (HN.out _).mono ?_); rintro e w1 ⟨rfl, hb⟩; (refine mem hb ?_; intro N hN hz hc hf; (try simp at hN); subst hN)) | (go_at_call 7; (with_reducible refine (HP.out _).mono ?_); rintro e w1 ⟨rfl, hb⟩; (refine mem hb ?_; intro N hN hz hc hf; (try simp at hN); subst hN)) | (go_at_call 8; (with_reducible refine (HF.out _ ?_).mono ?_); (focus ((repeat' (first | (with_reducible exact Below.refl _ _) | (with_reducible assumption) | (with_reducible refine Below.alloc ?_ ?_ _) | (with_reducible refine below_drewN ?_ _) | (with_reducible refine Below.drew ?_) | (with_reducible refine Below.setCell ?_ ?_ _) | (with_reducible refine below_via (by assumption) ?_ ?_) | (with_reducible refine below_via (later_below _) ?_ ?_) | (with_reducible exact Nat.le_refl _) | omega | (simp; omega) | (simp; done))))); rintro e w1 ⟨rfl, hb⟩; (refine mem hb ?_; intro N hN hz hc hf; (try simp at hN); subst hN)) | (go_at_call 7; (with_reducible refine (HP2.out _).mono ?_); rintro e w1 ⟨rfl, hb⟩; (refine mem hb ?_; intro N hN hz hc hf; (try simp at hN); subst hN)) | (go_at_call 5; (with_reducible refine (HX4.out _).mono ?_); rintro e w1 ⟨rfl, hb⟩; (refine mem hb ?_; intro N hN hz hc hf; (try simp at hN); subst hN)) | (go_at_call 4; (with_reducible refine (awake_any _).mono ?_); rintro e w1 ⟨rfl, hb⟩; (refine mem hb ?_; intro N hN hz hc hf; (try simp at hN); subst hN)))
        go_returns
        refine ⟨by first | rfl | simp, ?_⟩
        (repeat' (first | (with_reducible exact Below.refl _ _) | (with_reducible assumption) | (with_reducible refine Below.alloc ?_ ?_ _) | (with_reducible refine below_drewN ?_ _) | (with_reducible refine Below.drew ?_) | (with_reducible refine Below.setCell ?_ ?_ _) | (with_reducible refine below_via (by assumption) ?_ ?_) | (with_reducible refine below_via (later_below _) ?_ ?_) | (with_reducible exact Nat.le_refl _) | omega | (simp; omega) | (simp; done)))

set_option maxHeartbeats 8000000 in
set_option maxRecDepth 100000 in
theorem lifted (os : Os) (started : os.Started) (H : Type) (enc : TypeId × Value → H) :
    ReturnsInHanded {} Tryz.checked os 3 .any (fun w args => (Rows.treeLeavesSpec.pre enc Tryz.prog Tryz.f3 Rows.treeLeavesRow.domain false w args ∧ laidMetH Tryz.prog laidS w) ∧ sizedMet enc Tryz.prog Tryz.f3 (OpenSpec.ofChange Rows.treeLeavesSpec) false w args) (Rows.treeLeavesSpec.post enc Tryz.prog Tryz.f3 false true false false) := by
  refine returnsInHanded_of_change_and (C := Tryz.checked) (X := fun w _ => laidMetH Tryz.prog laidS w) (fun _ _ _ hh h => h.of_heap hh) own started (by kernel_rfl) Tryz.func3
    (ChangeSpec.witness_shaped (enc := enc) (C := Tryz.checked) (os := os) (X := fun w _ => laidMetH Tryz.prog laidS w) false (World.laidAll Tryz.prog os laidS) #[.string ⟨#[]⟩] 8 (World.laidAll_os _ _ _) (start_shaped os) (by kernel_rfl) (by kernel_rfl) (by kernel_rfl) (start_met os _)) ?_
  intro W base args ds gs before hval0 hW hcnd _ hL _
  have hT := laid_tabs hL
  have hval : ∀ (j : Nat) t v, Tryz.f3.params[j]? = some t → args[j]? = some v → Value.okWide Tryz.prog W .any base t v := hval0
  have hW' := hW
  obtain ⟨p, q, hA0, hV, rfl, hfz, hnd⟩ := hW
  have hA : DataW.TrodAll enc Tryz.prog W 0 (fun _ => true) true Tryz.f3.params.toList args.toList ds p := hA0
  rw [Tryz.params3] at hA hval
  obtain ⟨v0, vs0, d0, ds0, p0, q0, hargs, rfl, rfl, h0, r0⟩ := trodAll_cons hA
  obtain ⟨rfl, rfl, rfl⟩ := trodAll_nil r0
  obtain rfl : args = #[v0] := by cases args; simp_all
  obtain ⟨rfl, rfl⟩ := trodVars_none hV
  have k0 := h0
  have lt0 : ∀ x ∈ p0, x.block < W.heap.size := by obtain ⟨m, hm⟩ := k0; exact DataW.trod_lt m _ _ _ hm
  obtain ⟨s, rfl, -, -, ws⟩ := open_string Tryz.underlying9 (hval 0 9 v0 rfl rfl) h0
  clear hA0 hval0
  refine (walk s ws W hT).mono fun e W' ⟨he, bel⟩ => ?_
  subst he
  exact ⟨_, rfl, _, _, _, [], _, [], hW', trodAll_mk1 (shut_bool Tryz.underlying4 _), (trodAll_cons_mk (Below.trod laidOut (by kernel_rfl) (of_decide_eq_true (by kernel_rfl)) k0 bel lt0) trodAll_mk0), rfl, bel.frame _, fun h => by cases h⟩

theorem over : Rows.treeLeavesRow.holds Tryz.pinned (OpenSpec.ofChange Rows.treeLeavesSpec) :=
  OpenClaim.holds_of_wide 3 Tryz.f3 rfl rfl rfl rfl rfl rfl rfl ⟨rfl, rfl, rfl, rfl, rfl⟩ rfl rfl rfl rfl rfl (by kernel_rfl) Tryz.func3 (by kernel_rfl)
    (of_decide_eq_true (by kernel_rfl)) (by unfold Func.isWrapper; first | (rw [if_pos (by decide +kernel)]; kernel_rfl) | (rw [if_neg (by decide +kernel)]; exact ⟨rfl, rfl⟩))
    (fun os started H enc _ => lifted os started H enc)

/-- The given statement: the row, tied. -/
theorem proved : Rows.TreeLeavesCardSaid :=
  Claim7.holds_tied_plain_at .later [] [.data, .data, .data, .data, .pinned] true _ true over (fun _ h => by cases h) (by kernel_rfl) (fun _ h => by cases h) treeLeaves_row_tie rfl ⟨rfl, rfl⟩ (by kernel_rfl) rfl
    (fun f fn hf hfn => by
      obtain rfl : f = 3 := Option.some.inj ((show Tryz.prog.funcNamed Rows.treeLeavesRow.func = some 3 by kernel_rfl).symm.trans hf) |>.symm
      obtain rfl : fn = Tryz.f3 := (Option.some.inj (Tryz.func3.symm.trans hfn)).symm
      exact ⟨by kernel_rfl, fun j t ht => by
        rw [Tryz.params3] at ht
        have hm : t ∈ [9] := by simpa using Array.mem_of_getElem? ht
        have hall : ([9].all fun u => !Tryz.prog.wantsStandIn u) = true := by kernel_rfl
        exact (show Tryz.prog.wantsStandIn t = false by simpa using List.all_eq_true.1 hall t hm)⟩)
    (by kernel_rfl)
#print axioms proved
end Go.Proofs.YtplphejillkdeaaGreatDoor.treeLeaves
