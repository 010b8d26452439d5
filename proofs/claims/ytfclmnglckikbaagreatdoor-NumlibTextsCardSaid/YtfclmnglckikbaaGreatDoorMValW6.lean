/- Package value's Number, Str and Less, and the reference's: what each call returns. -/
import Derived.Test.YtfclmnglckikbaaGreatDoorMValW3
import Derived.Test.YtfclmnglckikbaaGreatDoorMRatR
namespace Go.Proofs.YtfclmnglckikbaaGreatDoor
open Go.RowKit Go.Instr
set_option linter.unusedVariables false

/-- The number of a value: numerator, denominator, error. -/
def numV3 (k p q : Int) (s : ByteArray) : Int × Int × Int :=
  if k = 2 then (if vldB p q then (p, q, 0) else (0, 0, 8)) else if k = 3 then (if (parseL s.data.toList).2.2 = 0 then ((parseL s.data.toList).1, (parseL s.data.toList).2.1, 0) else (0, 0, 8)) else (0, 0, 8)
abbrev ParseSays (s : ByteArray) (P Q E : Int) : Prop := ∀ w, Calls Tryz.prog 107 #[.string s] w fun e w' => e = .returned (.tuple #[.agg #[.int .i64 P, .int .i64 Q], .int .i64 E]) ∧ Below w.heap.size w w'
abbrev VNumSays (k p q : Int) (s : ByteArray) (r P Q E : Int) : Prop := ∀ w, Calls Tryz.prog 86 #[vV k p q s r] w fun e w' => e = .returned (.tuple #[.agg #[.int .i64 P, .int .i64 Q], .int .i64 E]) ∧ Below w.heap.size w w'

set_option maxHeartbeats 1000000 in
set_option maxRecDepth 100000 in
theorem num_num (p q : Int) (s : ByteArray) (r : Int) (hp : -9223372036854775808 ≤ p) (hp' : p ≤ 9223372036854775807) (hv : vldB p q = true) : VNumSays 2 p q s r p q 0 := by
  intro w
  go_enter Tryz.func86, Tryz.ntmps86
  go_wp2_with (first | (go_at_call 48; refine (valid_any _ _ _ (by omega) (by omega)).mono ?_; rintro e w1 ⟨rfl, hb⟩; (refine mem hb ?_; intro N hN hz hc hf; (try simp at hN); subst hN)))
  ((try simp only [Exit.inBlock, Exit.then]); refine bodyPost_ret (by first | (simp [results, Tryz.results86, go_sem, *]; done) | (simp [results, Tryz.results86, go_sem, *]; rfl) | (simp [results, Tryz.results86, go_sem, ↓IntWalk.iteOmega, *]; try rfl)) rfl ?_)
  refine ⟨rfl, ?_⟩
  (repeat' (first | (with_reducible exact Below.refl _ _) | (with_reducible assumption) | (with_reducible refine Below.alloc ?_ ?_ _) | (with_reducible refine below_drewN ?_ _) | (with_reducible refine Below.drew ?_) | (with_reducible refine Below.setCell ?_ ?_ _) | (with_reducible refine below_via (by assumption) ?_ ?_) | (with_reducible refine below_via (later_below _) ?_ ?_) | (with_reducible exact Nat.le_refl _) | omega | (simp; omega) | (simp; done)))
set_option maxHeartbeats 1000000 in
set_option maxRecDepth 100000 in
theorem num_nan (p q : Int) (s : ByteArray) (r : Int) (hp : -9223372036854775808 ≤ p) (hp' : p ≤ 9223372036854775807) (hv : vldB p q = false) : VNumSays 2 p q s r 0 0 8 := by
  intro w
  go_enter Tryz.func86, Tryz.ntmps86
  go_wp2_with (first | (go_at_call 48; refine (valid_any _ _ _ (by omega) (by omega)).mono ?_; rintro e w1 ⟨rfl, hb⟩; (refine mem hb ?_; intro N hN hz hc hf; (try simp at hN); subst hN)))
  ((try simp only [Exit.inBlock, Exit.then]); refine bodyPost_ret (by first | (simp [results, Tryz.results86, go_sem, *]; done) | (simp [results, Tryz.results86, go_sem, *]; rfl) | (simp [results, Tryz.results86, go_sem, ↓IntWalk.iteOmega, *]; try rfl)) rfl ?_)
  refine ⟨rfl, ?_⟩
  (repeat' (first | (with_reducible exact Below.refl _ _) | (with_reducible assumption) | (with_reducible refine Below.alloc ?_ ?_ _) | (with_reducible refine below_drewN ?_ _) | (with_reducible refine Below.drew ?_) | (with_reducible refine Below.setCell ?_ ?_ _) | (with_reducible refine below_via (by assumption) ?_ ?_) | (with_reducible refine below_via (later_below _) ?_ ?_) | (with_reducible exact Nat.le_refl _) | omega | (simp; omega) | (simp; done)))
set_option maxHeartbeats 1000000 in
set_option maxRecDepth 100000 in
theorem num_str (p q : Int) (s : ByteArray) (r P Q : Int) (h : ParseSays s P Q 0) : VNumSays 3 p q s r P Q 0 := by
  intro w
  have HP := Lib.hid h
  clear h
  go_enter Tryz.func86, Tryz.ntmps86
  go_wp2_with (first | (go_at_call 107; refine (HP.out _).mono ?_; rintro e w1 ⟨rfl, hb⟩; (refine mem hb ?_; intro N hN hz hc hf; (try simp at hN); subst hN)))
  ((try simp only [Exit.inBlock, Exit.then]); refine bodyPost_ret (by first | (simp [results, Tryz.results86, go_sem, *]; done) | (simp [results, Tryz.results86, go_sem, *]; rfl) | (simp [results, Tryz.results86, go_sem, ↓IntWalk.iteOmega, *]; try rfl)) rfl ?_)
  refine ⟨rfl, ?_⟩
  (repeat' (first | (with_reducible exact Below.refl _ _) | (with_reducible assumption) | (with_reducible refine Below.alloc ?_ ?_ _) | (with_reducible refine below_drewN ?_ _) | (with_reducible refine Below.drew ?_) | (with_reducible refine Below.setCell ?_ ?_ _) | (with_reducible refine below_via (by assumption) ?_ ?_) | (with_reducible refine below_via (later_below _) ?_ ?_) | (with_reducible exact Nat.le_refl _) | omega | (simp; omega) | (simp; done)))
set_option maxHeartbeats 1000000 in
set_option maxRecDepth 100000 in
theorem num_bad (p q : Int) (s : ByteArray) (r P Q E : Int) (hE : ¬ E = 0) (h : ParseSays s P Q E) : VNumSays 3 p q s r 0 0 8 := by
  intro w
  have HP := Lib.hid h
  have hE2 : (E == 0) = false := by simpa using hE
  clear h
  go_enter Tryz.func86, Tryz.ntmps86
  go_wp2_with (first | (go_at_call 107; refine (HP.out _).mono ?_; rintro e w1 ⟨rfl, hb⟩; (refine mem hb ?_; intro N hN hz hc hf; (try simp at hN); subst hN)))
  ((try simp only [Exit.inBlock, Exit.then]); refine bodyPost_ret (by first | (simp [results, Tryz.results86, go_sem, *]; done) | (simp [results, Tryz.results86, go_sem, *]; rfl) | (simp [results, Tryz.results86, go_sem, ↓IntWalk.iteOmega, *]; try rfl)) rfl ?_)
  refine ⟨rfl, ?_⟩
  (repeat' (first | (with_reducible exact Below.refl _ _) | (with_reducible assumption) | (with_reducible refine Below.alloc ?_ ?_ _) | (with_reducible refine below_drewN ?_ _) | (with_reducible refine Below.drew ?_) | (with_reducible refine Below.setCell ?_ ?_ _) | (with_reducible refine below_via (by assumption) ?_ ?_) | (with_reducible refine below_via (later_below _) ?_ ?_) | (with_reducible exact Nat.le_refl _) | omega | (simp; omega) | (simp; done)))
set_option maxHeartbeats 1000000 in
set_option maxRecDepth 100000 in
theorem num_no (k p q : Int) (s : ByteArray) (r : Int) (h2 : ¬ k = 2) (h3 : ¬ k = 3) : VNumSays k p q s r 0 0 8 := by
  intro w
  have e2 : (k == 2) = false := by simpa using h2
  have e3 : (k == 3) = false := by simpa using h3
  go_enter Tryz.func86, Tryz.ntmps86
  go_wp2_with fail
  ((try simp only [Exit.inBlock, Exit.then]); refine bodyPost_ret (by first | (simp [results, Tryz.results86, go_sem, *]; done) | (simp [results, Tryz.results86, go_sem, *]; rfl) | (simp [results, Tryz.results86, go_sem, ↓IntWalk.iteOmega, *]; try rfl)) rfl ?_)
  refine ⟨rfl, ?_⟩
  (repeat' (first | (with_reducible exact Below.refl _ _) | (with_reducible assumption) | (with_reducible refine Below.alloc ?_ ?_ _) | (with_reducible refine below_drewN ?_ _) | (with_reducible refine Below.drew ?_) | (with_reducible refine Below.setCell ?_ ?_ _) | (with_reducible refine below_via (by assumption) ?_ ?_) | (with_reducible refine below_via (later_below _) ?_ ?_) | (with_reducible exact Nat.le_refl _) | omega | (simp; omega) | (simp; done)))
theorem number_v (k p q : Int) (s : ByteArray) (r : Int) (hs : s.size ≤ 9223372036854775807) (hp : -9223372036854775808 ≤ p) (hp' : p ≤ 9223372036854775807) : VNumSays k p q s r (numV3 k p q s).1 (numV3 k p q s).2.1 (numV3 k p q s).2.2 := by
  unfold numV3
  by_cases h2 : k = 2
  · subst h2
    rw [if_pos rfl]
    cases hv : vldB p q
    · exact num_nan p q s r hp hp' hv
    · exact num_num p q s r hp hp' hv
  · rw [if_neg h2]
    by_cases h3 : k = 3
    · subst h3
      rw [if_pos rfl]
      have c := fun w => parse_any s hs w
      by_cases he : (parseL s.data.toList).2.2 = 0
      · rw [if_pos he]
        refine num_str p q s r _ _ fun w => ?_
        have := c w
        unfold tripV at this
        rw [he] at this
        exact this
      · rw [if_neg he]
        exact num_bad p q s r _ _ _ he c
    · rw [if_neg h3]
      exact num_no k p q s r h2 h3

/-- The string of a value, and its error. -/
def strV (k p q : Int) (s : ByteArray) : ByteArray × Int := if k = 3 then (s, 0) else if k = 2 ∧ vldB p q = true then (mkS (textL p q), 0) else (⟨#[]⟩, 8)
/-- Whether the first value is less, and the error. -/
def lessV (k p q : Int) (s : ByteArray) (k' p' q' : Int) (s' : ByteArray) : Bool × Int :=
  if k = 2 ∧ k' = 2 ∧ vldB p q = true ∧ vldB p' q' = true then (decide (cmpT p q p' q' < 0), 0) else if k = 3 ∧ k' = 3 then (Op.bytesLess s.toList s'.toList, 0) else (false, 8)
theorem lessV_cases (k k' : Int) (a b : Bool) : (k = 2 ∧ k' = 2 ∧ a = true ∧ b = true) ∨ (k = 2 ∧ k' = 2 ∧ a = true ∧ b = false) ∨ (k = 2 ∧ k' = 2 ∧ a = false) ∨ (k = 2 ∧ ¬ k' = 2) ∨ (k = 3 ∧ k' = 3) ∨ (k = 3 ∧ ¬ k' = 3) ∨ (¬ k = 2 ∧ ¬ k = 3) := by
  cases a <;> cases b <;> simp <;> omega

theorem bytes_at {l m : List UInt8} {i : Nat} {a b : UInt8} (h1 : l[i]? = some a) (h2 : m[i]? = some b) : Op.bytesLess (l.drop i) (m.drop i) = (decide (a < b) || (a == b && Op.bytesLess (l.drop (i + 1)) (m.drop (i + 1)))) := by
  obtain ⟨h3, rfl⟩ := List.getElem?_eq_some_iff.1 h1
  obtain ⟨h4, rfl⟩ := List.getElem?_eq_some_iff.1 h2
  rw [List.drop_eq_getElem_cons h3, List.drop_eq_getElem_cons h4]; rfl
theorem bytes_end {l m : List UInt8} {i : Nat} (hi : i ≤ l.length) (hj : i ≤ m.length) (h : i = l.length ∨ i = m.length) : Op.bytesLess (l.drop i) (m.drop i) = decide (l.length < m.length) := by
  rcases Nat.lt_trichotomy l.length m.length with h2 | h2 | h2
  · have e1 : l.drop i = [] := List.drop_eq_nil_of_le (by omega)
    rw [e1, List.drop_eq_getElem_cons (by omega : i < m.length), decide_eq_true h2]; rfl
  · have e1 : m.drop i = [] := List.drop_eq_nil_of_le (by omega)
    rw [e1, decide_eq_false (by omega)]
    cases l.drop i <;> rfl
  · have e1 : m.drop i = [] := List.drop_eq_nil_of_le (by omega)
    rw [e1, decide_eq_false (by omega)]
    cases l.drop i <;> rfl
end Go.Proofs.YtfclmnglckikbaaGreatDoor
