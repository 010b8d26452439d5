/- Package value's Number, Str and Less, and the reference's: what each call returns. -/
import Derived.Test.YtpahemohpaaeoaaDoorValW3
import Derived.Test.YtpahemohpaaeoaaDoorRatR5
namespace Go.Proofs.YtpahemohpaaeoaaDoor
open Go.RowKit Go.Instr
set_option linter.unusedVariables false

/-- The number of a value: numerator, denominator, error. -/
def numV3 (k p q : Int) (s : ByteArray) : Int × Int × Int :=
  if k = 2 then (if vldB p q then (p, q, 0) else (0, 0, 8)) else if k = 3 then (if (parseL s.data.toList).2.2 = 0 then ((parseL s.data.toList).1, (parseL s.data.toList).2.1, 0) else (0, 0, 8)) else (0, 0, 8)
abbrev ParseSays (s : ByteArray) (P Q E : Int) : Prop := ∀ w, Calls Tryd.prog 47 #[.string s] w fun e w' => e = .returned (.tuple #[.agg #[.int .i64 P, .int .i64 Q], .int .i64 E]) ∧ Below w.heap.size w w'
abbrev VNumSays (k p q : Int) (s : ByteArray) (r P Q E : Int) : Prop := ∀ w, Calls Tryd.prog 26 #[vV k p q s r] w fun e w' => e = .returned (.tuple #[.agg #[.int .i64 P, .int .i64 Q], .int .i64 E]) ∧ Below w.heap.size w w'

set_option maxHeartbeats 1000000 in
set_option maxRecDepth 100000 in
theorem num_num (p q : Int) (s : ByteArray) (r : Int) (hp : -9223372036854775808 ≤ p) (hp' : p ≤ 9223372036854775807) (hv : vldB p q = true) : VNumSays 2 p q s r p q 0 := by
  intro w
  go_enter Tryd.func26, Tryd.ntmps26
  go_wp2_with (first | (go_at_call 37; refine (valid_any _ _ _ (by omega) (by omega)).mono ?_; rintro e w1 ⟨rfl, hb⟩; (refine mem hb ?_; intro N hN hz hc hf; (try simp at hN); subst hN)))
  ((try simp only [Exit.inBlock, Exit.then]); refine bodyPost_ret (by first | (simp [results, Tryd.results26, go_sem, *]; done) | (simp [results, Tryd.results26, go_sem, *]; rfl) | (simp [results, Tryd.results26, go_sem, ↓IntWalk.iteOmega, *]; try rfl)) rfl ?_)
  refine ⟨rfl, ?_⟩
  (repeat' (first | (with_reducible exact Below.refl _ _) | (with_reducible assumption) | (with_reducible refine Below.alloc ?_ ?_ _) | (with_reducible refine below_drewN ?_ _) | (with_reducible refine Below.drew ?_) | (with_reducible refine Below.setCell ?_ ?_ _) | (with_reducible refine below_via (by assumption) ?_ ?_) | (with_reducible refine below_via (later_below _) ?_ ?_) | (with_reducible exact Nat.le_refl _) | omega | (simp; omega) | (simp; done)))
set_option maxHeartbeats 1000000 in
set_option maxRecDepth 100000 in
theorem num_nan (p q : Int) (s : ByteArray) (r : Int) (hp : -9223372036854775808 ≤ p) (hp' : p ≤ 9223372036854775807) (hv : vldB p q = false) : VNumSays 2 p q s r 0 0 8 := by
  intro w
  go_enter Tryd.func26, Tryd.ntmps26
  go_wp2_with (first | (go_at_call 37; refine (valid_any _ _ _ (by omega) (by omega)).mono ?_; rintro e w1 ⟨rfl, hb⟩; (refine mem hb ?_; intro N hN hz hc hf; (try simp at hN); subst hN)))
  ((try simp only [Exit.inBlock, Exit.then]); refine bodyPost_ret (by first | (simp [results, Tryd.results26, go_sem, *]; done) | (simp [results, Tryd.results26, go_sem, *]; rfl) | (simp [results, Tryd.results26, go_sem, ↓IntWalk.iteOmega, *]; try rfl)) rfl ?_)
  refine ⟨rfl, ?_⟩
  (repeat' (first | (with_reducible exact Below.refl _ _) | (with_reducible assumption) | (with_reducible refine Below.alloc ?_ ?_ _) | (with_reducible refine below_drewN ?_ _) | (with_reducible refine Below.drew ?_) | (with_reducible refine Below.setCell ?_ ?_ _) | (with_reducible refine below_via (by assumption) ?_ ?_) | (with_reducible refine below_via (later_below _) ?_ ?_) | (with_reducible exact Nat.le_refl _) | omega | (simp; omega) | (simp; done)))
set_option maxHeartbeats 1000000 in
set_option maxRecDepth 100000 in
theorem num_str (p q : Int) (s : ByteArray) (r P Q : Int) (h : ParseSays s P Q 0) : VNumSays 3 p q s r P Q 0 := by
  intro w
  have HP := Lib.hid h
  clear h
  go_enter Tryd.func26, Tryd.ntmps26
  go_wp2_with (first | (go_at_call 47; refine (HP.out _).mono ?_; rintro e w1 ⟨rfl, hb⟩; (refine mem hb ?_; intro N hN hz hc hf; (try simp at hN); subst hN)))
  ((try simp only [Exit.inBlock, Exit.then]); refine bodyPost_ret (by first | (simp [results, Tryd.results26, go_sem, *]; done) | (simp [results, Tryd.results26, go_sem, *]; rfl) | (simp [results, Tryd.results26, go_sem, ↓IntWalk.iteOmega, *]; try rfl)) rfl ?_)
  refine ⟨rfl, ?_⟩
  (repeat' (first | (with_reducible exact Below.refl _ _) | (with_reducible assumption) | (with_reducible refine Below.alloc ?_ ?_ _) | (with_reducible refine below_drewN ?_ _) | (with_reducible refine Below.drew ?_) | (with_reducible refine Below.setCell ?_ ?_ _) | (with_reducible refine below_via (by assumption) ?_ ?_) | (with_reducible refine below_via (later_below _) ?_ ?_) | (with_reducible exact Nat.le_refl _) | omega | (simp; omega) | (simp; done)))
set_option maxHeartbeats 1000000 in
set_option maxRecDepth 100000 in
theorem num_bad (p q : Int) (s : ByteArray) (r P Q E : Int) (hE : ¬ E = 0) (h : ParseSays s P Q E) : VNumSays 3 p q s r 0 0 8 := by
  intro w
  have HP := Lib.hid h
  have hE2 : (E == 0) = false := by simpa using hE
  clear h
  go_enter Tryd.func26, Tryd.ntmps26
  go_wp2_with (first | (go_at_call 47; refine (HP.out _).mono ?_; rintro e w1 ⟨rfl, hb⟩; (refine mem hb ?_; intro N hN hz hc hf; (try simp at hN); subst hN)))
  ((try simp only [Exit.inBlock, Exit.then]); refine bodyPost_ret (by first | (simp [results, Tryd.results26, go_sem, *]; done) | (simp [results, Tryd.results26, go_sem, *]; rfl) | (simp [results, Tryd.results26, go_sem, ↓IntWalk.iteOmega, *]; try rfl)) rfl ?_)
  refine ⟨rfl, ?_⟩
  (repeat' (first | (with_reducible exact Below.refl _ _) | (with_reducible assumption) | (with_reducible refine Below.alloc ?_ ?_ _) | (with_reducible refine below_drewN ?_ _) | (with_reducible refine Below.drew ?_) | (with_reducible refine Below.setCell ?_ ?_ _) | (with_reducible refine below_via (by assumption) ?_ ?_) | (with_reducible refine below_via (later_below _) ?_ ?_) | (with_reducible exact Nat.le_refl _) | omega | (simp; omega) | (simp; done)))
set_option maxHeartbeats 1000000 in
set_option maxRecDepth 100000 in
theorem num_no (k p q : Int) (s : ByteArray) (r : Int) (h2 : ¬ k = 2) (h3 : ¬ k = 3) : VNumSays k p q s r 0 0 8 := by
  intro w
  have e2 : (k == 2) = false := by simpa using h2
  have e3 : (k == 3) = false := by simpa using h3
  go_enter Tryd.func26, Tryd.ntmps26
  go_wp2_with fail
  ((try simp only [Exit.inBlock, Exit.then]); refine bodyPost_ret (by first | (simp [results, Tryd.results26, go_sem, *]; done) | (simp [results, Tryd.results26, go_sem, *]; rfl) | (simp [results, Tryd.results26, go_sem, ↓IntWalk.iteOmega, *]; try rfl)) rfl ?_)
  refine ⟨rfl, ?_⟩
  (repeat' (first | (with_reducible exact Below.refl _ _) | (with_reducible assumption) | (with_reducible refine Below.alloc ?_ ?_ _) | (with_reducible refine below_drewN ?_ _) | (with_reducible refine Below.drew ?_) | (with_reducible refine Below.setCell ?_ ?_ _) | (with_reducible refine below_via (by assumption) ?_ ?_) | (with_reducible refine below_via (later_below _) ?_ ?_) | (with_reducible exact Nat.le_refl _) | omega | (simp; omega) | (simp; done)))
theorem number_v (k p q : Int) (s : ByteArray) (r : Int) (hs : s.size ≤ 9223372036854775807) (hp : -9223372036854775808 ≤ p) (hp' : p ≤ 9223372036854775807) : VNumSays k p q s r (numV3 k p q s).1 (numV3 k p q s).2.1 (numV3 k p q s).2.2 := by
  unfold numV3
  by_cases h2 : k = 2
  · subst h2
    rw [if_pos rfl]
    cases hv : vldB p q
    · exact num_nan p q s r hp hp' hv
    · exact num_num p q s r hp hp' hv
  · rw [if_neg h2]
    by_cases h3 : k = 3
    · subst h3
      rw [if_pos rfl]
      have c := fun w => parse_any s hs w
      by_cases he : (parseL s.data.toList).2.2 = 0
      · rw [if_pos he]
        refine num_str p q s r _ _ fun w => ?_
        have := c w
        unfold tripV at this
        rw [he] at this
        exact this
      · rw [if_neg he]
        exact num_bad p q s r _ _ _ he c
    · rw [if_neg h3]
      exact num_no k p q s r h2 h3

/-- The string of a value, and its error. -/
def strV (k p q : Int) (s : ByteArray) : ByteArray × Int := if k = 3 then (s, 0) else if k = 2 ∧ vldB p q = true then (mkS (textL p q), 0) else (⟨#[]⟩, 8)
set_option maxHeartbeats 2000000 in
set_option maxRecDepth 100000 in
theorem str_v (k p q : Int) (s : ByteArray) (r : Int) (w : World) (hp : -9223372036854775808 ≤ p) (hp' : p ≤ 9223372036854775807) (hT : Tabs w) :
    Calls Tryd.prog 28 #[vV k p q s r] w fun e w' => e = .returned (.tuple #[.string (strV k p q s).1, .int .i64 (strV k p q s).2]) ∧ Below w.heap.size w w' := by
  have HX : Hid (∀ w', Below w.heap.size w w' → Calls Tryd.prog 29 #[.agg #[.int .i64 p, .int .i64 q]] w' fun e w'' => e = .returned (.string (mkS (textL p q))) ∧ Below w'.heap.size w' w'') := fun w' hb => text_any p q w' hp hp' (hT.later hb)
  obtain ⟨X, hX⟩ : ∃ X, mkS (textL p q) = X := ⟨_, rfl⟩
  unfold strV
  rw [hX] at HX ⊢
  clear hX
  by_cases h3 : k = 3
  · subst h3
    rw [if_pos rfl]
    go_enter Tryd.func28, Tryd.ntmps28
    go_wp2_with fail
    ((try simp only [Exit.inBlock, Exit.then]); refine bodyPost_ret (by first | (simp [results, Tryd.results28, go_sem, *]; done) | (simp [results, Tryd.results28, go_sem, *]; rfl) | (simp [results, Tryd.results28, go_sem, ↓IntWalk.iteOmega, *]; try rfl)) rfl ?_)
    refine ⟨rfl, ?_⟩
    (repeat' (first | (with_reducible exact Below.refl _ _) | (with_reducible assumption) | (with_reducible refine Below.alloc ?_ ?_ _) | (with_reducible refine below_drewN ?_ _) | (with_reducible refine Below.drew ?_) | (with_reducible refine Below.setCell ?_ ?_ _) | (with_reducible refine below_via (by assumption) ?_ ?_) | (with_reducible refine below_via (later_below _) ?_ ?_) | (with_reducible exact Nat.le_refl _) | omega | (simp; omega) | (simp; done)))
  · rw [if_neg h3]
    have e3 : (k == 3) = false := by simpa using h3
    by_cases h2 : k = 2
    · subst h2
      cases hv : vldB p q
      · rw [if_neg (by simp)]
        go_enter Tryd.func28, Tryd.ntmps28
        go_wp2_with (first | (go_at_call 37; refine (valid_any _ _ _ (by omega) (by omega)).mono ?_; rintro e w1 ⟨rfl, hb⟩; (refine mem hb ?_; intro N hN hz hc hf; (try simp at hN); subst hN)))
        ((try simp only [Exit.inBlock, Exit.then]); refine bodyPost_ret (by first | (simp [results, Tryd.results28, go_sem, *]; done) | (simp [results, Tryd.results28, go_sem, *]; rfl) | (simp [results, Tryd.results28, go_sem, ↓IntWalk.iteOmega, *]; try rfl)) rfl ?_)
        refine ⟨rfl, ?_⟩
        (repeat' (first | (with_reducible exact Below.refl _ _) | (with_reducible assumption) | (with_reducible refine Below.alloc ?_ ?_ _) | (with_reducible refine below_drewN ?_ _) | (with_reducible refine Below.drew ?_) | (with_reducible refine Below.setCell ?_ ?_ _) | (with_reducible refine below_via (by assumption) ?_ ?_) | (with_reducible refine below_via (later_below _) ?_ ?_) | (with_reducible exact Nat.le_refl _) | omega | (simp; omega) | (simp; done)))
      · rw [if_pos ⟨rfl, rfl⟩]
        go_enter Tryd.func28, Tryd.ntmps28
        go_wp2_with (first | (go_at_call 37; refine (valid_any _ _ _ (by omega) (by omega)).mono ?_; rintro e w1 ⟨rfl, hb⟩; (refine mem hb ?_; intro N hN hz hc hf; (try simp at hN); subst hN)) | (go_at_call 29; refine (HX.out _ ?_).mono ?_; (focus ((repeat' (first | (with_reducible exact Below.refl _ _) | (with_reducible assumption) | (with_reducible refine Below.alloc ?_ ?_ _) | (with_reducible refine below_drewN ?_ _) | (with_reducible refine Below.drew ?_) | (with_reducible refine Below.setCell ?_ ?_ _) | (with_reducible refine below_via (by assumption) ?_ ?_) | (with_reducible refine below_via (later_below _) ?_ ?_) | (with_reducible exact Nat.le_refl _) | omega | (simp; omega) | (simp; done))))); rintro e w2 ⟨rfl, hb⟩))
        ((try simp only [Exit.inBlock, Exit.then]); refine bodyPost_ret (by first | (simp [results, Tryd.results28, go_sem, *]; done) | (simp [results, Tryd.results28, go_sem, *]; rfl) | (simp [results, Tryd.results28, go_sem, ↓IntWalk.iteOmega, *]; try rfl)) rfl ?_)
        refine ⟨rfl, ?_⟩
        (repeat' (first | (with_reducible exact Below.refl _ _) | (with_reducible assumption) | (with_reducible refine Below.alloc ?_ ?_ _) | (with_reducible refine below_drewN ?_ _) | (with_reducible refine Below.drew ?_) | (with_reducible refine Below.setCell ?_ ?_ _) | (with_reducible refine below_via (by assumption) ?_ ?_) | (with_reducible refine below_via (later_below _) ?_ ?_) | (with_reducible exact Nat.le_refl _) | omega | (simp; omega) | (simp; done)))
    · rw [if_neg (fun h => h2 h.1)]
      have e2 : (k == 2) = false := by simpa using h2
      go_enter Tryd.func28, Tryd.ntmps28
      go_wp2_with fail
      ((try simp only [Exit.inBlock, Exit.then]); refine bodyPost_ret (by first | (simp [results, Tryd.results28, go_sem, *]; done) | (simp [results, Tryd.results28, go_sem, *]; rfl) | (simp [results, Tryd.results28, go_sem, ↓IntWalk.iteOmega, *]; try rfl)) rfl ?_)
      refine ⟨rfl, ?_⟩
      (repeat' (first | (with_reducible exact Below.refl _ _) | (with_reducible assumption) | (with_reducible refine Below.alloc ?_ ?_ _) | (with_reducible refine below_drewN ?_ _) | (with_reducible refine Below.drew ?_) | (with_reducible refine Below.setCell ?_ ?_ _) | (with_reducible refine below_via (by assumption) ?_ ?_) | (with_reducible refine below_via (later_below _) ?_ ?_) | (with_reducible exact Nat.le_refl _) | omega | (simp; omega) | (simp; done)))

/-! ### Less -/
/-- Whether the first value is less, and the error. -/
def lessV (k p q : Int) (s : ByteArray) (k' p' q' : Int) (s' : ByteArray) : Bool × Int :=
  if k = 2 ∧ k' = 2 ∧ vldB p q = true ∧ vldB p' q' = true then (decide (cmpT p q p' q' < 0), 0) else if k = 3 ∧ k' = 3 then (Op.bytesLess s.toList s'.toList, 0) else (false, 8)
theorem lessV_cases (k k' : Int) (a b : Bool) : (k = 2 ∧ k' = 2 ∧ a = true ∧ b = true) ∨ (k = 2 ∧ k' = 2 ∧ a = true ∧ b = false) ∨ (k = 2 ∧ k' = 2 ∧ a = false) ∨ (k = 2 ∧ ¬ k' = 2) ∨ (k = 3 ∧ k' = 3) ∨ (k = 3 ∧ ¬ k' = 3) ∨ (¬ k = 2 ∧ ¬ k = 3) := by
  cases a <;> cases b <;> simp <;> omega

set_option maxHeartbeats 4000000 in
set_option maxRecDepth 100000 in
theorem less_v (k p q : Int) (s : ByteArray) (r k' p' q' : Int) (s' : ByteArray) (r' : Int) (w : World) (hp : -9223372036854775808 ≤ p) (hp2 : p ≤ 9223372036854775807) (hq : -9223372036854775808 ≤ p') (hq2 : p' ≤ 9223372036854775807) :
    Calls Tryd.prog 19 #[vV k p q s r, vV k' p' q' s' r'] w fun e w' => e = .returned (.tuple #[.bool (lessV k p q s k' p' q' s').1, .int .i64 (lessV k p q s k' p' q' s').2]) ∧ Below w.heap.size w w' := by
  rcases lessV_cases k k' (vldB p q) (vldB p' q') with ⟨rfl, rfl, h1, h2⟩ | ⟨rfl, rfl, h1, h2⟩ | ⟨rfl, rfl, h1⟩ | ⟨rfl, h⟩ | ⟨rfl, rfl⟩ | ⟨rfl, h⟩ | ⟨h, h2⟩
  · have e : lessV 2 p q s 2 p' q' s' = (decide (cmpT p q p' q' < 0), 0) := by unfold lessV; rw [if_pos ⟨rfl, rfl, h1, h2⟩]
    rw [e]; clear e
    go_enter Tryd.func19, Tryd.ntmps19
    go_wp2_with (first | (go_at_call 37; refine (valid_any _ _ _ (by omega) (by omega)).mono ?_; rintro e w1 ⟨rfl, hb⟩; (refine mem hb ?_; intro N hN hz hc hf; (try simp at hN); subst hN)) | (go_at_call 42; refine (cmp_any _ _ _ _ _ (by omega) (by omega) (by omega) (by omega)).mono ?_; rintro e w1 ⟨rfl, hb⟩; (refine mem hb ?_; intro N hN hz hc hf; (try simp at hN); subst hN)))
    ((try simp only [Exit.inBlock, Exit.then]); refine bodyPost_ret (by first | (simp [results, Tryd.results19, go_sem, *]; done) | (simp [results, Tryd.results19, go_sem, *]; rfl) | (simp [results, Tryd.results19, go_sem, ↓IntWalk.iteOmega, *]; try rfl)) rfl ?_)
    refine ⟨rfl, ?_⟩
    (repeat' (first | (with_reducible exact Below.refl _ _) | (with_reducible assumption) | (with_reducible refine Below.alloc ?_ ?_ _) | (with_reducible refine below_drewN ?_ _) | (with_reducible refine Below.drew ?_) | (with_reducible refine Below.setCell ?_ ?_ _) | (with_reducible refine below_via (by assumption) ?_ ?_) | (with_reducible refine below_via (later_below _) ?_ ?_) | (with_reducible exact Nat.le_refl _) | omega | (simp; omega) | (simp; done)))
  · have e : lessV 2 p q s 2 p' q' s' = (false, 8) := by unfold lessV; rw [if_neg (by simp [h2]), if_neg (by simp)]
    rw [e]; clear e
    go_enter Tryd.func19, Tryd.ntmps19
    go_wp2_with (first | (go_at_call 37; refine (valid_any _ _ _ (by omega) (by omega)).mono ?_; rintro e w1 ⟨rfl, hb⟩; (refine mem hb ?_; intro N hN hz hc hf; (try simp at hN); subst hN)))
    ((try simp only [Exit.inBlock, Exit.then]); refine bodyPost_ret (by first | (simp [results, Tryd.results19, go_sem, *]; done) | (simp [results, Tryd.results19, go_sem, *]; rfl) | (simp [results, Tryd.results19, go_sem, ↓IntWalk.iteOmega, *]; try rfl)) rfl ?_)
    refine ⟨rfl, ?_⟩
    (repeat' (first | (with_reducible exact Below.refl _ _) | (with_reducible assumption) | (with_reducible refine Below.alloc ?_ ?_ _) | (with_reducible refine below_drewN ?_ _) | (with_reducible refine Below.drew ?_) | (with_reducible refine Below.setCell ?_ ?_ _) | (with_reducible refine below_via (by assumption) ?_ ?_) | (with_reducible refine below_via (later_below _) ?_ ?_) | (with_reducible exact Nat.le_refl _) | omega | (simp; omega) | (simp; done)))
  · have e : lessV 2 p q s 2 p' q' s' = (false, 8) := by unfold lessV; rw [if_neg (by simp [h1]), if_neg (by simp)]
    rw [e]; clear e
    go_enter Tryd.func19, Tryd.ntmps19
    go_wp2_with (first | (go_at_call 37; refine (valid_any _ _ _ (by omega) (by omega)).mono ?_; rintro e w1 ⟨rfl, hb⟩; (refine mem hb ?_; intro N hN hz hc hf; (try simp at hN); subst hN)))
    ((try simp only [Exit.inBlock, Exit.then]); refine bodyPost_ret (by first | (simp [results, Tryd.results19, go_sem, *]; done) | (simp [results, Tryd.results19, go_sem, *]; rfl) | (simp [results, Tryd.results19, go_sem, ↓IntWalk.iteOmega, *]; try rfl)) rfl ?_)
    refine ⟨rfl, ?_⟩
    (repeat' (first | (with_reducible exact Below.refl _ _) | (with_reducible assumption) | (with_reducible refine Below.alloc ?_ ?_ _) | (with_reducible refine below_drewN ?_ _) | (with_reducible refine Below.drew ?_) | (with_reducible refine Below.setCell ?_ ?_ _) | (with_reducible refine below_via (by assumption) ?_ ?_) | (with_reducible refine below_via (later_below _) ?_ ?_) | (with_reducible exact Nat.le_refl _) | omega | (simp; omega) | (simp; done)))
  · have e : lessV 2 p q s k' p' q' s' = (false, 8) := by unfold lessV; rw [if_neg (by simp [h]), if_neg (by simp)]
    rw [e]; clear e
    have h0 : (k' == 2) = false := by simpa using h
    go_enter Tryd.func19, Tryd.ntmps19
    go_wp2_with fail
    ((try simp only [Exit.inBlock, Exit.then]); refine bodyPost_ret (by first | (simp [results, Tryd.results19, go_sem, *]; done) | (simp [results, Tryd.results19, go_sem, *]; rfl) | (simp [results, Tryd.results19, go_sem, ↓IntWalk.iteOmega, *]; try rfl)) rfl ?_)
    refine ⟨rfl, ?_⟩
    (repeat' (first | (with_reducible exact Below.refl _ _) | (with_reducible assumption) | (with_reducible refine Below.alloc ?_ ?_ _) | (with_reducible refine below_drewN ?_ _) | (with_reducible refine Below.drew ?_) | (with_reducible refine Below.setCell ?_ ?_ _) | (with_reducible refine below_via (by assumption) ?_ ?_) | (with_reducible refine below_via (later_below _) ?_ ?_) | (with_reducible exact Nat.le_refl _) | omega | (simp; omega) | (simp; done)))
  · have e : lessV 3 p q s 3 p' q' s' = (Op.bytesLess s.toList s'.toList, 0) := by unfold lessV; rw [if_neg (by simp), if_pos ⟨rfl, rfl⟩]
    rw [e]; clear e
    go_enter Tryd.func19, Tryd.ntmps19
    go_wp2_with fail
    ((try simp only [Exit.inBlock, Exit.then]); refine bodyPost_ret (by first | (simp [results, Tryd.results19, go_sem, *]; done) | (simp [results, Tryd.results19, go_sem, *]; rfl) | (simp [results, Tryd.results19, go_sem, ↓IntWalk.iteOmega, *]; try rfl)) rfl ?_)
    refine ⟨rfl, ?_⟩
    (repeat' (first | (with_reducible exact Below.refl _ _) | (with_reducible assumption) | (with_reducible refine Below.alloc ?_ ?_ _) | (with_reducible refine below_drewN ?_ _) | (with_reducible refine Below.drew ?_) | (with_reducible refine Below.setCell ?_ ?_ _) | (with_reducible refine below_via (by assumption) ?_ ?_) | (with_reducible refine below_via (later_below _) ?_ ?_) | (with_reducible exact Nat.le_refl _) | omega | (simp; omega) | (simp; done)))
  · have e : lessV 3 p q s k' p' q' s' = (false, 8) := by unfold lessV; rw [if_neg (by simp), if_neg (by simp [h])]
    rw [e]; clear e
    have h0 : (k' == 3) = false := by simpa using h
    go_enter Tryd.func19, Tryd.ntmps19
    go_wp2_with fail
    ((try simp only [Exit.inBlock, Exit.then]); refine bodyPost_ret (by first | (simp [results, Tryd.results19, go_sem, *]; done) | (simp [results, Tryd.results19, go_sem, *]; rfl) | (simp [results, Tryd.results19, go_sem, ↓IntWalk.iteOmega, *]; try rfl)) rfl ?_)
    refine ⟨rfl, ?_⟩
    (repeat' (first | (with_reducible exact Below.refl _ _) | (with_reducible assumption) | (with_reducible refine Below.alloc ?_ ?_ _) | (with_reducible refine below_drewN ?_ _) | (with_reducible refine Below.drew ?_) | (with_reducible refine Below.setCell ?_ ?_ _) | (with_reducible refine below_via (by assumption) ?_ ?_) | (with_reducible refine below_via (later_below _) ?_ ?_) | (with_reducible exact Nat.le_refl _) | omega | (simp; omega) | (simp; done)))
  · have e : lessV k p q s k' p' q' s' = (false, 8) := by unfold lessV; rw [if_neg (by simp [h]), if_neg (by simp [h2])]
    rw [e]; clear e
    have h0 : (k == 2) = false := by simpa using h
    have h3 : (k == 3) = false := by simpa using h2
    go_enter Tryd.func19, Tryd.ntmps19
    go_wp2_with fail
    ((try simp only [Exit.inBlock, Exit.then]); refine bodyPost_ret (by first | (simp [results, Tryd.results19, go_sem, *]; done) | (simp [results, Tryd.results19, go_sem, *]; rfl) | (simp [results, Tryd.results19, go_sem, ↓IntWalk.iteOmega, *]; try rfl)) rfl ?_)
    refine ⟨rfl, ?_⟩
    (repeat' (first | (with_reducible exact Below.refl _ _) | (with_reducible assumption) | (with_reducible refine Below.alloc ?_ ?_ _) | (with_reducible refine below_drewN ?_ _) | (with_reducible refine Below.drew ?_) | (with_reducible refine Below.setCell ?_ ?_ _) | (with_reducible refine below_via (by assumption) ?_ ?_) | (with_reducible refine below_via (later_below _) ?_ ?_) | (with_reducible exact Nat.le_refl _) | omega | (simp; omega) | (simp; done)))

theorem bytes_at {l m : List UInt8} {i : Nat} {a b : UInt8} (h1 : l[i]? = some a) (h2 : m[i]? = some b) : Op.bytesLess (l.drop i) (m.drop i) = (decide (a < b) || (a == b && Op.bytesLess (l.drop (i + 1)) (m.drop (i + 1)))) := by
  obtain ⟨h3, rfl⟩ := List.getElem?_eq_some_iff.1 h1
  obtain ⟨h4, rfl⟩ := List.getElem?_eq_some_iff.1 h2
  rw [List.drop_eq_getElem_cons h3, List.drop_eq_getElem_cons h4]; rfl
theorem bytes_end {l m : List UInt8} {i : Nat} (hi : i ≤ l.length) (hj : i ≤ m.length) (h : i = l.length ∨ i = m.length) : Op.bytesLess (l.drop i) (m.drop i) = decide (l.length < m.length) := by
  rcases Nat.lt_trichotomy l.length m.length with h2 | h2 | h2
  · have e1 : l.drop i = [] := List.drop_eq_nil_of_le (by omega)
    rw [e1, List.drop_eq_getElem_cons (by omega : i < m.length), decide_eq_true h2]; rfl
  · have e1 : m.drop i = [] := List.drop_eq_nil_of_le (by omega)
    rw [e1, decide_eq_false (by omega)]
    cases l.drop i <;> rfl
  · have e1 : m.drop i = [] := List.drop_eq_nil_of_le (by omega)
    rw [e1, decide_eq_false (by omega)]
    cases l.drop i <;> rfl
set_option maxHeartbeats 2000000 in
set_option maxRecDepth 100000 in
theorem before_v (s t : ByteArray) (w : World) (hs : s.size ≤ 9223372036854775807) (ht : t.size ≤ 9223372036854775807) : Calls Tryd.prog 44 #[.string s, .string t] w fun e w' => e = .returned (.bool (Op.bytesLess s.toList t.toList)) ∧ Below w.heap.size w w' := by
  have hl1 : s.toList.length = s.size := by rw [Lib.toList_data]; simp
  have hl2 : t.toList.length = t.size := by rw [Lib.toList_data]; simp
  have hg1 : ∀ i (h : i < s.size), s.toList[i]? = some s[i] := fun i h => by rw [Lib.toList_data, List.getElem?_eq_getElem (by simpa using h)]; rfl
  have hg2 : ∀ i (h : i < t.size), t.toList[i]? = some t[i] := fun i h => by rw [Lib.toList_data, List.getElem?_eq_getElem (by simpa using h)]; rfl
  have H1 := Lib.hid hl1
  have H2 := Lib.hid hl2
  have G1 := Lib.hid hg1
  have G2 := Lib.hid hg2
  obtain ⟨L, hL⟩ : ∃ L, Op.bytesLess s.toList t.toList = L := ⟨_, rfl⟩
  have HL := Lib.hid hL
  clear hl1 hl2 hg1 hg2
  rw [hL]
  clear hL
  go_enter Tryd.func44, Tryd.ntmps44
  go_wp2
  go_loopw [5] (fun u wr => ∃ i : Nat, Below w.heap.size w wr ∧ i ≤ s.size ∧ i ≤ t.size ∧ u = .int .i64 i ∧ Hid (L = Op.bytesLess (s.toList.drop i) (t.toList.drop i))) (fun u _ => s.size - (intOf u).toNat)
  case atStart => exact ⟨0, Below.refl _ _, Nat.zero_le _, Nat.zero_le _, rfl, by show _ = _; rw [← HL.out]; rfl⟩
  case round =>
    obtain ⟨i, hbel, hi, hj, rfl, hinv⟩ := hrel
    have hsz := hbel.size
    have HB := Lib.hid hbel
    clear hbel
    by_cases hlt : i < s.size ∧ i < t.size
    · obtain ⟨h1, h2⟩ := hlt
      have hstep := hinv.out.trans (bytes_at (G1.out i h1) (G2.out i h2))
      have HS := Lib.hid hstep
      clear hstep hinv
      by_cases hne : (s[i]'h1).toNat = (t[i]'h2).toNat
      · have heq : s[i]'h1 = t[i]'h2 := UInt8.toNat_inj.1 hne
        have HEQ := Lib.hid heq
        clear heq
        go_wp2_with fail
        go_quiet (fail)
        go_wp2
        refine ⟨⟨i + 1, (by have hbel := HB.out; (repeat' (first | (with_reducible exact Below.refl _ _) | (with_reducible assumption) | (with_reducible refine Below.alloc ?_ ?_ _) | (with_reducible refine below_drewN ?_ _) | (with_reducible refine Below.drew ?_) | (with_reducible refine Below.setCell ?_ ?_ _) | (with_reducible refine below_via (by assumption) ?_ ?_) | (with_reducible refine below_via (later_below _) ?_ ?_) | (with_reducible exact Nat.le_refl _) | omega | (simp; omega) | (simp; done)))), h1, h2, by go_num, ?_⟩, by simp [intOf]; omega⟩
        show _ = _
        rw [HS.out, HEQ.out]
        simp
      · have hn2 : ¬ s[i]'h1 = t[i]'h2 := fun e => hne (by rw [e])
        have HN := Lib.hid hn2
        clear hn2
        go_wp2_with fail
        go_quiet (fail)
        go_wp2_with fail
        go_quiet (fail)
        go_wp2
        go_returns
        refine ⟨?_, by have hbel := HB.out; (repeat' (first | (with_reducible exact Below.refl _ _) | (with_reducible assumption) | (with_reducible refine Below.alloc ?_ ?_ _) | (with_reducible refine below_drewN ?_ _) | (with_reducible refine Below.drew ?_) | (with_reducible refine Below.setCell ?_ ?_ _) | (with_reducible refine below_via (by assumption) ?_ ?_) | (with_reducible refine below_via (later_below _) ?_ ?_) | (with_reducible exact Nat.le_refl _) | omega | (simp; omega) | (simp; done)))⟩
        rw [HS.out]
        have e1 : (s[i]'h1 == t[i]'h2) = false := by simpa using HN.out
        rw [e1, Bool.false_and, Bool.or_false]
        congr 2
    · have hres := hinv.out.trans (bytes_end (by rw [H1.out]; exact hi) (by rw [H2.out]; exact hj) (by rw [H1.out, H2.out]; omega))
      rw [H1.out, H2.out] at hres
      have HR := Lib.hid hres
      have hcs : (i < s.size ∧ ¬ i < t.size) ∨ ¬ i < s.size := by omega
      clear hres hinv hlt
      rcases hcs with ⟨h1, h2⟩ | h1
      all_goals
        go_wp2
        go_returns
        refine ⟨?_, by have hbel := HB.out; (repeat' (first | (with_reducible exact Below.refl _ _) | (with_reducible assumption) | (with_reducible refine Below.alloc ?_ ?_ _) | (with_reducible refine below_drewN ?_ _) | (with_reducible refine Below.drew ?_) | (with_reducible refine Below.setCell ?_ ?_ _) | (with_reducible refine below_via (by assumption) ?_ ?_) | (with_reducible refine below_via (later_below _) ?_ ?_) | (with_reducible exact Nat.le_refl _) | omega | (simp; omega) | (simp; done)))⟩
        rw [HR.out]
        try rfl
        try (congr 2; simp; done)

set_option maxHeartbeats 4000000 in
set_option maxRecDepth 100000 in
theorem rless_v (k p q : Int) (s : ByteArray) (r k' p' q' : Int) (s' : ByteArray) (r' : Int) (w : World) (hp : -9223372036854775808 ≤ p) (hp2 : p ≤ 9223372036854775807) (hq : -9223372036854775808 ≤ p') (hq2 : p' ≤ 9223372036854775807) (hs : s.size ≤ 9223372036854775807) (hs' : s'.size ≤ 9223372036854775807) :
    Calls Tryd.prog 20 #[vV k p q s r, vV k' p' q' s' r'] w fun e w' => e = .returned (.tuple #[.bool (lessV k p q s k' p' q' s').1, .int .i64 (lessV k p q s k' p' q' s').2]) ∧ Below w.heap.size w w' := by
  rcases lessV_cases k k' (vldB p q) (vldB p' q') with ⟨rfl, rfl, h1, h2⟩ | ⟨rfl, rfl, h1, h2⟩ | ⟨rfl, rfl, h1⟩ | ⟨rfl, h⟩ | ⟨rfl, rfl⟩ | ⟨rfl, h⟩ | ⟨h, h2⟩
  · have e : lessV 2 p q s 2 p' q' s' = (decide (cmpT p q p' q' < 0), 0) := by unfold lessV; rw [if_pos ⟨rfl, rfl, h1, h2⟩]
    rw [e]; clear e
    go_enter Tryd.func20, Tryd.ntmps20
    go_wp2_with (first | (go_at_call 25; refine (rvalid_any _ _ _ (by omega) (by omega)).mono ?_; rintro e w1 ⟨rfl, hb⟩; (refine mem hb ?_; intro N hN hz hc hf; (try simp at hN); subst hN)) | (go_at_call 43; refine (rcmp_any _ _ _ _ _ (by omega) (by omega) (by omega) (by omega)).mono ?_; rintro e w1 ⟨rfl, hb⟩; (refine mem hb ?_; intro N hN hz hc hf; (try simp at hN); subst hN)))
    ((try simp only [Exit.inBlock, Exit.then]); refine bodyPost_ret (by first | (simp [results, Tryd.results20, go_sem, *]; done) | (simp [results, Tryd.results20, go_sem, *]; rfl) | (simp [results, Tryd.results20, go_sem, ↓IntWalk.iteOmega, *]; try rfl)) rfl ?_)
    refine ⟨rfl, ?_⟩
    (repeat' (first | (with_reducible exact Below.refl _ _) | (with_reducible assumption) | (with_reducible refine Below.alloc ?_ ?_ _) | (with_reducible refine below_drewN ?_ _) | (with_reducible refine Below.drew ?_) | (with_reducible refine Below.setCell ?_ ?_ _) | (with_reducible refine below_via (by assumption) ?_ ?_) | (with_reducible refine below_via (later_below _) ?_ ?_) | (with_reducible exact Nat.le_refl _) | omega | (simp; omega) | (simp; done)))
  · have e : lessV 2 p q s 2 p' q' s' = (false, 8) := by unfold lessV; rw [if_neg (by simp [h2]), if_neg (by simp)]
    rw [e]; clear e
    go_enter Tryd.func20, Tryd.ntmps20
    go_wp2_with (first | (go_at_call 25; refine (rvalid_any _ _ _ (by omega) (by omega)).mono ?_; rintro e w1 ⟨rfl, hb⟩; (refine mem hb ?_; intro N hN hz hc hf; (try simp at hN); subst hN)))
    ((try simp only [Exit.inBlock, Exit.then]); refine bodyPost_ret (by first | (simp [results, Tryd.results20, go_sem, *]; done) | (simp [results, Tryd.results20, go_sem, *]; rfl) | (simp [results, Tryd.results20, go_sem, ↓IntWalk.iteOmega, *]; try rfl)) rfl ?_)
    refine ⟨rfl, ?_⟩
    (repeat' (first | (with_reducible exact Below.refl _ _) | (with_reducible assumption) | (with_reducible refine Below.alloc ?_ ?_ _) | (with_reducible refine below_drewN ?_ _) | (with_reducible refine Below.drew ?_) | (with_reducible refine Below.setCell ?_ ?_ _) | (with_reducible refine below_via (by assumption) ?_ ?_) | (with_reducible refine below_via (later_below _) ?_ ?_) | (with_reducible exact Nat.le_refl _) | omega | (simp; omega) | (simp; done)))
  · have e : lessV 2 p q s 2 p' q' s' = (false, 8) := by unfold lessV; rw [if_neg (by simp [h1]), if_neg (by simp)]
    rw [e]; clear e
    go_enter Tryd.func20, Tryd.ntmps20
    go_wp2_with (first | (go_at_call 25; refine (rvalid_any _ _ _ (by omega) (by omega)).mono ?_; rintro e w1 ⟨rfl, hb⟩; (refine mem hb ?_; intro N hN hz hc hf; (try simp at hN); subst hN)))
    ((try simp only [Exit.inBlock, Exit.then]); refine bodyPost_ret (by first | (simp [results, Tryd.results20, go_sem, *]; done) | (simp [results, Tryd.results20, go_sem, *]; rfl) | (simp [results, Tryd.results20, go_sem, ↓IntWalk.iteOmega, *]; try rfl)) rfl ?_)
    refine ⟨rfl, ?_⟩
    (repeat' (first | (with_reducible exact Below.refl _ _) | (with_reducible assumption) | (with_reducible refine Below.alloc ?_ ?_ _) | (with_reducible refine below_drewN ?_ _) | (with_reducible refine Below.drew ?_) | (with_reducible refine Below.setCell ?_ ?_ _) | (with_reducible refine below_via (by assumption) ?_ ?_) | (with_reducible refine below_via (later_below _) ?_ ?_) | (with_reducible exact Nat.le_refl _) | omega | (simp; omega) | (simp; done)))
  · have e : lessV 2 p q s k' p' q' s' = (false, 8) := by unfold lessV; rw [if_neg (by simp [h]), if_neg (by simp)]
    rw [e]; clear e
    have h0 : (k' == 2) = false := by simpa using h
    go_enter Tryd.func20, Tryd.ntmps20
    go_wp2_with fail
    ((try simp only [Exit.inBlock, Exit.then]); refine bodyPost_ret (by first | (simp [results, Tryd.results20, go_sem, *]; done) | (simp [results, Tryd.results20, go_sem, *]; rfl) | (simp [results, Tryd.results20, go_sem, ↓IntWalk.iteOmega, *]; try rfl)) rfl ?_)
    refine ⟨rfl, ?_⟩
    (repeat' (first | (with_reducible exact Below.refl _ _) | (with_reducible assumption) | (with_reducible refine Below.alloc ?_ ?_ _) | (with_reducible refine below_drewN ?_ _) | (with_reducible refine Below.drew ?_) | (with_reducible refine Below.setCell ?_ ?_ _) | (with_reducible refine below_via (by assumption) ?_ ?_) | (with_reducible refine below_via (later_below _) ?_ ?_) | (with_reducible exact Nat.le_refl _) | omega | (simp; omega) | (simp; done)))
  · have e : lessV 3 p q s 3 p' q' s' = (Op.bytesLess s.toList s'.toList, 0) := by unfold lessV; rw [if_neg (by simp), if_pos ⟨rfl, rfl⟩]
    rw [e]; clear e
    go_enter Tryd.func20, Tryd.ntmps20
    go_wp2_with (first | (go_at_call 44; refine (before_v s s' _ (by omega) (by omega)).mono ?_; rintro e w1 ⟨rfl, hb⟩; (refine mem hb ?_; intro N hN hz hc hf; (try simp at hN); subst hN)))
    ((try simp only [Exit.inBlock, Exit.then]); refine bodyPost_ret (by first | (simp [results, Tryd.results20, go_sem, *]; done) | (simp [results, Tryd.results20, go_sem, *]; rfl) | (simp [results, Tryd.results20, go_sem, ↓IntWalk.iteOmega, *]; try rfl)) rfl ?_)
    refine ⟨rfl, ?_⟩
    (repeat' (first | (with_reducible exact Below.refl _ _) | (with_reducible assumption) | (with_reducible refine Below.alloc ?_ ?_ _) | (with_reducible refine below_drewN ?_ _) | (with_reducible refine Below.drew ?_) | (with_reducible refine Below.setCell ?_ ?_ _) | (with_reducible refine below_via (by assumption) ?_ ?_) | (with_reducible refine below_via (later_below _) ?_ ?_) | (with_reducible exact Nat.le_refl _) | omega | (simp; omega) | (simp; done)))
  · have e : lessV 3 p q s k' p' q' s' = (false, 8) := by unfold lessV; rw [if_neg (by simp), if_neg (by simp [h])]
    rw [e]; clear e
    have h0 : (k' == 3) = false := by simpa using h
    go_enter Tryd.func20, Tryd.ntmps20
    go_wp2_with fail
    ((try simp only [Exit.inBlock, Exit.then]); refine bodyPost_ret (by first | (simp [results, Tryd.results20, go_sem, *]; done) | (simp [results, Tryd.results20, go_sem, *]; rfl) | (simp [results, Tryd.results20, go_sem, ↓IntWalk.iteOmega, *]; try rfl)) rfl ?_)
    refine ⟨rfl, ?_⟩
    (repeat' (first | (with_reducible exact Below.refl _ _) | (with_reducible assumption) | (with_reducible refine Below.alloc ?_ ?_ _) | (with_reducible refine below_drewN ?_ _) | (with_reducible refine Below.drew ?_) | (with_reducible refine Below.setCell ?_ ?_ _) | (with_reducible refine below_via (by assumption) ?_ ?_) | (with_reducible refine below_via (later_below _) ?_ ?_) | (with_reducible exact Nat.le_refl _) | omega | (simp; omega) | (simp; done)))
  · have e : lessV k p q s k' p' q' s' = (false, 8) := by unfold lessV; rw [if_neg (by simp [h]), if_neg (by simp [h2])]
    rw [e]; clear e
    have h0 : (k == 2) = false := by simpa using h
    have h3 : (k == 3) = false := by simpa using h2
    go_enter Tryd.func20, Tryd.ntmps20
    go_wp2_with fail
    ((try simp only [Exit.inBlock, Exit.then]); refine bodyPost_ret (by first | (simp [results, Tryd.results20, go_sem, *]; done) | (simp [results, Tryd.results20, go_sem, *]; rfl) | (simp [results, Tryd.results20, go_sem, ↓IntWalk.iteOmega, *]; try rfl)) rfl ?_)
    refine ⟨rfl, ?_⟩
    (repeat' (first | (with_reducible exact Below.refl _ _) | (with_reducible assumption) | (with_reducible refine Below.alloc ?_ ?_ _) | (with_reducible refine below_drewN ?_ _) | (with_reducible refine Below.drew ?_) | (with_reducible refine Below.setCell ?_ ?_ _) | (with_reducible refine below_via (by assumption) ?_ ?_) | (with_reducible refine below_via (later_below _) ?_ ?_) | (with_reducible exact Nat.le_refl _) | omega | (simp; omega) | (simp; done)))

end Go.Proofs.YtpahemohpaaeoaaDoor
