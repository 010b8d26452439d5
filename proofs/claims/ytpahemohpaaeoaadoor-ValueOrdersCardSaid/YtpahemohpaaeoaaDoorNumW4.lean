/- The contract of numeral.find. -/
import Derived.Test.YtpahemohpaaeoaaDoorNumW3
import Derived.Test.YtpahemohpaaeoaaDoorMem
namespace Go.Proofs.YtpahemohpaaeoaaDoor
open Go.RowKit
set_option linter.unusedVariables false

def findV (o : Option Find) : Value := match o with
  | none => .tuple #[.agg #[.bool false, .int .i64 0, .int .i64 0, .int .i64 0], .bool false]
  | some f => .tuple #[.agg #[.bool f.hex, .int .i64 f.point, .int .i64 f.end_, .int .i64 f.from_], .bool true]
theorem ret_find {o : Option Find} {v : Value} (f : Option Find) (h : o = f) (h2 : v = findV f) : Ending.returned v = .returned (findV o) := by rw [h, h2]

theorem findL_none {l : List UInt8} {i j : Nat} (hj : j = runL l 10 i) (h1 : j = i) : findL l i = none := by
  unfold findL; simp only []; rw [← hj, if_pos h1]
theorem findL_hex {l : List UInt8} {i j r : Nat} (hj : j = runL l 10 i) (hr : r = runL l 16 (j + 1)) (h2 : j = i + 1 ∧ bat l i = 48 ∧ j < l.length ∧ (bat l j = 120 ∨ bat l j = 88) ∧ j + 1 < r) : findL l i = some ⟨true, -1, j + 1, r⟩ := by
  subst hr; unfold findL; simp only []; rw [← hj, if_neg (by omega), if_pos h2]
theorem findL_point {l : List UInt8} {i j r s : Nat} (hj : j = runL l 10 i) (hr : r = runL l 16 (j + 1)) (hs : s = runL l 10 (j + 1)) (h1 : j ≠ i) (h2 : ¬ (j = i + 1 ∧ bat l i = 48 ∧ j < l.length ∧ (bat l j = 120 ∨ bat l j = 88) ∧ j + 1 < r))
    (h3 : j < l.length ∧ bat l j = 46 ∧ j + 1 < s) : findL l i = some ⟨false, j, i, s⟩ := by
  subst hr hs; unfold findL; simp only []; rw [← hj, if_neg h1, if_neg h2, if_pos h3]
theorem findL_int {l : List UInt8} {i j r s : Nat} (hj : j = runL l 10 i) (hr : r = runL l 16 (j + 1)) (hs : s = runL l 10 (j + 1)) (h1 : j ≠ i) (h2 : ¬ (j = i + 1 ∧ bat l i = 48 ∧ j < l.length ∧ (bat l j = 120 ∨ bat l j = 88) ∧ j + 1 < r))
    (h3 : ¬ (j < l.length ∧ bat l j = 46 ∧ j + 1 < s)) : findL l i = some ⟨false, -1, i, j⟩ := by
  subst hr hs; unfold findL; simp only []; rw [← hj, if_neg h1, if_neg h2, if_neg h3]

theorem run_lit (s : ByteArray) (j b : Nat) (hi : j ≤ s.size) (hs : s.size ≤ 9223372036854775807) (hb : b ≤ 16) (k : Int) (hk : k = b) (w : World) (r : Nat) (hr : r = runL s.data.toList b j) :
    Calls Tryd.prog 64 #[.string s, .int .i64 (j : Int), .int .i64 k] w fun e w' => e = .returned (.int .i64 r) ∧ w = w' := by
  subst hk hr
  exact run_any s j b hi hs hb w
theorem run_succ (s : ByteArray) (j b : Nat) (hi : j + 1 ≤ s.size) (hs : s.size ≤ 9223372036854775807) (hb : b ≤ 16) (k : Int) (hk : k = b) (r : Nat) (hr : r = runL s.data.toList b (j + 1)) (w : World) :
    Calls Tryd.prog 64 #[.string s, .int .i64 ((j : Int) + 1), .int .i64 k] w fun e w' => e = .returned (.int .i64 r) ∧ w = w' :=
  run_lit s (j + 1) b hi hs hb k hk w r hr

/-- The facts that the walks of 'find' share. -/
structure FindFacts (s : ByteArray) (i j r t : Nat) : Prop where
  hj : j = runL s.data.toList 10 i
  hr : r = runL s.data.toList 16 (j + 1)
  ht : t = runL s.data.toList 10 (j + 1)

theorem FindFacts.run0 {s : ByteArray} {i j r t : Nat} (F : FindFacts s i j r t) (hi : i ≤ s.size) (hs : s.size ≤ 9223372036854775807) (w : World) :
    Calls Tryd.prog 64 #[.string s, .int .i64 (i : Int), .int .i64 10] w fun e w' => e = .returned (.int .i64 j) ∧ w = w' := run_lit s i 10 hi hs (by omega) 10 rfl w j F.hj
theorem FindFacts.run16 {s : ByteArray} {i j r t : Nat} (F : FindFacts s i j r t) (hi : j + 1 ≤ s.size) (hs : s.size ≤ 9223372036854775807) (w : World) :
    Calls Tryd.prog 64 #[.string s, .int .i64 ((j : Int) + 1), .int .i64 16] w fun e w' => e = .returned (.int .i64 r) ∧ w = w' := run_succ s j 16 hi hs (by omega) 16 rfl r F.hr w
theorem FindFacts.run10 {s : ByteArray} {i j r t : Nat} (F : FindFacts s i j r t) (hi : j + 1 ≤ s.size) (hs : s.size ≤ 9223372036854775807) (w : World) :
    Calls Tryd.prog 64 #[.string s, .int .i64 ((j : Int) + 1), .int .i64 10] w fun e w' => e = .returned (.int .i64 t) ∧ w = w' := run_succ s j 10 hi hs (by omega) 10 rfl t F.ht w

set_option maxHeartbeats 1000000 in
theorem find_none (s : ByteArray) (i r t : Nat) (hi : i ≤ s.size) (hs : s.size ≤ 9223372036854775807) (w : World) (F : FindFacts s i i r t) :
    Calls Tryd.prog 58 #[.string s, .int .i64 i] w fun e w' => e = .returned (findV (findL s.data.toList i)) ∧ Below w.heap.size w w' := by
  have HF := Lib.hid F
  clear F
  go_enter Tryd.func58, Tryd.ntmps58
  go_wp2_with (first | (go_at_call 64; refine (HF.out.run0 hi hs _).mono ?_; rintro e w' ⟨rfl, rfl⟩))
  ((try simp only [Exit.inBlock, Exit.then]); refine bodyPost_ret (by first | (simp [results, Tryd.results58, go_sem, *]; done) | (simp [results, Tryd.results58, go_sem, *]; rfl) | (simp [results, Tryd.results58, go_sem, ↓IntWalk.iteOmega, *]; try rfl)) rfl ?_)
  refine ⟨ret_find _ (findL_none HF.out.hj rfl) rfl, ?_⟩
  (repeat' (first | (with_reducible exact Below.refl _ _) | (with_reducible assumption) | (with_reducible refine Below.alloc ?_ ?_ _) | (with_reducible refine below_drewN ?_ _) | (with_reducible refine Below.drew ?_) | (with_reducible refine Below.setCell ?_ ?_ _) | (with_reducible refine below_via (by assumption) ?_ ?_) | (with_reducible refine below_via (later_below _) ?_ ?_) | (with_reducible exact Nat.le_refl _) | omega | (simp; omega) | (simp; done)))

set_option maxHeartbeats 1000000 in
theorem find_far (s : ByteArray) (i j r t : Nat) (hi : i ≤ s.size) (hs : s.size ≤ 9223372036854775807) (w : World) (F : FindFacts s i j r t) (hjs : j ≤ s.size) (hj : i + 1 < j) (ht : j < s.size → j + 1 ≤ t ∧ t ≤ s.size) :
    Calls Tryd.prog 58 #[.string s, .int .i64 i] w fun e w' => e = .returned (findV (findL s.data.toList i)) ∧ Below w.heap.size w w' := by
  have HF := Lib.hid F
  clear F
  by_cases h1 : j < s.size
  · have hb := bat_get s j h1
    obtain ⟨ht1, ht2⟩ := ht h1
    clear ht
    have HB := Lib.hid hb
    clear hb
    by_cases h2 : (s[j]'h1).toNat = 46
    · by_cases h3 : j + 1 < t
      all_goals
        go_enter Tryd.func58, Tryd.ntmps58
        go_wp2_with (first | (go_at_call 64; (first | (with_reducible refine (HF.out.run0 hi hs _).mono ?_) | (with_reducible refine (HF.out.run10 (by omega) hs _).mono ?_)); rintro e w' ⟨rfl, rfl⟩))
        ((try simp only [Exit.inBlock, Exit.then]); refine bodyPost_ret (by first | (simp [results, Tryd.results58, go_sem, *]; done) | (simp [results, Tryd.results58, go_sem, *]; rfl) | (simp [results, Tryd.results58, go_sem, ↓IntWalk.iteOmega, *]; try rfl)) rfl ?_)
        have hb := HB.out
        have hl : s.data.toList.length = s.size := by simp
      · refine ⟨ret_find _ (findL_point HF.out.hj HF.out.hr HF.out.ht (by omega) (by omega) (by omega)) rfl, ?_⟩
        (repeat' (first | (with_reducible exact Below.refl _ _) | (with_reducible assumption) | (with_reducible refine Below.alloc ?_ ?_ _) | (with_reducible refine below_drewN ?_ _) | (with_reducible refine Below.drew ?_) | (with_reducible refine Below.setCell ?_ ?_ _) | (with_reducible refine below_via (by assumption) ?_ ?_) | (with_reducible refine below_via (later_below _) ?_ ?_) | (with_reducible exact Nat.le_refl _) | omega | (simp; omega) | (simp; done)))
      · refine ⟨ret_find _ (findL_int HF.out.hj HF.out.hr HF.out.ht (by omega) (by omega) (by omega)) rfl, ?_⟩
        (repeat' (first | (with_reducible exact Below.refl _ _) | (with_reducible assumption) | (with_reducible refine Below.alloc ?_ ?_ _) | (with_reducible refine below_drewN ?_ _) | (with_reducible refine Below.drew ?_) | (with_reducible refine Below.setCell ?_ ?_ _) | (with_reducible refine below_via (by assumption) ?_ ?_) | (with_reducible refine below_via (later_below _) ?_ ?_) | (with_reducible exact Nat.le_refl _) | omega | (simp; omega) | (simp; done)))
    · go_enter Tryd.func58, Tryd.ntmps58
      go_wp2_with (first | (go_at_call 64; (first | (with_reducible refine (HF.out.run0 hi hs _).mono ?_) | (with_reducible refine (HF.out.run10 (by omega) hs _).mono ?_)); rintro e w' ⟨rfl, rfl⟩))
      ((try simp only [Exit.inBlock, Exit.then]); refine bodyPost_ret (by first | (simp [results, Tryd.results58, go_sem, *]; done) | (simp [results, Tryd.results58, go_sem, *]; rfl) | (simp [results, Tryd.results58, go_sem, ↓IntWalk.iteOmega, *]; try rfl)) rfl ?_)
      have hb := HB.out
      refine ⟨ret_find _ (findL_int HF.out.hj HF.out.hr HF.out.ht (by omega) (by omega) (by omega)) rfl, ?_⟩
      (repeat' (first | (with_reducible exact Below.refl _ _) | (with_reducible assumption) | (with_reducible refine Below.alloc ?_ ?_ _) | (with_reducible refine below_drewN ?_ _) | (with_reducible refine Below.drew ?_) | (with_reducible refine Below.setCell ?_ ?_ _) | (with_reducible refine below_via (by assumption) ?_ ?_) | (with_reducible refine below_via (later_below _) ?_ ?_) | (with_reducible exact Nat.le_refl _) | omega | (simp; omega) | (simp; done)))
  · go_enter Tryd.func58, Tryd.ntmps58
    go_wp2_with (first | (go_at_call 64; (first | (with_reducible refine (HF.out.run0 hi hs _).mono ?_) | (with_reducible refine (HF.out.run10 (by omega) hs _).mono ?_)); rintro e w' ⟨rfl, rfl⟩))
    ((try simp only [Exit.inBlock, Exit.then]); refine bodyPost_ret (by first | (simp [results, Tryd.results58, go_sem, *]; done) | (simp [results, Tryd.results58, go_sem, *]; rfl) | (simp [results, Tryd.results58, go_sem, ↓IntWalk.iteOmega, *]; try rfl)) rfl ?_)
    have hl : s.data.toList.length = s.size := by simp
    refine ⟨ret_find _ (findL_int HF.out.hj HF.out.hr HF.out.ht (by omega) (by omega) (by omega)) rfl, ?_⟩
    (repeat' (first | (with_reducible exact Below.refl _ _) | (with_reducible assumption) | (with_reducible refine Below.alloc ?_ ?_ _) | (with_reducible refine below_drewN ?_ _) | (with_reducible refine Below.drew ?_) | (with_reducible refine Below.setCell ?_ ?_ _) | (with_reducible refine below_via (by assumption) ?_ ?_) | (with_reducible refine below_via (later_below _) ?_ ?_) | (with_reducible exact Nat.le_refl _) | omega | (simp; omega) | (simp; done)))
end Go.Proofs.YtpahemohpaaeoaaDoor
