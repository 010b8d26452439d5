/- The contract of the method number of a numeral: numerals with a point. -/
import Derived.Test.YtpahemohpaaeoaaDoorNumW6
namespace Go.Proofs.YtpahemohpaaeoaaDoor
open Go.RowKit
set_option linter.unusedVariables false

theorem ten_pow (k : Nat) (h : k ≤ 9) : 1 ≤ (10 : Int) ^ k ∧ (10 : Int) ^ k ≤ 1000000000 := by
  obtain rfl | rfl | rfl | rfl | rfl | rfl | rfl | rfl | rfl | rfl : k = 0 ∨ k = 1 ∨ k = 2 ∨ k = 3 ∨ k = 4 ∨ k = 5 ∨ k = 6 ∨ k = 7 ∨ k = 8 ∨ k = 9 := by omega
  all_goals decide

set_option maxHeartbeats 1000000 in
theorem number_long (s : ByteArray) (p d q : Nat) (h0 : p ≤ d) (h1 : d + 1 ≤ q) (h2 : q ≤ s.size) (hs : s.size ≤ 9223372036854775807) (h9 : 9 < q - (d + 1)) (w : World) :
    Calls Tryd.prog 59 #[.agg #[.bool false, .int .i64 d, .int .i64 q, .int .i64 p], .string s] w fun e w' => e = .returned (tripV (0, 0, 6)) ∧ Below w.heap.size w w' := by
  go_enter Tryd.func59, Tryd.ntmps59
  go_wp2_with fail
  go_quiet (fail)
  go_wp2_with fail
  ((try simp only [Exit.inBlock, Exit.then]); refine bodyPost_ret (by first | (simp [results, Tryd.results59, go_sem, *]; done) | (simp [results, Tryd.results59, go_sem, *]; rfl) | (simp [results, Tryd.results59, go_sem, ↓IntWalk.iteOmega, *]; try rfl)) rfl ?_)
  refine ⟨rfl, ?_⟩
  (repeat' (first | (with_reducible exact Below.refl _ _) | (with_reducible assumption) | (with_reducible refine Below.alloc ?_ ?_ _) | (with_reducible refine below_drewN ?_ _) | (with_reducible refine Below.drew ?_) | (with_reducible refine Below.setCell ?_ ?_ _) | (with_reducible refine below_via (by assumption) ?_ ?_) | (with_reducible refine below_via (later_below _) ?_ ?_) | (with_reducible exact Nat.le_refl _) | omega | (simp; omega) | (simp; done)))

/-- What stands behind the loop: the digits' number, and what Make gives for it. -/
def Outcome (x : ByteArray) (u P Q E : Int) : Prop :=
  ((∀ w, Calls Tryd.prog 65 #[.string x, .int .i64 10] w fun e w' => e = .returned (.tuple #[.int .i64 0, .bool false]) ∧ w = w') ∧ P = 0 ∧ Q = 0 ∧ E = 6) ∨
  (∃ n : Int, (∀ w, Calls Tryd.prog 65 #[.string x, .int .i64 10] w fun e w' => e = .returned (.tuple #[.int .i64 n, .bool true]) ∧ w = w') ∧
    (∀ w, Calls Tryd.prog 66 #[.int .i64 n, .int .i64 u] w fun e w' => e = .returned (.tuple #[.agg #[.int .i64 P, .int .i64 Q], .int .i64 E]) ∧ Below w.heap.size w w') ∧ (E = 0 ∨ P = 0 ∧ Q = 0 ∧ E = 6))

set_option maxHeartbeats 2000000 in
theorem number_short (s : ByteArray) (p d q : Nat) (P Q E : Int) (h0 : p ≤ d) (h1 : d + 1 ≤ q) (h2 : q ≤ s.size) (hs : s.size ≤ 9223372036854775807) (h9 : q - (d + 1) ≤ 9) (h : Outcome (s.extract p d ++ s.extract (d + 1) q) (10 ^ (q - (d + 1))) P Q E) (w : World) :
    Calls Tryd.prog 59 #[.agg #[.bool false, .int .i64 d, .int .i64 q, .int .i64 p], .string s] w fun e w' => e = .returned (.tuple #[.agg #[.int .i64 P, .int .i64 Q], .int .i64 E]) ∧ Below w.heap.size w w' := by
  obtain ⟨m, hm⟩ : ∃ m, q = d + 1 + m := ⟨q - (d + 1), by omega⟩
  subst hm
  have hmm : d + 1 + m - (d + 1) = m := by omega
  rw [hmm] at h h9
  have HH := Lib.hid h
  clear h hmm
  have hml : ((d + 1 + m - (d + 1) : Nat) : Int) = m := by omega
  go_enter Tryd.func59, Tryd.ntmps59
  go_wp2_with fail
  go_quiet (fail)
  go_wp2_with fail
  go_loop [8, 46] (fun v i => ∃ (k : Nat) (u : Int), k ≤ m ∧ i = .int .i64 k ∧ v = .int .i64 u ∧ 1 ≤ u ∧ u ≤ 1000000000 ∧ u = 10 ^ k) (fun _ i => m - (intOf i).toNat)
  case atStart => exact ⟨0, 1, Nat.zero_le _, rfl, rfl, by omega, by omega, rfl⟩
  case round =>
    obtain ⟨k, u, hk, rfl, rfl, hu1, hu2, hu⟩ := hrel
    by_cases hlt : k < m
    · have hu3 : u * 10 = 10 ^ (k + 1) := by rw [Int.pow_succ, ← hu]
      have hu4 := ten_pow (k + 1) (by omega)
      rw [← hu3] at hu4
      have HU := Lib.hid hu3
      obtain ⟨hu4, hu5⟩ := hu4
      clear hu hu3
      go_wp2_with fail
      exact ⟨⟨k + 1, u * 10, by omega, by go_num, rfl, hu4, hu5, HU.out⟩, by simp [intOf]; omega⟩
    · obtain rfl : k = m := by omega
      have H2 := HH.out
      rw [← hu] at H2
      clear hu HH hlt hk
      unfold Outcome at H2
      rcases H2 with ⟨hc1, rfl, rfl, rfl⟩ | ⟨n, hc1, hc2, hE⟩
      · have HC := Lib.hid hc1
        clear hc1
        go_wp2_with (first | (go_at_call 65; refine (HC.out _).mono ?_; rintro e w1 ⟨rfl, rfl⟩))
        ((try simp only [Exit.inBlock, Exit.then]); refine bodyPost_ret (by first | (simp [results, Tryd.results59, go_sem, *]; done) | (simp [results, Tryd.results59, go_sem, *]; rfl) | (simp [results, Tryd.results59, go_sem, ↓IntWalk.iteOmega, *]; try rfl)) rfl ?_)
        refine ⟨rfl, ?_⟩
        (repeat' (first | (with_reducible exact Below.refl _ _) | (with_reducible assumption) | (with_reducible refine Below.alloc ?_ ?_ _) | (with_reducible refine below_drewN ?_ _) | (with_reducible refine Below.drew ?_) | (with_reducible refine Below.setCell ?_ ?_ _) | (with_reducible refine below_via (by assumption) ?_ ?_) | (with_reducible refine below_via (later_below _) ?_ ?_) | (with_reducible exact Nat.le_refl _) | omega | (simp; omega) | (simp; done)))
      · have HC := Lib.hid hc1
        have HM := Lib.hid hc2
        clear hc1 hc2
        rcases hE with rfl | ⟨rfl, rfl, rfl⟩
        all_goals
          go_wp2_with (first | (go_at_call 65; refine (HC.out _).mono ?_; rintro e w1 ⟨rfl, rfl⟩) | (go_at_call 66; refine (HM.out _).mono ?_; rintro e w1 ⟨rfl, hb⟩; (refine mem hb ?_; intro N hN hz hc hf; (try simp at hN); subst hN)))
          ((try simp only [Exit.inBlock, Exit.then]); refine bodyPost_ret (by first | (simp [results, Tryd.results59, go_sem, *]; done) | (simp [results, Tryd.results59, go_sem, *]; rfl) | (simp [results, Tryd.results59, go_sem, ↓IntWalk.iteOmega, *]; try rfl)) rfl ?_)
          refine ⟨rfl, ?_⟩
          (repeat' (first | (with_reducible exact Below.refl _ _) | (with_reducible assumption) | (with_reducible refine Below.alloc ?_ ?_ _) | (with_reducible refine below_drewN ?_ _) | (with_reducible refine Below.drew ?_) | (with_reducible refine Below.setCell ?_ ?_ _) | (with_reducible refine below_via (by assumption) ?_ ?_) | (with_reducible refine below_via (later_below _) ?_ ?_) | (with_reducible exact Nat.le_refl _) | omega | (simp; omega) | (simp; done)))
end Go.Proofs.YtpahemohpaaeoaaDoor
