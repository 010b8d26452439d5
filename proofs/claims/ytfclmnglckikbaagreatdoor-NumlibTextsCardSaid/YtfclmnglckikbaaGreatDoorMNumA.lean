/- Contracts of the numeral package's small functions. -/
import Derived.Test.YtfclmnglckikbaaGreatDoorMRatR2
import Derived.Test.YtfclmnglckikbaaGreatDoorMPlainA
import Derived.Lib.Walk
import Derived.Lib.Strings
import Derived.Test.YtfclmnglckikbaaGreatDoorMMem
namespace Go.Proofs.YtfclmnglckikbaaGreatDoor
open Go.RowKit
set_option linter.unusedVariables false

set_option maxHeartbeats 1000000 in
theorem digit_any (c : Nat) (hc : c < 256) (w : World) :
    Calls Tryz.prog 147 #[.int .u8 c] w fun e w' => e = .returned (.int .i64 (pdN c)) ∧ w = w' := by
  go_enter Tryz.func147, Tryz.ntmps147
  go_wp2
  all_goals (go_ret; refine ⟨ret_int ?_, rfl⟩; (try dsimp only); unfold pdN; (repeat' split) <;> omega)
end Go.Proofs.YtfclmnglckikbaaGreatDoor

/- The contract of numeral.run. -/
namespace Go.Proofs.YtfclmnglckikbaaGreatDoor
open Go.RowKit
set_option linter.unusedVariables false

theorem bat_get (s : ByteArray) (k : Nat) (h : k < s.size) : bat s.data.toList k = (s[k]'h).toNat := by
  unfold bat
  have h' : k < s.data.toList.length := by simpa using h
  rw [List.getD, List.getElem?_eq_getElem h']
  rfl

set_option maxHeartbeats 2000000 in
theorem run_any (s : ByteArray) (i b : Nat) (hi : i ≤ s.size) (hs : s.size ≤ 9223372036854775807) (hb : b ≤ 16) (w : World) :
    Calls Tryz.prog 131 #[.string s, .int .i64 i, .int .i64 b] w fun e w' => e = .returned (.int .i64 (runL s.data.toList b i)) ∧ w = w' := by
  go_enter Tryz.func131, Tryz.ntmps131
  go_wp2
  go_loop [1] (fun v => ∃ k : Nat, k ≤ s.size ∧ v = .int .i64 (k : Int) ∧ runL s.data.toList b k = runL s.data.toList b i) (fun v => s.size - (Lib.intOf v).toNat)
  case atStart => exact ⟨i, hi, rfl, rfl⟩
  case round =>
    obtain ⟨k, hk, rfl, hr⟩ := hrel
    by_cases h0 : k < s.size
    · have hbk := bat_get s k h0
      have hpd := pd_dv (bat s.data.toList k) b hb
      rw [hbk] at hpd
      by_cases hd : dvN (bat s.data.toList k) < b
      · have h1 := (hpd.2 (by rw [← hbk]; exact hd)).1
        have h2 := (hpd.2 (by rw [← hbk]; exact hd)).2
        go_wp2_with (first | (go_at_call 147; refine (digit_any _ (UInt8.toNat_lt _) _).mono ?_; rintro e w' ⟨rfl, rfl⟩))
        refine ⟨⟨k + 1, by omega, by simp, by rw [← hr]; exact (runL_step _ _ _ (by simpa using h0) hd).symm⟩, ?_⟩
        simp [Lib.intOf]; omega
      · have h1 : ¬ (0 ≤ pdN (s[k]'h0).toNat ∧ pdN (s[k]'h0).toNat < (b : Int)) := fun h => hd (by rw [hbk]; exact hpd.1 h)
        have hst := runL_stop s.data.toList b k (by simpa using h0) hd
        go_wp2_with (first | (go_at_call 147; refine (digit_any _ (UInt8.toNat_lt _) _).mono ?_; rintro e w' ⟨rfl, rfl⟩))
        all_goals (go_ret; refine ⟨ret_int ?_, rfl⟩; rw [← hr, hst])
    · have hke : (k : Int) = s.size := by omega
      go_wp2
      go_ret
      refine ⟨ret_int ?_, rfl⟩
      rw [← hr, runL_end _ _ _ (by simp; omega)]
      omega
end Go.Proofs.YtfclmnglckikbaaGreatDoor

/- The contract of numeral.integer. -/
namespace Go.Proofs.YtfclmnglckikbaaGreatDoor
open Go.RowKit
set_option linter.unusedVariables false

def numV (o : Option Nat) : Value := match o with | some n => .tuple #[.int .i64 n, .bool true] | none => .tuple #[.int .i64 0, .bool false]
theorem numV_some {o : Option Nat} {n : Nat} (h : o = some n) : Value.tuple #[.int .i64 (n : Int), .bool true] = numV o := by rw [h]; rfl
theorem numV_none {o : Option Nat} (h : o = none) : Value.tuple #[.int .i64 0, .bool false] = numV o := by rw [h]; rfl

theorem numL_no (b : Nat) (c : UInt8) (l : List UInt8) (n : Nat) (h : n > (4611686018427387904 - dvN c.toNat) / b) : numL b (c :: l) n = none := by rw [numL, if_pos h]
theorem numL_go (b : Nat) (c : UInt8) (l : List UInt8) (n : Nat) (h : ¬ n > (4611686018427387904 - dvN c.toNat) / b) : numL b (c :: l) n = numL b l (n * b + dvN c.toNat) := by rw [numL, if_neg h]

set_option maxHeartbeats 2000000 in
theorem integer_any (s : ByteArray) (b : Nat) (hs : s.size ≤ 9223372036854775807) (hb2 : 2 ≤ b) (hb : b ≤ 16) (hd : ∀ c ∈ s.data.toList, dvN c.toNat < b) (w : World) :
    Calls Tryz.prog 132 #[.string s, .int .i64 b] w fun e w' => e = .returned (numV (numL b s.data.toList 0)) ∧ w = w' := by
  go_enter Tryz.func132, Tryz.ntmps132
  go_wp2
  go_loop [6, 11] (fun v u => ∃ (n : Int) (m k : Nat), n = m ∧ k ≤ s.size ∧ v = .int .i64 n ∧ u = .int .i64 (k : Int) ∧ n ≤ 4611686018427387904 ∧ numL b (s.data.toList.drop k) m = numL b s.data.toList 0) (fun _ u => s.size - (Lib.intOf u).toNat)
  case atStart => exact ⟨0, 0, 0, rfl, Nat.zero_le _, rfl, rfl, by omega, rfl⟩
  case round =>
    obtain ⟨n, m, k, hnm, hk, rfl, rfl, hn, hr⟩ := hrel
    have hn0 : 0 ≤ n := by omega
    by_cases h0 : k < s.size
    · have h0' : k < s.data.toList.length := by simpa using h0
      have hmem : s[k]'h0 ∈ s.data.toList := List.getElem_mem h0'
      have hdk := hd _ hmem
      rw [List.drop_eq_getElem_cons h0'] at hr
      have hpe := pd_eq (s[k]'h0).toNat b hb hdk
      obtain ⟨d, hdd⟩ : ∃ d : Int, d = pdN (s[k]'h0).toNat := ⟨_, rfl⟩
      have hd0 : 0 ≤ d := by omega
      have hd1 : d < 16 := by omega
      have hq : (4611686018427387904 - d).tdiv (b : Int) = (((4611686018427387904 - dvN (s[k]'h0).toNat) / b : Nat) : Int) := by
        rw [Int.tdiv_eq_ediv_of_nonneg (by omega)]
        rw [hdd, hpe]
        rw [Int.natCast_ediv]
        congr 1
        omega
      obtain ⟨q, hqq⟩ : ∃ q : Int, q = (4611686018427387904 - d).tdiv (b : Int) := ⟨_, rfl⟩
      have hcon := digit_any (s[k]'h0).toNat (UInt8.toNat_lt _)
      rw [← hdd] at hcon
      have hmod := Nat.mod_lt (s[k]'h0).toNat (by decide : 0 < 256)
      have H1 := Lib.hid hq
      have H2 := Lib.hid hr
      have H3 := Lib.hid hdd
      have H4 := Lib.hid hpe
      have H5 := Lib.hid hd
      have H6 := Lib.hid hnm
      have H7 := Lib.hid hqq
      have hqe : q = (4611686018427387904 - d) / (b : Int) := by rw [hqq, Int.tdiv_eq_ediv_of_nonneg (by omega)]
      have H8 := Lib.hid hqe
      clear hq hr hdd hpe hd hnm hqq hmem
      clear hqe
      by_cases hcmp : (4611686018427387904 - d) / (b : Int) < n
      · go_wp2_with (first | (go_at_call 147; refine (hcon _).mono ?_; rintro e w' ⟨rfl, rfl⟩))
        go_returns
        refine ⟨?_, rfl⟩
        have hr := H2.out
        have h1 := H1.out
        have h6 := H6.out
        have h7 := H7.out
        have h8 := H8.out
        have e := numL_no b (s[k]'h0) (s.data.toList.drop (k + 1)) m (by omega)
        have e2 : numL b s.data.toList 0 = none := hr.symm.trans e
        rw [e2]
        rfl
      · have hqm : n * (b : Int) + d ≤ 4611686018427387904 := by
          have hbp : (0 : Int) < b := by omega
          have h1 : n ≤ (4611686018427387904 - d) / (b : Int) := by
            omega
          have := (Int.le_ediv_iff_mul_le hbp).1 h1
          omega
        have hnb0 : 0 ≤ n * (b : Int) := Int.mul_nonneg hn0 (by omega)
        go_wp2_with (first | (go_at_call 147; refine (hcon _).mono ?_; rintro e w' ⟨rfl, rfl⟩))
        have hr := H2.out
        have h1 := H1.out
        have h6 := H6.out
        have h7 := H7.out
        have h8 := H8.out
        have e := numL_go b (s[k]'h0) (s.data.toList.drop (k + 1)) m (by omega)
        have e2 : numL b s.data.toList 0 = _ := hr.symm.trans e
        have e3 : d = dvN (s[k]'h0).toNat := H3.out.trans H4.out
        refine ⟨⟨n * b + d, m * b + dvN (s[k]'h0).toNat, k + 1, by rw [h6, e3]; push_cast; rfl, by omega, rfl, by simp, hqm, e2.symm⟩, ?_⟩
        simp [Lib.intOf]; omega
    · have hke : (k : Int) = s.size := by omega
      rw [List.drop_eq_nil_of_le (by simp; omega)] at hr
      go_wp2
      go_returns
      refine ⟨?_, rfl⟩
      have e2 : numL b s.data.toList 0 = some m := hr.symm
      rw [e2]
      try rw [hnm]
      rfl
end Go.Proofs.YtfclmnglckikbaaGreatDoor

/- The contract of numeral.find. -/
namespace Go.Proofs.YtfclmnglckikbaaGreatDoor
open Go.RowKit
set_option linter.unusedVariables false

def findV (o : Option Find) : Value := match o with
  | none => .tuple #[.agg #[.bool false, .int .i64 0, .int .i64 0, .int .i64 0], .bool false]
  | some f => .tuple #[.agg #[.bool f.hex, .int .i64 f.point, .int .i64 f.end_, .int .i64 f.from_], .bool true]
theorem ret_find {o : Option Find} {v : Value} (f : Option Find) (h : o = f) (h2 : v = findV f) : Ending.returned v = .returned (findV o) := by rw [h, h2]

theorem findL_none {l : List UInt8} {i j : Nat} (hj : j = runL l 10 i) (h1 : j = i) : findL l i = none := by
  unfold findL; simp only []; rw [← hj, if_pos h1]
theorem findL_hex {l : List UInt8} {i j r : Nat} (hj : j = runL l 10 i) (hr : r = runL l 16 (j + 1)) (h2 : j = i + 1 ∧ bat l i = 48 ∧ j < l.length ∧ (bat l j = 120 ∨ bat l j = 88) ∧ j + 1 < r) : findL l i = some ⟨true, -1, j + 1, r⟩ := by
  subst hr; unfold findL; simp only []; rw [← hj, if_neg (by omega), if_pos h2]
theorem findL_point {l : List UInt8} {i j r s : Nat} (hj : j = runL l 10 i) (hr : r = runL l 16 (j + 1)) (hs : s = runL l 10 (j + 1)) (h1 : j ≠ i) (h2 : ¬ (j = i + 1 ∧ bat l i = 48 ∧ j < l.length ∧ (bat l j = 120 ∨ bat l j = 88) ∧ j + 1 < r))
    (h3 : j < l.length ∧ bat l j = 46 ∧ j + 1 < s) : findL l i = some ⟨false, j, i, s⟩ := by
  subst hr hs; unfold findL; simp only []; rw [← hj, if_neg h1, if_neg h2, if_pos h3]
theorem findL_int {l : List UInt8} {i j r s : Nat} (hj : j = runL l 10 i) (hr : r = runL l 16 (j + 1)) (hs : s = runL l 10 (j + 1)) (h1 : j ≠ i) (h2 : ¬ (j = i + 1 ∧ bat l i = 48 ∧ j < l.length ∧ (bat l j = 120 ∨ bat l j = 88) ∧ j + 1 < r))
    (h3 : ¬ (j < l.length ∧ bat l j = 46 ∧ j + 1 < s)) : findL l i = some ⟨false, -1, i, j⟩ := by
  subst hr hs; unfold findL; simp only []; rw [← hj, if_neg h1, if_neg h2, if_neg h3]

theorem run_lit (s : ByteArray) (j b : Nat) (hi : j ≤ s.size) (hs : s.size ≤ 9223372036854775807) (hb : b ≤ 16) (k : Int) (hk : k = b) (w : World) (r : Nat) (hr : r = runL s.data.toList b j) :
    Calls Tryz.prog 131 #[.string s, .int .i64 (j : Int), .int .i64 k] w fun e w' => e = .returned (.int .i64 r) ∧ w = w' := by
  subst hk hr
  exact run_any s j b hi hs hb w
theorem run_succ (s : ByteArray) (j b : Nat) (hi : j + 1 ≤ s.size) (hs : s.size ≤ 9223372036854775807) (hb : b ≤ 16) (k : Int) (hk : k = b) (r : Nat) (hr : r = runL s.data.toList b (j + 1)) (w : World) :
    Calls Tryz.prog 131 #[.string s, .int .i64 ((j : Int) + 1), .int .i64 k] w fun e w' => e = .returned (.int .i64 r) ∧ w = w' :=
  run_lit s (j + 1) b hi hs hb k hk w r hr

/-- The facts that the walks of 'find' share. -/
structure FindFacts (s : ByteArray) (i j r t : Nat) : Prop where
  hj : j = runL s.data.toList 10 i
  hr : r = runL s.data.toList 16 (j + 1)
  ht : t = runL s.data.toList 10 (j + 1)

theorem FindFacts.run0 {s : ByteArray} {i j r t : Nat} (F : FindFacts s i j r t) (hi : i ≤ s.size) (hs : s.size ≤ 9223372036854775807) (w : World) :
    Calls Tryz.prog 131 #[.string s, .int .i64 (i : Int), .int .i64 10] w fun e w' => e = .returned (.int .i64 j) ∧ w = w' := run_lit s i 10 hi hs (by omega) 10 rfl w j F.hj
theorem FindFacts.run16 {s : ByteArray} {i j r t : Nat} (F : FindFacts s i j r t) (hi : j + 1 ≤ s.size) (hs : s.size ≤ 9223372036854775807) (w : World) :
    Calls Tryz.prog 131 #[.string s, .int .i64 ((j : Int) + 1), .int .i64 16] w fun e w' => e = .returned (.int .i64 r) ∧ w = w' := run_succ s j 16 hi hs (by omega) 16 rfl r F.hr w
theorem FindFacts.run10 {s : ByteArray} {i j r t : Nat} (F : FindFacts s i j r t) (hi : j + 1 ≤ s.size) (hs : s.size ≤ 9223372036854775807) (w : World) :
    Calls Tryz.prog 131 #[.string s, .int .i64 ((j : Int) + 1), .int .i64 10] w fun e w' => e = .returned (.int .i64 t) ∧ w = w' := run_succ s j 10 hi hs (by omega) 10 rfl t F.ht w

set_option maxHeartbeats 1000000 in
theorem find_none (s : ByteArray) (i r t : Nat) (hi : i ≤ s.size) (hs : s.size ≤ 9223372036854775807) (w : World) (F : FindFacts s i i r t) :
    Calls Tryz.prog 118 #[.string s, .int .i64 i] w fun e w' => e = .returned (findV (findL s.data.toList i)) ∧ Below w.heap.size w w' := by
  have HF := Lib.hid F
  clear F
  go_enter Tryz.func118, Tryz.ntmps118
  go_wp2_with (first | (go_at_call 131; refine (HF.out.run0 hi hs _).mono ?_; rintro e w' ⟨rfl, rfl⟩))
  ((try simp only [Exit.inBlock, Exit.then]); refine bodyPost_ret (by first | (simp [results, Tryz.results118, go_sem, *]; done) | (simp [results, Tryz.results118, go_sem, *]; rfl) | (simp [results, Tryz.results118, go_sem, ↓IntWalk.iteOmega, *]; try rfl)) rfl ?_)
  refine ⟨ret_find _ (findL_none HF.out.hj rfl) rfl, ?_⟩
  (repeat' (first | (with_reducible exact Below.refl _ _) | (with_reducible assumption) | (with_reducible refine Below.alloc ?_ ?_ _) | (with_reducible refine below_drewN ?_ _) | (with_reducible refine Below.drew ?_) | (with_reducible refine Below.setCell ?_ ?_ _) | (with_reducible refine below_via (by assumption) ?_ ?_) | (with_reducible refine below_via (later_below _) ?_ ?_) | (with_reducible exact Nat.le_refl _) | omega | (simp; omega) | (simp; done)))

set_option maxHeartbeats 1000000 in
theorem find_far (s : ByteArray) (i j r t : Nat) (hi : i ≤ s.size) (hs : s.size ≤ 9223372036854775807) (w : World) (F : FindFacts s i j r t) (hjs : j ≤ s.size) (hj : i + 1 < j) (ht : j < s.size → j + 1 ≤ t ∧ t ≤ s.size) :
    Calls Tryz.prog 118 #[.string s, .int .i64 i] w fun e w' => e = .returned (findV (findL s.data.toList i)) ∧ Below w.heap.size w w' := by
  have HF := Lib.hid F
  clear F
  by_cases h1 : j < s.size
  · have hb := bat_get s j h1
    obtain ⟨ht1, ht2⟩ := ht h1
    clear ht
    have HB := Lib.hid hb
    clear hb
    by_cases h2 : (s[j]'h1).toNat = 46
    · by_cases h3 : j + 1 < t
      all_goals
        go_enter Tryz.func118, Tryz.ntmps118
        go_wp2_with (first | (go_at_call 131; (first | (with_reducible refine (HF.out.run0 hi hs _).mono ?_) | (with_reducible refine (HF.out.run10 (by omega) hs _).mono ?_)); rintro e w' ⟨rfl, rfl⟩))
        ((try simp only [Exit.inBlock, Exit.then]); refine bodyPost_ret (by first | (simp [results, Tryz.results118, go_sem, *]; done) | (simp [results, Tryz.results118, go_sem, *]; rfl) | (simp [results, Tryz.results118, go_sem, ↓IntWalk.iteOmega, *]; try rfl)) rfl ?_)
        have hb := HB.out
        have hl : s.data.toList.length = s.size := by simp
      · refine ⟨ret_find _ (findL_point HF.out.hj HF.out.hr HF.out.ht (by omega) (by omega) (by omega)) rfl, ?_⟩
        (repeat' (first | (with_reducible exact Below.refl _ _) | (with_reducible assumption) | (with_reducible refine Below.alloc ?_ ?_ _) | (with_reducible refine below_drewN ?_ _) | (with_reducible refine Below.drew ?_) | (with_reducible refine Below.setCell ?_ ?_ _) | (with_reducible refine below_via (by assumption) ?_ ?_) | (with_reducible refine below_via (later_below _) ?_ ?_) | (with_reducible exact Nat.le_refl _) | omega | (simp; omega) | (simp; done)))
      · refine ⟨ret_find _ (findL_int HF.out.hj HF.out.hr HF.out.ht (by omega) (by omega) (by omega)) rfl, ?_⟩
        (repeat' (first | (with_reducible exact Below.refl _ _) | (with_reducible assumption) | (with_reducible refine Below.alloc ?_ ?_ _) | (with_reducible refine below_drewN ?_ _) | (with_reducible refine Below.drew ?_) | (with_reducible refine Below.setCell ?_ ?_ _) | (with_reducible refine below_via (by assumption) ?_ ?_) | (with_reducible refine below_via (later_below _) ?_ ?_) | (with_reducible exact Nat.le_refl _) | omega | (simp; omega) | (simp; done)))
    · go_enter Tryz.func118, Tryz.ntmps118
      go_wp2_with (first | (go_at_call 131; (first | (with_reducible refine (HF.out.run0 hi hs _).mono ?_) | (with_reducible refine (HF.out.run10 (by omega) hs _).mono ?_)); rintro e w' ⟨rfl, rfl⟩))
      ((try simp only [Exit.inBlock, Exit.then]); refine bodyPost_ret (by first | (simp [results, Tryz.results118, go_sem, *]; done) | (simp [results, Tryz.results118, go_sem, *]; rfl) | (simp [results, Tryz.results118, go_sem, ↓IntWalk.iteOmega, *]; try rfl)) rfl ?_)
      have hb := HB.out
      refine ⟨ret_find _ (findL_int HF.out.hj HF.out.hr HF.out.ht (by omega) (by omega) (by omega)) rfl, ?_⟩
      (repeat' (first | (with_reducible exact Below.refl _ _) | (with_reducible assumption) | (with_reducible refine Below.alloc ?_ ?_ _) | (with_reducible refine below_drewN ?_ _) | (with_reducible refine Below.drew ?_) | (with_reducible refine Below.setCell ?_ ?_ _) | (with_reducible refine below_via (by assumption) ?_ ?_) | (with_reducible refine below_via (later_below _) ?_ ?_) | (with_reducible exact Nat.le_refl _) | omega | (simp; omega) | (simp; done)))
  · go_enter Tryz.func118, Tryz.ntmps118
    go_wp2_with (first | (go_at_call 131; (first | (with_reducible refine (HF.out.run0 hi hs _).mono ?_) | (with_reducible refine (HF.out.run10 (by omega) hs _).mono ?_)); rintro e w' ⟨rfl, rfl⟩))
    ((try simp only [Exit.inBlock, Exit.then]); refine bodyPost_ret (by first | (simp [results, Tryz.results118, go_sem, *]; done) | (simp [results, Tryz.results118, go_sem, *]; rfl) | (simp [results, Tryz.results118, go_sem, ↓IntWalk.iteOmega, *]; try rfl)) rfl ?_)
    have hl : s.data.toList.length = s.size := by simp
    refine ⟨ret_find _ (findL_int HF.out.hj HF.out.hr HF.out.ht (by omega) (by omega) (by omega)) rfl, ?_⟩
    (repeat' (first | (with_reducible exact Below.refl _ _) | (with_reducible assumption) | (with_reducible refine Below.alloc ?_ ?_ _) | (with_reducible refine below_drewN ?_ _) | (with_reducible refine Below.drew ?_) | (with_reducible refine Below.setCell ?_ ?_ _) | (with_reducible refine below_via (by assumption) ?_ ?_) | (with_reducible refine below_via (later_below _) ?_ ?_) | (with_reducible exact Nat.le_refl _) | omega | (simp; omega) | (simp; done)))
end Go.Proofs.YtfclmnglckikbaaGreatDoor
