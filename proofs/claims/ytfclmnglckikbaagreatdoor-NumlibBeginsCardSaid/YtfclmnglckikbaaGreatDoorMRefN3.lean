/- The reference's numeral: what each call returns. -/
import Derived.Test.YtfclmnglckikbaaGreatDoorMRefN2
import Derived.Test.YtfclmnglckikbaaGreatDoorMRatR2
import Derived.Test.YtfclmnglckikbaaGreatDoorMNumB
namespace Go.Proofs.YtfclmnglckikbaaGreatDoor
open Go.RowKit
set_option linter.unusedVariables false

abbrev RDig (c : Nat) : Prop := ∀ w, Calls Tryz.prog 135 #[.int .u8 (c : Int)] w fun e w' => e = .returned (.int .i64 (dvN c)) ∧ w = w'
abbrev RRun (s : ByteArray) (i : Int) (b : Int) (r : Nat) : Prop := ∀ w, Calls Tryz.prog 136 #[.string s, .int .i64 i, .int .i64 b] w fun e w' => e = .returned (.int .i64 r) ∧ w = w'
abbrev RNum (x : ByteArray) (b : Int) (n : Int) (ok : Bool) : Prop := ∀ w, Calls Tryz.prog 125 #[.string x, .int .i64 b] w fun e w' => e = .returned (.tuple #[.int .i64 n, .bool ok]) ∧ w = w'
abbrev RMake (p q P Q E : Int) : Prop := ∀ w, Calls Tryz.prog 126 #[.int .i64 p, .int .i64 q] w fun e w' => e = .returned (.tuple #[.agg #[.int .i64 P, .int .i64 Q], .int .i64 E]) ∧ Below w.heap.size w w'
abbrev RPow (n u : Int) : Prop := ∀ w, Calls Tryz.prog 137 #[.int .i64 n] w fun e w' => e = .returned (.int .i64 u) ∧ w = w'
def rnumV (k : Int) (P Q E : Int) : Value := .tuple #[.int .i64 k, .agg #[.int .i64 P, .int .i64 Q], .int .i64 E]
/-- No hexadecimal numeral stands at i. -/
def NoHex (s : ByteArray) (i : Nat) : Prop := s.size ≤ i + 2 ∨ ∃ h : i + 2 < s.size, (¬ (s[i]'(by omega)).toNat = 48) ∨ ((s[i]'(by omega)).toNat = 48 ∧ ¬ (s[i + 1]'(by omega)).toNat = 120 ∧ ¬ (s[i + 1]'(by omega)).toNat = 88) ∨
  ((s[i]'(by omega)).toNat = 48 ∧ (s[i + 1]'(by omega)).toNat = 120 ∧ ¬ dvN (s[i + 2]'h).toNat < 16) ∨ ((s[i]'(by omega)).toNat = 48 ∧ (s[i + 1]'(by omega)).toNat = 88 ∧ ¬ dvN (s[i + 2]'h).toNat < 16)
/-- No places stand behind j. -/
def NoPoint (s : ByteArray) (j : Nat) : Prop := s.size ≤ j + 1 ∨ ∃ h : j + 1 < s.size, (¬ (s[j]'(by omega)).toNat = 46) ∨ ((s[j]'(by omega)).toNat = 46 ∧ ¬ dvN (s[j + 1]'h).toNat < 10)

set_option maxHeartbeats 8000000 in
set_option maxRecDepth 100000 in
theorem rnum_hex_no (s : ByteArray) (i : Nat) (w : World) (hs : s.size ≤ 4200) (hi : i ≤ s.size) (h0 : i + 2 < s.size) (h1 : (s[i]'(by omega)).toNat = 48) (h2 : (s[i + 1]'(by omega)).toNat = 120 ∨ (s[i + 1]'(by omega)).toNat = 88) (h3 : dvN (s[i + 2]'h0).toNat < 16) (r : Nat) (hri : i + 2 ≤ r) (hrs : r ≤ s.size) (hr1 : RRun s ((i : Int) + 2) 16 r) (hn : RNum (s.extract (i + 2) r) 16 0 false) :
    Calls Tryz.prog 123 #[.string s, .int .i64 i] w fun e w' => e = .returned (rnumV r 0 0 6) ∧ Below w.heap.size w w' := by
  have HR1 := Lib.hid hr1
  clear hr1
  have HN := Lib.hid hn
  clear hn
  rcases h2 with h2 | h2
  all_goals
    go_enter Tryz.func123, Tryz.ntmps123
    go_wp2_with (first | (go_at_call 135; (with_reducible refine (rdigit_any _ (UInt8.toNat_lt _) _).mono ?_); rintro e w' ⟨rfl, rfl⟩) | (go_at_call 136; (with_reducible refine (HR1.out _).mono ?_); rintro e w' ⟨rfl, rfl⟩) | (go_at_call 136; (with_reducible refine (HR2.out _).mono ?_); rintro e w' ⟨rfl, rfl⟩) | (go_at_call 125; (with_reducible refine (HN.out _).mono ?_); rintro e w' ⟨rfl, rfl⟩) | (go_at_call 137; (with_reducible refine (HPW.out _).mono ?_); rintro e w' ⟨rfl, rfl⟩) | (go_at_call 126; (with_reducible refine (HM.out _).mono ?_); rintro e w9 ⟨rfl, hb⟩; (refine mem hb ?_; intro N hN hz hc hf; (try simp at hN); subst hN)))
    all_goals ((try simp only [Exit.inBlock, Exit.then]); refine bodyPost_ret (by first | (simp [results, Tryz.results123, go_sem, *]; done) | (simp [results, Tryz.results123, go_sem, *]; rfl) | (simp [results, Tryz.results123, go_sem, ↓IntWalk.iteOmega, *]; try rfl)) rfl ?_)
    all_goals refine ⟨rfl, ?_⟩
    all_goals (repeat' (first | (with_reducible exact Below.refl _ _) | (with_reducible assumption) | (with_reducible refine Below.alloc ?_ ?_ _) | (with_reducible refine below_drewN ?_ _) | (with_reducible refine Below.drew ?_) | (with_reducible refine Below.setCell ?_ ?_ _) | (with_reducible refine below_via (by assumption) ?_ ?_) | (with_reducible refine below_via (later_below _) ?_ ?_) | (with_reducible exact Nat.le_refl _) | omega | (simp; omega) | (simp; done)))

set_option maxHeartbeats 8000000 in
set_option maxRecDepth 100000 in
theorem rnum_hex (s : ByteArray) (i : Nat) (w : World) (hs : s.size ≤ 4200) (hi : i ≤ s.size) (h0 : i + 2 < s.size) (h1 : (s[i]'(by omega)).toNat = 48) (h2 : (s[i + 1]'(by omega)).toNat = 120 ∨ (s[i + 1]'(by omega)).toNat = 88) (h3 : dvN (s[i + 2]'h0).toNat < 16) (r : Nat) (hri : i + 2 ≤ r) (hrs : r ≤ s.size) (hr1 : RRun s ((i : Int) + 2) 16 r) (n P Q E : Int) (hn : RNum (s.extract (i + 2) r) 16 n true) (hm : RMake n 1 P Q E) :
    Calls Tryz.prog 123 #[.string s, .int .i64 i] w fun e w' => e = .returned (rnumV r P Q E) ∧ Below w.heap.size w w' := by
  have HR1 := Lib.hid hr1
  clear hr1
  have HN := Lib.hid hn
  clear hn
  have HM := Lib.hid hm
  clear hm
  rcases h2 with h2 | h2
  all_goals
    go_enter Tryz.func123, Tryz.ntmps123
    go_wp2_with (first | (go_at_call 135; (with_reducible refine (rdigit_any _ (UInt8.toNat_lt _) _).mono ?_); rintro e w' ⟨rfl, rfl⟩) | (go_at_call 136; (with_reducible refine (HR1.out _).mono ?_); rintro e w' ⟨rfl, rfl⟩) | (go_at_call 136; (with_reducible refine (HR2.out _).mono ?_); rintro e w' ⟨rfl, rfl⟩) | (go_at_call 125; (with_reducible refine (HN.out _).mono ?_); rintro e w' ⟨rfl, rfl⟩) | (go_at_call 137; (with_reducible refine (HPW.out _).mono ?_); rintro e w' ⟨rfl, rfl⟩) | (go_at_call 126; (with_reducible refine (HM.out _).mono ?_); rintro e w9 ⟨rfl, hb⟩; (refine mem hb ?_; intro N hN hz hc hf; (try simp at hN); subst hN)))
    all_goals go_region
    all_goals go_wp2_with fail
    all_goals ((try simp only [Exit.inBlock, Exit.then]); refine bodyPost_ret (by first | (simp [results, Tryz.results123, go_sem, *]; done) | (simp [results, Tryz.results123, go_sem, *]; rfl) | (simp [results, Tryz.results123, go_sem, ↓IntWalk.iteOmega, *]; try rfl)) rfl ?_)
    all_goals refine ⟨rfl, ?_⟩
    all_goals (repeat' (first | (with_reducible exact Below.refl _ _) | (with_reducible assumption) | (with_reducible refine Below.alloc ?_ ?_ _) | (with_reducible refine below_drewN ?_ _) | (with_reducible refine Below.drew ?_) | (with_reducible refine Below.setCell ?_ ?_ _) | (with_reducible refine below_via (by assumption) ?_ ?_) | (with_reducible refine below_via (later_below _) ?_ ?_) | (with_reducible exact Nat.le_refl _) | omega | (simp; omega) | (simp; done)))

set_option maxHeartbeats 8000000 in
set_option maxRecDepth 100000 in
theorem rnum_none (s : ByteArray) (i : Nat) (w : World) (hs : s.size ≤ 4200) (hi : i ≤ s.size) (hx : NoHex s i) (hr1 : RRun s i 10 i) :
    Calls Tryz.prog 123 #[.string s, .int .i64 i] w fun e w' => e = .returned (rnumV i 0 0 4) ∧ Below w.heap.size w w' := by
  have HR1 := Lib.hid hr1
  clear hr1
  unfold NoHex at hx
  rcases hx with hx | ⟨hx0, hx | ⟨hx, hx1, hx2⟩ | ⟨hx, hx1, hx2⟩ | ⟨hx, hx1, hx2⟩⟩
  all_goals
    go_enter Tryz.func123, Tryz.ntmps123
    go_wp2_with (first | (go_at_call 135; (with_reducible refine (rdigit_any _ (UInt8.toNat_lt _) _).mono ?_); rintro e w' ⟨rfl, rfl⟩) | (go_at_call 136; (with_reducible refine (HR1.out _).mono ?_); rintro e w' ⟨rfl, rfl⟩) | (go_at_call 136; (with_reducible refine (HR2.out _).mono ?_); rintro e w' ⟨rfl, rfl⟩) | (go_at_call 125; (with_reducible refine (HN.out _).mono ?_); rintro e w' ⟨rfl, rfl⟩) | (go_at_call 137; (with_reducible refine (HPW.out _).mono ?_); rintro e w' ⟨rfl, rfl⟩) | (go_at_call 126; (with_reducible refine (HM.out _).mono ?_); rintro e w9 ⟨rfl, hb⟩; (refine mem hb ?_; intro N hN hz hc hf; (try simp at hN); subst hN)))
    all_goals ((try simp only [Exit.inBlock, Exit.then]); refine bodyPost_ret (by first | (simp [results, Tryz.results123, go_sem, *]; done) | (simp [results, Tryz.results123, go_sem, *]; rfl) | (simp [results, Tryz.results123, go_sem, ↓IntWalk.iteOmega, *]; try rfl)) rfl ?_)
    all_goals refine ⟨rfl, ?_⟩
    all_goals (repeat' (first | (with_reducible exact Below.refl _ _) | (with_reducible assumption) | (with_reducible refine Below.alloc ?_ ?_ _) | (with_reducible refine below_drewN ?_ _) | (with_reducible refine Below.drew ?_) | (with_reducible refine Below.setCell ?_ ?_ _) | (with_reducible refine below_via (by assumption) ?_ ?_) | (with_reducible refine below_via (later_below _) ?_ ?_) | (with_reducible exact Nat.le_refl _) | omega | (simp; omega) | (simp; done)))

set_option maxHeartbeats 8000000 in
set_option maxRecDepth 100000 in
theorem rnum_int_no (s : ByteArray) (i : Nat) (w : World) (hs : s.size ≤ 4200) (hi : i ≤ s.size) (hx : NoHex s i) (j : Nat) (hij : i ≤ j) (hjs : j ≤ s.size) (hr1 : RRun s i 10 j) (hne : i < j) (hp : NoPoint s j) (hn : RNum (s.extract i j) 10 0 false) :
    Calls Tryz.prog 123 #[.string s, .int .i64 i] w fun e w' => e = .returned (rnumV j 0 0 6) ∧ Below w.heap.size w w' := by
  have HR1 := Lib.hid hr1
  clear hr1
  have HN := Lib.hid hn
  clear hn
  unfold NoHex at hx
  rcases hx with hx | ⟨hx0, hx | ⟨hx, hx1, hx2⟩ | ⟨hx, hx1, hx2⟩ | ⟨hx, hx1, hx2⟩⟩
  all_goals (unfold NoPoint at hp; rcases hp with hp | ⟨hp0, hp | ⟨hp, hp1⟩⟩)
  all_goals
    go_enter Tryz.func123, Tryz.ntmps123
    go_wp2_with (first | (go_at_call 135; (with_reducible refine (rdigit_any _ (UInt8.toNat_lt _) _).mono ?_); rintro e w' ⟨rfl, rfl⟩) | (go_at_call 136; (with_reducible refine (HR1.out _).mono ?_); rintro e w' ⟨rfl, rfl⟩) | (go_at_call 136; (with_reducible refine (HR2.out _).mono ?_); rintro e w' ⟨rfl, rfl⟩) | (go_at_call 125; (with_reducible refine (HN.out _).mono ?_); rintro e w' ⟨rfl, rfl⟩) | (go_at_call 137; (with_reducible refine (HPW.out _).mono ?_); rintro e w' ⟨rfl, rfl⟩) | (go_at_call 126; (with_reducible refine (HM.out _).mono ?_); rintro e w9 ⟨rfl, hb⟩; (refine mem hb ?_; intro N hN hz hc hf; (try simp at hN); subst hN)))
    all_goals ((try simp only [Exit.inBlock, Exit.then]); refine bodyPost_ret (by first | (simp [results, Tryz.results123, go_sem, *]; done) | (simp [results, Tryz.results123, go_sem, *]; rfl) | (simp [results, Tryz.results123, go_sem, ↓IntWalk.iteOmega, *]; try rfl)) rfl ?_)
    all_goals refine ⟨rfl, ?_⟩
    all_goals (repeat' (first | (with_reducible exact Below.refl _ _) | (with_reducible assumption) | (with_reducible refine Below.alloc ?_ ?_ _) | (with_reducible refine below_drewN ?_ _) | (with_reducible refine Below.drew ?_) | (with_reducible refine Below.setCell ?_ ?_ _) | (with_reducible refine below_via (by assumption) ?_ ?_) | (with_reducible refine below_via (later_below _) ?_ ?_) | (with_reducible exact Nat.le_refl _) | omega | (simp; omega) | (simp; done)))

set_option maxHeartbeats 8000000 in
set_option maxRecDepth 100000 in
theorem rnum_int (s : ByteArray) (i : Nat) (w : World) (hs : s.size ≤ 4200) (hi : i ≤ s.size) (hx : NoHex s i) (j : Nat) (hij : i ≤ j) (hjs : j ≤ s.size) (hr1 : RRun s i 10 j) (hne : i < j) (hp : NoPoint s j) (n P Q E : Int) (hn : RNum (s.extract i j) 10 n true) (hpw : RPow 0 1) (hm : RMake n 1 P Q E) :
    Calls Tryz.prog 123 #[.string s, .int .i64 i] w fun e w' => e = .returned (rnumV j P Q E) ∧ Below w.heap.size w w' := by
  have HR1 := Lib.hid hr1
  clear hr1
  have HN := Lib.hid hn
  clear hn
  have HPW := Lib.hid hpw
  clear hpw
  have HM := Lib.hid hm
  clear hm
  unfold NoHex at hx
  rcases hx with hx | ⟨hx0, hx | ⟨hx, hx1, hx2⟩ | ⟨hx, hx1, hx2⟩ | ⟨hx, hx1, hx2⟩⟩
  all_goals (unfold NoPoint at hp; rcases hp with hp | ⟨hp0, hp | ⟨hp, hp1⟩⟩)
  all_goals
    go_enter Tryz.func123, Tryz.ntmps123
    go_wp2_with (first | (go_at_call 135; (with_reducible refine (rdigit_any _ (UInt8.toNat_lt _) _).mono ?_); rintro e w' ⟨rfl, rfl⟩) | (go_at_call 136; (with_reducible refine (HR1.out _).mono ?_); rintro e w' ⟨rfl, rfl⟩) | (go_at_call 136; (with_reducible refine (HR2.out _).mono ?_); rintro e w' ⟨rfl, rfl⟩) | (go_at_call 125; (with_reducible refine (HN.out _).mono ?_); rintro e w' ⟨rfl, rfl⟩) | (go_at_call 137; (with_reducible refine (HPW.out _).mono ?_); rintro e w' ⟨rfl, rfl⟩) | (go_at_call 126; (with_reducible refine (HM.out _).mono ?_); rintro e w9 ⟨rfl, hb⟩; (refine mem hb ?_; intro N hN hz hc hf; (try simp at hN); subst hN)))
    all_goals go_region
    all_goals go_wp2_with fail
    all_goals ((try simp only [Exit.inBlock, Exit.then]); refine bodyPost_ret (by first | (simp [results, Tryz.results123, go_sem, *]; done) | (simp [results, Tryz.results123, go_sem, *]; rfl) | (simp [results, Tryz.results123, go_sem, ↓IntWalk.iteOmega, *]; try rfl)) rfl ?_)
    all_goals refine ⟨rfl, ?_⟩
    all_goals (repeat' (first | (with_reducible exact Below.refl _ _) | (with_reducible assumption) | (with_reducible refine Below.alloc ?_ ?_ _) | (with_reducible refine below_drewN ?_ _) | (with_reducible refine Below.drew ?_) | (with_reducible refine Below.setCell ?_ ?_ _) | (with_reducible refine below_via (by assumption) ?_ ?_) | (with_reducible refine below_via (later_below _) ?_ ?_) | (with_reducible exact Nat.le_refl _) | omega | (simp; omega) | (simp; done)))

set_option maxHeartbeats 8000000 in
set_option maxRecDepth 100000 in
theorem rnum_pt_no (s : ByteArray) (i : Nat) (w : World) (hs : s.size ≤ 4200) (hi : i ≤ s.size) (hx : NoHex s i) (j : Nat) (hij : i ≤ j) (hjs : j ≤ s.size) (hr1 : RRun s i 10 j) (hne : i < j) (h0 : j + 1 < s.size) (h1 : (s[j]'(by omega)).toNat = 46) (h2 : dvN (s[j + 1]'h0).toNat < 10) (r : Nat) (hri : j + 1 ≤ r) (hrs : r ≤ s.size) (hr2 : RRun s ((j : Int) + 1) 10 r) (hn : RNum (s.extract i j ++ s.extract (j + 1) r) 10 0 false) :
    Calls Tryz.prog 123 #[.string s, .int .i64 i] w fun e w' => e = .returned (rnumV r 0 0 6) ∧ Below w.heap.size w w' := by
  have HR1 := Lib.hid hr1
  clear hr1
  have HR2 := Lib.hid hr2
  clear hr2
  have HN := Lib.hid hn
  clear hn
  unfold NoHex at hx
  rcases hx with hx | ⟨hx0, hx | ⟨hx, hx1, hx2⟩ | ⟨hx, hx1, hx2⟩ | ⟨hx, hx1, hx2⟩⟩
  all_goals
    go_enter Tryz.func123, Tryz.ntmps123
    go_wp2_with (first | (go_at_call 135; (with_reducible refine (rdigit_any _ (UInt8.toNat_lt _) _).mono ?_); rintro e w' ⟨rfl, rfl⟩) | (go_at_call 136; (with_reducible refine (HR1.out _).mono ?_); rintro e w' ⟨rfl, rfl⟩) | (go_at_call 136; (with_reducible refine (HR2.out _).mono ?_); rintro e w' ⟨rfl, rfl⟩) | (go_at_call 125; (with_reducible refine (HN.out _).mono ?_); rintro e w' ⟨rfl, rfl⟩) | (go_at_call 137; (with_reducible refine (HPW.out _).mono ?_); rintro e w' ⟨rfl, rfl⟩) | (go_at_call 126; (with_reducible refine (HM.out _).mono ?_); rintro e w9 ⟨rfl, hb⟩; (refine mem hb ?_; intro N hN hz hc hf; (try simp at hN); subst hN)))
    all_goals ((try simp only [Exit.inBlock, Exit.then]); refine bodyPost_ret (by first | (simp [results, Tryz.results123, go_sem, *]; done) | (simp [results, Tryz.results123, go_sem, *]; rfl) | (simp [results, Tryz.results123, go_sem, ↓IntWalk.iteOmega, *]; try rfl)) rfl ?_)
    all_goals refine ⟨rfl, ?_⟩
    all_goals (repeat' (first | (with_reducible exact Below.refl _ _) | (with_reducible assumption) | (with_reducible refine Below.alloc ?_ ?_ _) | (with_reducible refine below_drewN ?_ _) | (with_reducible refine Below.drew ?_) | (with_reducible refine Below.setCell ?_ ?_ _) | (with_reducible refine below_via (by assumption) ?_ ?_) | (with_reducible refine below_via (later_below _) ?_ ?_) | (with_reducible exact Nat.le_refl _) | omega | (simp; omega) | (simp; done)))

set_option maxHeartbeats 8000000 in
set_option maxRecDepth 100000 in
theorem rnum_pt_far (s : ByteArray) (i : Nat) (w : World) (hs : s.size ≤ 4200) (hi : i ≤ s.size) (hx : NoHex s i) (j : Nat) (hij : i ≤ j) (hjs : j ≤ s.size) (hr1 : RRun s i 10 j) (hne : i < j) (h0 : j + 1 < s.size) (h1 : (s[j]'(by omega)).toNat = 46) (h2 : dvN (s[j + 1]'h0).toNat < 10) (r : Nat) (hri : j + 1 ≤ r) (hrs : r ≤ s.size) (hr2 : RRun s ((j : Int) + 1) 10 r) (h9 : 9 < r - (j + 1)) (n : Int) (hn : RNum (s.extract i j ++ s.extract (j + 1) r) 10 n true) :
    Calls Tryz.prog 123 #[.string s, .int .i64 i] w fun e w' => e = .returned (rnumV r 0 0 6) ∧ Below w.heap.size w w' := by
  have HR1 := Lib.hid hr1
  clear hr1
  have HR2 := Lib.hid hr2
  clear hr2
  have HN := Lib.hid hn
  clear hn
  unfold NoHex at hx
  rcases hx with hx | ⟨hx0, hx | ⟨hx, hx1, hx2⟩ | ⟨hx, hx1, hx2⟩ | ⟨hx, hx1, hx2⟩⟩
  all_goals
    go_enter Tryz.func123, Tryz.ntmps123
    go_wp2_with (first | (go_at_call 135; (with_reducible refine (rdigit_any _ (UInt8.toNat_lt _) _).mono ?_); rintro e w' ⟨rfl, rfl⟩) | (go_at_call 136; (with_reducible refine (HR1.out _).mono ?_); rintro e w' ⟨rfl, rfl⟩) | (go_at_call 136; (with_reducible refine (HR2.out _).mono ?_); rintro e w' ⟨rfl, rfl⟩) | (go_at_call 125; (with_reducible refine (HN.out _).mono ?_); rintro e w' ⟨rfl, rfl⟩) | (go_at_call 137; (with_reducible refine (HPW.out _).mono ?_); rintro e w' ⟨rfl, rfl⟩) | (go_at_call 126; (with_reducible refine (HM.out _).mono ?_); rintro e w9 ⟨rfl, hb⟩; (refine mem hb ?_; intro N hN hz hc hf; (try simp at hN); subst hN)))
    all_goals ((try simp only [Exit.inBlock, Exit.then]); refine bodyPost_ret (by first | (simp [results, Tryz.results123, go_sem, *]; done) | (simp [results, Tryz.results123, go_sem, *]; rfl) | (simp [results, Tryz.results123, go_sem, ↓IntWalk.iteOmega, *]; try rfl)) rfl ?_)
    all_goals refine ⟨rfl, ?_⟩
    all_goals (repeat' (first | (with_reducible exact Below.refl _ _) | (with_reducible assumption) | (with_reducible refine Below.alloc ?_ ?_ _) | (with_reducible refine below_drewN ?_ _) | (with_reducible refine Below.drew ?_) | (with_reducible refine Below.setCell ?_ ?_ _) | (with_reducible refine below_via (by assumption) ?_ ?_) | (with_reducible refine below_via (later_below _) ?_ ?_) | (with_reducible exact Nat.le_refl _) | omega | (simp; omega) | (simp; done)))

set_option maxHeartbeats 8000000 in
set_option maxRecDepth 100000 in
theorem rnum_pt (s : ByteArray) (i : Nat) (w : World) (hs : s.size ≤ 4200) (hi : i ≤ s.size) (hx : NoHex s i) (j : Nat) (hij : i ≤ j) (hjs : j ≤ s.size) (hr1 : RRun s i 10 j) (hne : i < j) (h0 : j + 1 < s.size) (h1 : (s[j]'(by omega)).toNat = 46) (h2 : dvN (s[j + 1]'h0).toNat < 10) (r : Nat) (hri : j + 1 ≤ r) (hrs : r ≤ s.size) (hr2 : RRun s ((j : Int) + 1) 10 r) (h9 : r - (j + 1) ≤ 9) (n u P Q E : Int) (hn : RNum (s.extract i j ++ s.extract (j + 1) r) 10 n true) (hpw : RPow ((r : Int) - ((j : Int) + 1)) u) (hm : RMake n u P Q E) :
    Calls Tryz.prog 123 #[.string s, .int .i64 i] w fun e w' => e = .returned (rnumV r P Q E) ∧ Below w.heap.size w w' := by
  have HR1 := Lib.hid hr1
  clear hr1
  have HR2 := Lib.hid hr2
  clear hr2
  have HN := Lib.hid hn
  clear hn
  have HPW := Lib.hid hpw
  clear hpw
  have HM := Lib.hid hm
  clear hm
  unfold NoHex at hx
  rcases hx with hx | ⟨hx0, hx | ⟨hx, hx1, hx2⟩ | ⟨hx, hx1, hx2⟩ | ⟨hx, hx1, hx2⟩⟩
  all_goals
    go_enter Tryz.func123, Tryz.ntmps123
    go_wp2_with (first | (go_at_call 135; (with_reducible refine (rdigit_any _ (UInt8.toNat_lt _) _).mono ?_); rintro e w' ⟨rfl, rfl⟩) | (go_at_call 136; (with_reducible refine (HR1.out _).mono ?_); rintro e w' ⟨rfl, rfl⟩) | (go_at_call 136; (with_reducible refine (HR2.out _).mono ?_); rintro e w' ⟨rfl, rfl⟩) | (go_at_call 125; (with_reducible refine (HN.out _).mono ?_); rintro e w' ⟨rfl, rfl⟩) | (go_at_call 137; (with_reducible refine (HPW.out _).mono ?_); rintro e w' ⟨rfl, rfl⟩) | (go_at_call 126; (with_reducible refine (HM.out _).mono ?_); rintro e w9 ⟨rfl, hb⟩; (refine mem hb ?_; intro N hN hz hc hf; (try simp at hN); subst hN)))
    all_goals go_region
    all_goals go_wp2_with fail
    all_goals ((try simp only [Exit.inBlock, Exit.then]); refine bodyPost_ret (by first | (simp [results, Tryz.results123, go_sem, *]; done) | (simp [results, Tryz.results123, go_sem, *]; rfl) | (simp [results, Tryz.results123, go_sem, ↓IntWalk.iteOmega, *]; try rfl)) rfl ?_)
    all_goals refine ⟨rfl, ?_⟩
    all_goals (repeat' (first | (with_reducible exact Below.refl _ _) | (with_reducible assumption) | (with_reducible refine Below.alloc ?_ ?_ _) | (with_reducible refine below_drewN ?_ _) | (with_reducible refine Below.drew ?_) | (with_reducible refine Below.setCell ?_ ?_ _) | (with_reducible refine below_via (by assumption) ?_ ?_) | (with_reducible refine below_via (later_below _) ?_ ?_) | (with_reducible exact Nat.le_refl _) | omega | (simp; omega) | (simp; done)))

end Go.Proofs.YtfclmnglckikbaaGreatDoor
