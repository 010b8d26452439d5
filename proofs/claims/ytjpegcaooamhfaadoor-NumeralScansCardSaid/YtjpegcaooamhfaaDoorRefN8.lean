/- The reference's unsigned, Parse and Scan: the walks. -/
import Derived.Test.YtjpegcaooamhfaaDoorRefN7
namespace Go.Proofs.YtjpegcaooamhfaaDoor
open Go.RowKit
set_option linter.unusedVariables false

abbrev RSlash (s : ByteArray) (k : Int) : Prop := ∀ w, Calls Tryd.prog 57 #[.string s] w fun e w' => e = .returned (.int .i64 k) ∧ w = w'
abbrev RDigits (s : ByteArray) (b : Bool) : Prop := ∀ w, Calls Tryd.prog 58 #[.string s] w fun e w' => e = .returned (.bool b) ∧ w = w'
abbrev RTrim (s t : ByteArray) : Prop := ∀ w, Calls Tryd.prog 36 #[.string s] w fun e w' => e = .returned (.string t) ∧ w = w'
abbrev RNumr (s : ByteArray) (i : Int) (r P Q E : Int) : Prop := ∀ w, Calls Tryd.prog 38 #[.string s, .int .i64 i] w fun e w' => e = .returned (.tuple #[.int .i64 r, .agg #[.int .i64 P, .int .i64 Q], .int .i64 E]) ∧ Below w.heap.size w w'
abbrev RUns (s : ByteArray) (P Q E : Int) : Prop := ∀ w, Calls Tryd.prog 37 #[.string s] w fun e w' => e = .returned (.tuple #[.agg #[.int .i64 P, .int .i64 Q], .int .i64 E]) ∧ Below w.heap.size w w'

set_option maxHeartbeats 2000000 in
set_option maxRecDepth 100000 in
theorem runs_form (s : ByteArray) (hk : RSlash s (-1)) (r : Nat) (P Q E : Int) (hn : RNumr s 0 r P Q E) (h : r = 0 ∨ (¬ r = 0 ∧ r < s.size)) : RUns s 0 0 4 := by
  intro w
  have HK := Lib.hid hk
  have HN := Lib.hid hn
  clear hk hn
  rcases h with rfl | ⟨h, h2⟩
  all_goals
    go_enter Tryd.func37, Tryd.ntmps37
    go_wp2_with (first | (go_at_call 57; refine (HK.out _).mono ?_; rintro e w2 ⟨rfl, rfl⟩) | (go_at_call 38; refine (HN.out _).mono ?_; rintro e w9 ⟨rfl, hb⟩; (refine mem hb ?_; intro N hN hz hc hf; (try simp at hN); subst hN)))
    ((try simp only [Exit.inBlock, Exit.then]); refine bodyPost_ret (by first | (simp [results, Tryd.results37, go_sem, *]; done) | (simp [results, Tryd.results37, go_sem, *]; rfl) | (simp [results, Tryd.results37, go_sem, ↓IntWalk.iteOmega, *]; try rfl)) rfl ?_)
    refine ⟨rfl, ?_⟩
    (repeat' (first | (with_reducible exact Below.refl _ _) | (with_reducible assumption) | (with_reducible refine Below.alloc ?_ ?_ _) | (with_reducible refine below_drewN ?_ _) | (with_reducible refine Below.drew ?_) | (with_reducible refine Below.setCell ?_ ?_ _) | (with_reducible refine below_via (by assumption) ?_ ?_) | (with_reducible refine below_via (later_below _) ?_ ?_) | (with_reducible exact Nat.le_refl _) | omega | (simp; omega) | (simp; done)))

set_option maxHeartbeats 2000000 in
set_option maxRecDepth 100000 in
theorem runs_num (s : ByteArray) (hk : RSlash s (-1)) (r : Nat) (P Q E : Int) (hn : RNumr s 0 r P Q E) (h : ¬ r = 0) (h2 : ¬ r < s.size) : RUns s P Q E := by
  intro w
  have HK := Lib.hid hk
  have HN := Lib.hid hn
  clear hk hn
  go_enter Tryd.func37, Tryd.ntmps37
  go_wp2_with (first | (go_at_call 57; refine (HK.out _).mono ?_; rintro e w2 ⟨rfl, rfl⟩) | (go_at_call 38; refine (HN.out _).mono ?_; rintro e w9 ⟨rfl, hb⟩; (refine mem hb ?_; intro N hN hz hc hf; (try simp at hN); subst hN)))
  ((try simp only [Exit.inBlock, Exit.then]); refine bodyPost_ret (by first | (simp [results, Tryd.results37, go_sem, *]; done) | (simp [results, Tryd.results37, go_sem, *]; rfl) | (simp [results, Tryd.results37, go_sem, ↓IntWalk.iteOmega, *]; try rfl)) rfl ?_)
  refine ⟨rfl, ?_⟩
  (repeat' (first | (with_reducible exact Below.refl _ _) | (with_reducible assumption) | (with_reducible refine Below.alloc ?_ ?_ _) | (with_reducible refine below_drewN ?_ _) | (with_reducible refine Below.drew ?_) | (with_reducible refine Below.setCell ?_ ?_ _) | (with_reducible refine below_via (by assumption) ?_ ?_) | (with_reducible refine below_via (later_below _) ?_ ?_) | (with_reducible exact Nat.le_refl _) | omega | (simp; omega) | (simp; done)))

set_option maxHeartbeats 2000000 in
set_option maxRecDepth 100000 in
theorem runs_bad (s : ByteArray) (k : Nat) (hs : s.size ≤ 2000) (hk1 : k < s.size) (hk : RSlash s k) (b1 b2 : Bool) (h1 : RDigits (s.extract 0 k) b1) (h2 : RDigits (s.extract (k + 1) s.size) b2) (h : b1 = false ∨ (b1 = true ∧ b2 = false)) : RUns s 0 0 4 := by
  intro w
  have HK := Lib.hid hk
  have H1 := Lib.hid h1
  have H2 := Lib.hid h2
  clear hk h1 h2
  rcases h with rfl | ⟨rfl, rfl⟩
  all_goals
    go_enter Tryd.func37, Tryd.ntmps37
    go_wp2_with (first | (go_at_call 57; refine (HK.out _).mono ?_; rintro e w2 ⟨rfl, rfl⟩) | (go_at_call 58; (with_reducible refine (H1.out _).mono ?_); rintro e w2 ⟨rfl, rfl⟩) | (go_at_call 58; (with_reducible refine (H2.out _).mono ?_); rintro e w2 ⟨rfl, rfl⟩))
    ((try simp only [Exit.inBlock, Exit.then]); refine bodyPost_ret (by first | (simp [results, Tryd.results37, go_sem, *]; done) | (simp [results, Tryd.results37, go_sem, *]; rfl) | (simp [results, Tryd.results37, go_sem, ↓IntWalk.iteOmega, *]; try rfl)) rfl ?_)
    refine ⟨rfl, ?_⟩
    (repeat' (first | (with_reducible exact Below.refl _ _) | (with_reducible assumption) | (with_reducible refine Below.alloc ?_ ?_ _) | (with_reducible refine below_drewN ?_ _) | (with_reducible refine Below.drew ?_) | (with_reducible refine Below.setCell ?_ ?_ _) | (with_reducible refine below_via (by assumption) ?_ ?_) | (with_reducible refine below_via (later_below _) ?_ ?_) | (with_reducible exact Nat.le_refl _) | omega | (simp; omega) | (simp; done)))

set_option maxHeartbeats 2000000 in
set_option maxRecDepth 100000 in
theorem runs_range (s : ByteArray) (k : Nat) (hs : s.size ≤ 2000) (hk1 : k < s.size) (hk : RSlash s k) (h1 : RDigits (s.extract 0 k) true) (h2 : RDigits (s.extract (k + 1) s.size) true) (p q : Int) (o1 o2 : Bool) (n1 : RNum (s.extract 0 k) 10 p o1) (n2 : RNum (s.extract (k + 1) s.size) 10 q o2)
    (h : o1 = false ∨ (o1 = true ∧ o2 = false) ∨ (o1 = true ∧ o2 = true ∧ q = 0)) : RUns s 0 0 6 := by
  intro w
  have HK := Lib.hid hk
  have H1 := Lib.hid h1
  have H2 := Lib.hid h2
  have N1 := Lib.hid n1
  have N2 := Lib.hid n2
  clear hk h1 h2 n1 n2
  rcases h with rfl | ⟨rfl, rfl⟩ | ⟨rfl, rfl, rfl⟩
  all_goals
    go_enter Tryd.func37, Tryd.ntmps37
    go_wp2_with (first | (go_at_call 57; refine (HK.out _).mono ?_; rintro e w2 ⟨rfl, rfl⟩) | (go_at_call 58; (with_reducible refine (H1.out _).mono ?_); rintro e w2 ⟨rfl, rfl⟩) | (go_at_call 58; (with_reducible refine (H2.out _).mono ?_); rintro e w2 ⟨rfl, rfl⟩) | (go_at_call 59; (with_reducible refine (N1.out _).mono ?_); rintro e w2 ⟨rfl, rfl⟩) | (go_at_call 59; (with_reducible refine (N2.out _).mono ?_); rintro e w2 ⟨rfl, rfl⟩))
    ((try simp only [Exit.inBlock, Exit.then]); refine bodyPost_ret (by first | (simp [results, Tryd.results37, go_sem, *]; done) | (simp [results, Tryd.results37, go_sem, *]; rfl) | (simp [results, Tryd.results37, go_sem, ↓IntWalk.iteOmega, *]; try rfl)) rfl ?_)
    refine ⟨rfl, ?_⟩
    (repeat' (first | (with_reducible exact Below.refl _ _) | (with_reducible assumption) | (with_reducible refine Below.alloc ?_ ?_ _) | (with_reducible refine below_drewN ?_ _) | (with_reducible refine Below.drew ?_) | (with_reducible refine Below.setCell ?_ ?_ _) | (with_reducible refine below_via (by assumption) ?_ ?_) | (with_reducible refine below_via (later_below _) ?_ ?_) | (with_reducible exact Nat.le_refl _) | omega | (simp; omega) | (simp; done)))

set_option maxHeartbeats 2000000 in
set_option maxRecDepth 100000 in
theorem runs_make (s : ByteArray) (k : Nat) (hs : s.size ≤ 2000) (hk1 : k < s.size) (hk : RSlash s k) (h1 : RDigits (s.extract 0 k) true) (h2 : RDigits (s.extract (k + 1) s.size) true) (p q : Int) (n1 : RNum (s.extract 0 k) 10 p true) (n2 : RNum (s.extract (k + 1) s.size) 10 q true)
    (h : ¬ q = 0) (P Q E : Int) (hm : RMake p q P Q E) : RUns s P Q E := by
  intro w
  have HK := Lib.hid hk
  have H1 := Lib.hid h1
  have H2 := Lib.hid h2
  have N1 := Lib.hid n1
  have N2 := Lib.hid n2
  have HM := Lib.hid hm
  clear hk h1 h2 n1 n2 hm
  go_enter Tryd.func37, Tryd.ntmps37
  go_wp2_with (first | (go_at_call 57; refine (HK.out _).mono ?_; rintro e w2 ⟨rfl, rfl⟩) | (go_at_call 58; (with_reducible refine (H1.out _).mono ?_); rintro e w2 ⟨rfl, rfl⟩) | (go_at_call 58; (with_reducible refine (H2.out _).mono ?_); rintro e w2 ⟨rfl, rfl⟩) | (go_at_call 59; (with_reducible refine (N1.out _).mono ?_); rintro e w2 ⟨rfl, rfl⟩) | (go_at_call 59; (with_reducible refine (N2.out _).mono ?_); rintro e w2 ⟨rfl, rfl⟩) | (go_at_call 60; refine (HM.out _).mono ?_; rintro e w9 ⟨rfl, hb⟩; (refine mem hb ?_; intro N hN hz hc hf; (try simp at hN); subst hN)))
  ((try simp only [Exit.inBlock, Exit.then]); refine bodyPost_ret (by first | (simp [results, Tryd.results37, go_sem, *]; done) | (simp [results, Tryd.results37, go_sem, *]; rfl) | (simp [results, Tryd.results37, go_sem, ↓IntWalk.iteOmega, *]; try rfl)) rfl ?_)
  refine ⟨rfl, ?_⟩
  (repeat' (first | (with_reducible exact Below.refl _ _) | (with_reducible assumption) | (with_reducible refine Below.alloc ?_ ?_ _) | (with_reducible refine below_drewN ?_ _) | (with_reducible refine Below.drew ?_) | (with_reducible refine Below.setCell ?_ ?_ _) | (with_reducible refine below_via (by assumption) ?_ ?_) | (with_reducible refine below_via (later_below _) ?_ ?_) | (with_reducible exact Nat.le_refl _) | omega | (simp; omega) | (simp; done)))
end Go.Proofs.YtjpegcaooamhfaaDoor
