/- The contract of numeral.fraction. -/
import Derived.Test.YtfclmnglckikbaaGreatDoorMNumB
import Derived.Test.YtfclmnglckikbaaGreatDoorMStr
namespace Go.Proofs.YtfclmnglckikbaaGreatDoor
open Go.RowKit
set_option linter.unusedVariables false

set_option maxHeartbeats 1000000 in
theorem cut_no (s : ByteArray) (c : UInt8) (h : Lib.indexByte s.data.toList c = -1) (w : World) :
    Calls Tryz.prog 134 #[.string s, .string ⟨#[c]⟩] w fun e w' => e = .returned (.tuple #[.string s, .string ⟨#[]⟩, .bool false]) ∧ Below w.heap.size w w' := by
  have HC := Lib.hid (cutl_no s c h)
  clear h
  go_enter Tryz.func134, Tryz.ntmps134
  go_wp2_with (first | (go_at_call 148; refine (HC.out _).mono ?_; rintro e w1 ⟨rfl, hb⟩))
  ((try simp only [Exit.inBlock, Exit.then]); refine bodyPost_ret (by first | (simp [results, Tryz.results134, go_sem, *]; done) | (simp [results, Tryz.results134, go_sem, *]; rfl) | (simp [results, Tryz.results134, go_sem, ↓IntWalk.iteOmega, *]; try rfl)) rfl ?_)
  exact ⟨rfl, hb⟩

set_option maxHeartbeats 1000000 in
theorem cut_yes (s p q : ByteArray) (c : UInt8) (k : Nat) (h : Lib.indexByte s.data.toList c = k) (hk : k < s.size) (hs : s.size ≤ 9223372036854775807) (hp : s.extract 0 k = p) (hq : s.extract (k + 1) s.size = q) (w : World) :
    Calls Tryz.prog 134 #[.string s, .string ⟨#[c]⟩] w fun e w' => e = .returned (.tuple #[.string p, .string q, .bool true]) ∧ Below w.heap.size w w' := by
  subst hp hq
  have HC := Lib.hid (cutl_yes s c k h hk hs)
  clear h
  go_enter Tryz.func134, Tryz.ntmps134
  go_wp2_with (first | (go_at_call 148; refine (HC.out _).mono ?_; rintro e w1 ⟨rfl, hb⟩))
  ((try simp only [Exit.inBlock, Exit.then]); refine bodyPost_ret (by first | (simp [results, Tryz.results134, go_sem, *]; done) | (simp [results, Tryz.results134, go_sem, *]; rfl) | (simp [results, Tryz.results134, go_sem, ↓IntWalk.iteOmega, *]; try rfl)) rfl ?_)
  exact ⟨rfl, hb⟩

set_option maxHeartbeats 1000000 in
theorem frac_no (s : ByteArray) (h : Lib.indexByte s.data.toList 47 = -1) (w : World) :
    Calls Tryz.prog 120 #[.string s] w fun e w' => e = .returned (tripV (0, 0, 4)) ∧ Below w.heap.size w w' := by
  have HC := Lib.hid (cut_no s 47 h)
  clear h
  go_enter Tryz.func120, Tryz.ntmps120
  go_wp2_with (first | (go_at_call 134; refine (HC.out _).mono ?_; rintro e w1 ⟨rfl, hb⟩; (refine mem hb ?_; intro N hN hz hc hf; (try simp at hN); subst hN)))
  ((try simp only [Exit.inBlock, Exit.then]); refine bodyPost_ret (by first | (simp [results, Tryz.results120, go_sem, *]; done) | (simp [results, Tryz.results120, go_sem, *]; rfl) | (simp [results, Tryz.results120, go_sem, ↓IntWalk.iteOmega, *]; try rfl)) rfl ?_)
  refine ⟨rfl, ?_⟩
  (repeat' (first | (with_reducible exact Below.refl _ _) | (with_reducible assumption) | (with_reducible refine Below.alloc ?_ ?_ _) | (with_reducible refine below_drewN ?_ _) | (with_reducible refine Below.drew ?_) | (with_reducible refine Below.setCell ?_ ?_ _) | (with_reducible refine below_via (by assumption) ?_ ?_) | (with_reducible refine below_via (later_below _) ?_ ?_) | (with_reducible exact Nat.le_refl _) | omega | (simp; omega) | (simp; done)))

/-- What 'fraction' has learned of its two parts. -/
structure FracFacts (s p q : ByteArray) : Prop where
  cut : ∀ w, Calls Tryz.prog 134 #[.string s, .string ⟨#[47]⟩] w fun e w' => e = .returned (.tuple #[.string p, .string q, .bool true]) ∧ Below w.heap.size w w'

abbrev RunSays (p : ByteArray) (r : Int) : Prop := ∀ w, Calls Tryz.prog 131 #[.string p, .int .i64 0, .int .i64 10] w fun e w' => e = .returned (.int .i64 r) ∧ w = w'
abbrev IntSays (p : ByteArray) (a : Int) (x : Bool) : Prop := ∀ w, Calls Tryz.prog 132 #[.string p, .int .i64 10] w fun e w' => e = .returned (.tuple #[.int .i64 a, .bool x]) ∧ w = w'
abbrev MakeSays (a b P Q E : Int) : Prop := ∀ w, Calls Tryz.prog 133 #[.int .i64 a, .int .i64 b] w fun e w' => e = .returned (.tuple #[.agg #[.int .i64 P, .int .i64 Q], .int .i64 E]) ∧ Below w.heap.size w w'

set_option maxHeartbeats 1000000 in
theorem frac_empty1 (s p q : ByteArray) (w : World) (F : FracFacts s p q) (hp : p.toList = []) :
    Calls Tryz.prog 120 #[.string s] w fun e w' => e = .returned (tripV (0, 0, 4)) ∧ Below w.heap.size w w' := by
  have HC := Lib.hid F.cut
  clear F
  go_enter Tryz.func120, Tryz.ntmps120
  go_wp2_with (first | (go_at_call 134; refine (HC.out _).mono ?_; rintro e w1 ⟨rfl, hb⟩; (refine mem hb ?_; intro N hN hz hc hf; (try simp at hN); subst hN)))
  ((try simp only [Exit.inBlock, Exit.then]); refine bodyPost_ret (by first | (simp [results, Tryz.results120, go_sem, *]; done) | (simp [results, Tryz.results120, go_sem, *]; rfl) | (simp [results, Tryz.results120, go_sem, ↓IntWalk.iteOmega, *]; try rfl)) rfl ?_)
  refine ⟨rfl, ?_⟩
  (repeat' (first | (with_reducible exact Below.refl _ _) | (with_reducible assumption) | (with_reducible refine Below.alloc ?_ ?_ _) | (with_reducible refine below_drewN ?_ _) | (with_reducible refine Below.drew ?_) | (with_reducible refine Below.setCell ?_ ?_ _) | (with_reducible refine below_via (by assumption) ?_ ?_) | (with_reducible refine below_via (later_below _) ?_ ?_) | (with_reducible exact Nat.le_refl _) | omega | (simp; omega) | (simp; done)))
set_option maxHeartbeats 1000000 in
theorem frac_empty2 (s p q : ByteArray) (w : World) (F : FracFacts s p q) (hp : ¬ p.toList = []) (hq : q.toList = []) :
    Calls Tryz.prog 120 #[.string s] w fun e w' => e = .returned (tripV (0, 0, 4)) ∧ Below w.heap.size w w' := by
  have HC := Lib.hid F.cut
  clear F
  go_enter Tryz.func120, Tryz.ntmps120
  go_wp2_with (first | (go_at_call 134; refine (HC.out _).mono ?_; rintro e w1 ⟨rfl, hb⟩; (refine mem hb ?_; intro N hN hz hc hf; (try simp at hN); subst hN)))
  ((try simp only [Exit.inBlock, Exit.then]); refine bodyPost_ret (by first | (simp [results, Tryz.results120, go_sem, *]; done) | (simp [results, Tryz.results120, go_sem, *]; rfl) | (simp [results, Tryz.results120, go_sem, ↓IntWalk.iteOmega, *]; try rfl)) rfl ?_)
  refine ⟨rfl, ?_⟩
  (repeat' (first | (with_reducible exact Below.refl _ _) | (with_reducible assumption) | (with_reducible refine Below.alloc ?_ ?_ _) | (with_reducible refine below_drewN ?_ _) | (with_reducible refine Below.drew ?_) | (with_reducible refine Below.setCell ?_ ?_ _) | (with_reducible refine below_via (by assumption) ?_ ?_) | (with_reducible refine below_via (later_below _) ?_ ?_) | (with_reducible exact Nat.le_refl _) | omega | (simp; omega) | (simp; done)))
set_option maxHeartbeats 1000000 in
theorem frac_run1 (s p q : ByteArray) (w : World) (F : FracFacts s p q) (hp : ¬ p.toList = []) (hq : ¬ q.toList = []) (r : Int) (hr : RunSays p r) (h : (r != p.size) = true) :
    Calls Tryz.prog 120 #[.string s] w fun e w' => e = .returned (tripV (0, 0, 4)) ∧ Below w.heap.size w w' := by
  have hp2 : p.toList.isEmpty = false := by simpa using hp
  have hq2 : q.toList.isEmpty = false := by simpa using hq
  have HC := Lib.hid F.cut
  have HR := Lib.hid hr
  clear F hr
  go_enter Tryz.func120, Tryz.ntmps120
  go_wp2_with (first | (go_at_call 134; refine (HC.out _).mono ?_; rintro e w1 ⟨rfl, hb⟩; (refine mem hb ?_; intro N hN hz hc hf; (try simp at hN); subst hN)) | (go_at_call 131; refine (HR.out _).mono ?_; rintro e w2 ⟨rfl, rfl⟩))
  ((try simp only [Exit.inBlock, Exit.then]); refine bodyPost_ret (by first | (simp [results, Tryz.results120, go_sem, *]; done) | (simp [results, Tryz.results120, go_sem, *]; rfl) | (simp [results, Tryz.results120, go_sem, ↓IntWalk.iteOmega, *]; try rfl)) rfl ?_)
  refine ⟨rfl, ?_⟩
  (repeat' (first | (with_reducible exact Below.refl _ _) | (with_reducible assumption) | (with_reducible refine Below.alloc ?_ ?_ _) | (with_reducible refine below_drewN ?_ _) | (with_reducible refine Below.drew ?_) | (with_reducible refine Below.setCell ?_ ?_ _) | (with_reducible refine below_via (by assumption) ?_ ?_) | (with_reducible refine below_via (later_below _) ?_ ?_) | (with_reducible exact Nat.le_refl _) | omega | (simp; omega) | (simp; done)))
set_option maxHeartbeats 1000000 in
theorem frac_run2 (s p q : ByteArray) (w : World) (F : FracFacts s p q) (hp : ¬ p.toList = []) (hq : ¬ q.toList = []) (hr : RunSays p p.size) (r : Int) (hr2 : RunSays q r) (h : (r != q.size) = true) :
    Calls Tryz.prog 120 #[.string s] w fun e w' => e = .returned (tripV (0, 0, 4)) ∧ Below w.heap.size w w' := by
  have hp2 : p.toList.isEmpty = false := by simpa using hp
  have hq2 : q.toList.isEmpty = false := by simpa using hq
  have HC := Lib.hid F.cut
  have HR := Lib.hid hr
  have HR2 := Lib.hid hr2
  clear F hr hr2
  go_enter Tryz.func120, Tryz.ntmps120
  go_wp2_with (first | (go_at_call 134; refine (HC.out _).mono ?_; rintro e w1 ⟨rfl, hb⟩; (refine mem hb ?_; intro N hN hz hc hf; (try simp at hN); subst hN)) | (go_at_call 131; (first | (with_reducible refine (HR.out _).mono ?_) | (with_reducible refine (HR2.out _).mono ?_)); rintro e w2 ⟨rfl, rfl⟩))
  ((try simp only [Exit.inBlock, Exit.then]); refine bodyPost_ret (by first | (simp [results, Tryz.results120, go_sem, *]; done) | (simp [results, Tryz.results120, go_sem, *]; rfl) | (simp [results, Tryz.results120, go_sem, ↓IntWalk.iteOmega, *]; try rfl)) rfl ?_)
  refine ⟨rfl, ?_⟩
  (repeat' (first | (with_reducible exact Below.refl _ _) | (with_reducible assumption) | (with_reducible refine Below.alloc ?_ ?_ _) | (with_reducible refine below_drewN ?_ _) | (with_reducible refine Below.drew ?_) | (with_reducible refine Below.setCell ?_ ?_ _) | (with_reducible refine below_via (by assumption) ?_ ?_) | (with_reducible refine below_via (later_below _) ?_ ?_) | (with_reducible exact Nat.le_refl _) | omega | (simp; omega) | (simp; done)))
set_option maxHeartbeats 2000000 in
theorem frac_ints (s p q : ByteArray) (w : World) (F : FracFacts s p q) (hp : ¬ p.toList = []) (hq : ¬ q.toList = []) (hr : RunSays p p.size) (hr2 : RunSays q q.size) (a b : Int) (x y : Bool) (hi : IntSays p a x) (hi2 : IntSays q b y)
    (h : (x = false ∨ x = true ∧ y = false)) :
    Calls Tryz.prog 120 #[.string s] w fun e w' => e = .returned (tripV (0, 0, 6)) ∧ Below w.heap.size w w' := by
  have hp2 : p.toList.isEmpty = false := by simpa using hp
  have hq2 : q.toList.isEmpty = false := by simpa using hq
  have HC := Lib.hid F.cut
  have HR := Lib.hid hr
  have HR2 := Lib.hid hr2
  have HI := Lib.hid hi
  have HI2 := Lib.hid hi2
  clear F hr hr2 hi hi2
  rcases h with rfl | ⟨rfl, rfl⟩
  all_goals
    go_enter Tryz.func120, Tryz.ntmps120
    go_wp2_with (first | (go_at_call 134; refine (HC.out _).mono ?_; rintro e w1 ⟨rfl, hb⟩; (refine mem hb ?_; intro N hN hz hc hf; (try simp at hN); subst hN)) | (go_at_call 131; (first | (with_reducible refine (HR.out _).mono ?_) | (with_reducible refine (HR2.out _).mono ?_)); rintro e w2 ⟨rfl, rfl⟩) | (go_at_call 132; (first | (with_reducible refine (HI.out _).mono ?_) | (with_reducible refine (HI2.out _).mono ?_)); rintro e w2 ⟨rfl, rfl⟩))
    ((try simp only [Exit.inBlock, Exit.then]); refine bodyPost_ret (by first | (simp [results, Tryz.results120, go_sem, *]; done) | (simp [results, Tryz.results120, go_sem, *]; rfl) | (simp [results, Tryz.results120, go_sem, ↓IntWalk.iteOmega, *]; try rfl)) rfl ?_)
    refine ⟨rfl, ?_⟩
    (repeat' (first | (with_reducible exact Below.refl _ _) | (with_reducible assumption) | (with_reducible refine Below.alloc ?_ ?_ _) | (with_reducible refine below_drewN ?_ _) | (with_reducible refine Below.drew ?_) | (with_reducible refine Below.setCell ?_ ?_ _) | (with_reducible refine below_via (by assumption) ?_ ?_) | (with_reducible refine below_via (later_below _) ?_ ?_) | (with_reducible exact Nat.le_refl _) | omega | (simp; omega) | (simp; done)))
set_option maxHeartbeats 2000000 in
theorem frac_make (s p q : ByteArray) (w : World) (F : FracFacts s p q) (hp : ¬ p.toList = []) (hq : ¬ q.toList = []) (hr : RunSays p p.size) (hr2 : RunSays q q.size) (a b : Int) (hi : IntSays p a true) (hi2 : IntSays q b true)
    (P Q E : Int) (hm : MakeSays a b P Q E) (T : Int × Int × Int) (h : E = 0 ∧ T = (P, Q, 0) ∨ (E != 0) = true ∧ T = (0, 0, 6)) :
    Calls Tryz.prog 120 #[.string s] w fun e w' => e = .returned (tripV T) ∧ Below w.heap.size w w' := by
  have hp2 : p.toList.isEmpty = false := by simpa using hp
  have hq2 : q.toList.isEmpty = false := by simpa using hq
  have HC := Lib.hid F.cut
  have HR := Lib.hid hr
  have HR2 := Lib.hid hr2
  have HI := Lib.hid hi
  have HI2 := Lib.hid hi2
  have HM := Lib.hid hm
  clear F hr hr2 hi hi2 hm
  rcases h with ⟨rfl, rfl⟩ | ⟨h, rfl⟩
  all_goals
    go_enter Tryz.func120, Tryz.ntmps120
    go_wp2_with (first | (go_at_call 134; refine (HC.out _).mono ?_; rintro e w1 ⟨rfl, hb⟩; (refine mem hb ?_; intro N hN hz hc hf; (try simp at hN); subst hN)) | (go_at_call 131; (first | (with_reducible refine (HR.out _).mono ?_) | (with_reducible refine (HR2.out _).mono ?_)); rintro e w2 ⟨rfl, rfl⟩) | (go_at_call 132; (first | (with_reducible refine (HI.out _).mono ?_) | (with_reducible refine (HI2.out _).mono ?_)); rintro e w2 ⟨rfl, rfl⟩) | (go_at_call 133; refine (HM.out _).mono ?_; rintro e w3 ⟨rfl, hb⟩; (refine mem hb ?_; intro N hN hz hc hf; (try simp at hN); subst hN)))
    ((try simp only [Exit.inBlock, Exit.then]); refine bodyPost_ret (by first | (simp [results, Tryz.results120, go_sem, *]; done) | (simp [results, Tryz.results120, go_sem, *]; rfl) | (simp [results, Tryz.results120, go_sem, ↓IntWalk.iteOmega, *]; try rfl)) rfl ?_)
    refine ⟨rfl, ?_⟩
    (repeat' (first | (with_reducible exact Below.refl _ _) | (with_reducible assumption) | (with_reducible refine Below.alloc ?_ ?_ _) | (with_reducible refine below_drewN ?_ _) | (with_reducible refine Below.drew ?_) | (with_reducible refine Below.setCell ?_ ?_ _) | (with_reducible refine below_via (by assumption) ?_ ?_) | (with_reducible refine below_via (later_below _) ?_ ?_) | (with_reducible exact Nat.le_refl _) | omega | (simp; omega) | (simp; done)))
end Go.Proofs.YtfclmnglckikbaaGreatDoor
