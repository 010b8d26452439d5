/- Numlib's integer where it fails: what each call returns. -/
import Derived.Test.YtfclmnglckikbaaGreatDoorMNlE
import Derived.RegionTactic
namespace Go.Proofs.YtfclmnglckikbaaGreatDoor
open Go.RowKit Go.Instr
set_option linter.unusedVariables false

theorem Cells5.drew {w : World} {g : Nat} {k p q : Int} {s : ByteArray} {r : Int} (h : Cells5 w g k p q s r) : Cells5 w.drew g k p q s r := h
abbrev IntBad (W : World) (word : ByteArray) (a : Option Addr) (n cap : Nat) (i std : Int) (opt : Bool) (m : ByteArray) : Prop := ∀ w, Below W.heap.size W w → Calls Tryz.prog 61 #[.agg #[.string word, .slice a n cap], .int .i64 i, .int .i64 std, .bool opt] w fun e w' => (∃ g cp : Nat, e = .returned (.tuple #[.int .i64 0, actV 2 g cp 1, .bool false]) ∧ w.heap.size ≤ g ∧ Cells5 w' g 3 0 0 m 0) ∧ Below w.heap.size w w'
abbrev BadSays (W : World) (word : ByteArray) (a : Option Addr) (n cap : Nat) (i : Int) (reason m : ByteArray) : Prop := ∀ w, Below W.heap.size W w → Calls Tryz.prog 62 #[.agg #[.string word, .slice a n cap], .int .i64 i, .string reason] w fun e w' => ActIs w.heap.size 2 1 3 0 0 m 0 e w' ∧ Below w.heap.size w w'

set_option maxHeartbeats 3200000 in
set_option maxRecDepth 100000 in
theorem int_badnum_false (word : ByteArray) (a : Option Addr) (n cap : Nat) (i std : Int) (m : ByteArray) (w : World) (h0 : -9223372036854775807 ≤ i) (h1 : i ≤ 9223372036854775807) (hn : NumBad w word a n cap i m) :
    Calls Tryz.prog 61 #[.agg #[.string word, .slice a n cap], .int .i64 i, .int .i64 std, .bool false] w fun e w' => (∃ g cp : Nat, e = .returned (.tuple #[.int .i64 0, actV 2 g cp 1, .bool false]) ∧ w.heap.size ≤ g ∧ Cells5 w' g 3 0 0 m 0) ∧ Below w.heap.size w w' := by
  have HN := Lib.hid hn
  clear hn
  have fr0 := fun i => frozen_out w (w.heap.size) i (by omega)
  have fr1 := fun i => frozen_out w (w.heap.size + 1) i (by omega)
  go_enter Tryz.func61, Tryz.ntmps61
  go_wp2_with (first | (go_at_call 59; refine (HN.out _ ?_).mono ?_; (focus ((repeat' (first | (with_reducible exact Below.refl _ _) | (with_reducible assumption) | (with_reducible refine Below.alloc ?_ ?_ _) | (with_reducible refine below_drewN ?_ _) | (with_reducible refine Below.drew ?_) | (with_reducible refine Below.setCell ?_ ?_ _) | (with_reducible refine below_via (by assumption) ?_ ?_) | (with_reducible refine below_via (later_below _) ?_ ?_) | (with_reducible exact Nat.le_refl _) | omega | (simp; omega) | (simp; done))))); rintro e w9 ⟨⟨g, cp, rfl, hg, hcl⟩, hb⟩; (refine mem hb ?_; intro N hN hz hc hf; (try simp at hN); subst hN)))
  have hne1 : ¬ w.heap.size = w9.heap.size := by omega
  have hne2 : ¬ w.heap.size + 1 = w9.heap.size := by omega
  go_region
  all_goals
    go_wp2_with fail
    ((try simp only [Exit.inBlock, Exit.then]); refine bodyPost_ret (by first | (simp [results, Tryz.results61, go_sem, *]; done) | (simp [results, Tryz.results61, go_sem, *]; rfl) | (simp [results, Tryz.results61, go_sem, ↓IntWalk.iteOmega, *]; try rfl)) rfl ?_)
    have hg3 : w.heap.size + 2 ≤ g := by simpa using hg
    obtain ⟨g1, g2⟩ := up2 hg3
    refine ⟨⟨g, cp, rfl, g1, ?_⟩, ?_⟩
    · repeat (first | (with_reducible refine Cells5.drew ?_) | (with_reducible refine Cells5.set (by exact g2) ?_))
      refine hcl.below ?_
      (repeat' (first | (with_reducible exact Below.refl _ _) | (with_reducible assumption) | (with_reducible refine Below.alloc ?_ ?_ _) | (with_reducible refine below_drewN ?_ _) | (with_reducible refine Below.drew ?_) | (with_reducible refine Below.setCell ?_ ?_ _) | (with_reducible refine below_via (by assumption) ?_ ?_) | (with_reducible refine below_via (later_below _) ?_ ?_) | (with_reducible exact Nat.le_refl _) | omega | (simp; omega) | (simp; done)))
    · (repeat' (first | (with_reducible exact Below.refl _ _) | (with_reducible assumption) | (with_reducible refine Below.alloc ?_ ?_ _) | (with_reducible refine below_drewN ?_ _) | (with_reducible refine Below.drew ?_) | (with_reducible refine Below.setCell ?_ ?_ _) | (with_reducible refine below_via (by assumption) ?_ ?_) | (with_reducible refine below_via (later_below _) ?_ ?_) | (with_reducible exact Nat.le_refl _) | omega | (simp; omega) | (simp; done)))

set_option maxHeartbeats 3200000 in
set_option maxRecDepth 100000 in
theorem int_badnum_true (word : ByteArray) (a : Option Addr) (n cap : Nat) (i std k p q r : Int) (s m : ByteArray) (w : World) (h0 : -9223372036854775807 ≤ i) (h1 : i ≤ 9223372036854775807) (ha : ArgSays w a n cap (i - 1) k p q s r) (hk : ¬ k = 0) (hn : NumBad w word a n cap i m) :
    Calls Tryz.prog 61 #[.agg #[.string word, .slice a n cap], .int .i64 i, .int .i64 std, .bool true] w fun e w' => (∃ g cp : Nat, e = .returned (.tuple #[.int .i64 0, actV 2 g cp 1, .bool false]) ∧ w.heap.size ≤ g ∧ Cells5 w' g 3 0 0 m 0) ∧ Below w.heap.size w w' := by
  have HN := Lib.hid hn
  have HA := Lib.hid ha
  have hfd := fun w' => field_kind k p q s r w'
  have hk2 : (k == 0) = false := by simpa using hk
  clear hn ha hk
  have fr0 := fun i => frozen_out w (w.heap.size) i (by omega)
  have fr1 := fun i => frozen_out w (w.heap.size + 1) i (by omega)
  go_enter Tryz.func61, Tryz.ntmps61
  go_wp2_with (first | (go_at_call 59; refine (HN.out _ ?_).mono ?_; (focus ((repeat' (first | (with_reducible exact Below.refl _ _) | (with_reducible assumption) | (with_reducible refine Below.alloc ?_ ?_ _) | (with_reducible refine below_drewN ?_ _) | (with_reducible refine Below.drew ?_) | (with_reducible refine Below.setCell ?_ ?_ _) | (with_reducible refine below_via (by assumption) ?_ ?_) | (with_reducible refine below_via (later_below _) ?_ ?_) | (with_reducible exact Nat.le_refl _) | omega | (simp; omega) | (simp; done))))); rintro e w9 ⟨⟨g, cp, rfl, hg, hcl⟩, hb⟩; (refine mem hb ?_; intro N hN hz hc hf; (try simp at hN); subst hN)) | (go_at_call 65; refine (HA.out _ ?_).mono ?_; (focus ((repeat' (first | (with_reducible exact Below.refl _ _) | (with_reducible assumption) | (with_reducible refine Below.alloc ?_ ?_ _) | (with_reducible refine below_drewN ?_ _) | (with_reducible refine Below.drew ?_) | (with_reducible refine Below.setCell ?_ ?_ _) | (with_reducible refine below_via (by assumption) ?_ ?_) | (with_reducible refine below_via (later_below _) ?_ ?_) | (with_reducible exact Nat.le_refl _) | omega | (simp; omega) | (simp; done))))); rintro e w8 ⟨rfl, hb⟩; (refine mem hb ?_; intro N hN hz hc hf; (try simp at hN); subst hN)))
  have hne1 : ¬ w.heap.size = w9.heap.size := by omega
  have hne2 : ¬ w.heap.size + 1 = w9.heap.size := by omega
  go_region
  all_goals
    go_wp2_with fail
    ((try simp only [Exit.inBlock, Exit.then]); refine bodyPost_ret (by first | (simp [results, Tryz.results61, go_sem, *]; done) | (simp [results, Tryz.results61, go_sem, *]; rfl) | (simp [results, Tryz.results61, go_sem, ↓IntWalk.iteOmega, *]; try rfl)) rfl ?_)
    have hg3 : w.heap.size + 2 ≤ g := by
      have h8 : w.heap.size + 2 ≤ w8.heap.size := by assumption
      have h9 : w8.heap.size ≤ g := by simpa using hg
      exact Nat.le_trans h8 h9
    obtain ⟨g1, g2⟩ := up2 hg3
    refine ⟨⟨g, cp, rfl, g1, ?_⟩, ?_⟩
    · repeat (first | (with_reducible refine Cells5.drew ?_) | (with_reducible refine Cells5.set (by exact g2) ?_))
      refine hcl.below ?_
      (repeat' (first | (with_reducible exact Below.refl _ _) | (with_reducible assumption) | (with_reducible refine Below.alloc ?_ ?_ _) | (with_reducible refine below_drewN ?_ _) | (with_reducible refine Below.drew ?_) | (with_reducible refine Below.setCell ?_ ?_ _) | (with_reducible refine below_via (by assumption) ?_ ?_) | (with_reducible refine below_via (later_below _) ?_ ?_) | (with_reducible exact Nat.le_refl _) | omega | (simp; omega) | (simp; done)))
    · (repeat' (first | (with_reducible exact Below.refl _ _) | (with_reducible assumption) | (with_reducible refine Below.alloc ?_ ?_ _) | (with_reducible refine below_drewN ?_ _) | (with_reducible refine Below.drew ?_) | (with_reducible refine Below.setCell ?_ ?_ _) | (with_reducible refine below_via (by assumption) ?_ ?_) | (with_reducible refine below_via (later_below _) ?_ ?_) | (with_reducible exact Nat.le_refl _) | omega | (simp; omega) | (simp; done)))

/-- The reason: an integer. -/
def intS : ByteArray := ⟨#[105, 110, 116, 101, 103, 101, 114, 32, 101, 120, 112, 101, 99, 116, 101, 100]⟩
set_option maxHeartbeats 3200000 in
set_option maxRecDepth 100000 in
theorem int_badwhole_false (word : ByteArray) (a : Option Addr) (n cap : Nat) (i std P Q : Int) (m : ByteArray) (w : World) (h0 : -9223372036854775807 ≤ i) (h1 : i ≤ 9223372036854775807) (hp : -9223372036854775808 ≤ P) (hp' : P ≤ 9223372036854775807) (hv : wholeB P Q = false) (hn : NumOk w word a n cap i P Q) (hb : BadSays w word a n cap i intS m) :
    Calls Tryz.prog 61 #[.agg #[.string word, .slice a n cap], .int .i64 i, .int .i64 std, .bool false] w fun e w' => (∃ g cp : Nat, e = .returned (.tuple #[.int .i64 0, actV 2 g cp 1, .bool false]) ∧ w.heap.size ≤ g ∧ Cells5 w' g 3 0 0 m 0) ∧ Below w.heap.size w w' := by
  have HW : Hid (∀ w', Calls Tryz.prog 89 #[.agg #[.int .i64 P, .int .i64 Q]] w' fun e w'' => e = .returned (.tuple #[.int .i64 0, .bool false]) ∧ Below w'.heap.size w' w'') := fun w' => by have h := whole_any P Q w' hp hp'; unfold wholeV at h; rw [hv, if_neg (by simp)] at h; exact h
  have HN := Lib.hid hn
  have HB := Lib.hid hb
  clear hn hv hb
  have fr0 := fun i => frozen_out w (w.heap.size) i (by omega)
  have fr1 := fun i => frozen_out w (w.heap.size + 1) i (by omega)
  go_enter Tryz.func61, Tryz.ntmps61
  go_wp2_with (first | (go_at_call 59; refine (HN.out _ ?_).mono ?_; (focus ((repeat' (first | (with_reducible exact Below.refl _ _) | (with_reducible assumption) | (with_reducible refine Below.alloc ?_ ?_ _) | (with_reducible refine below_drewN ?_ _) | (with_reducible refine Below.drew ?_) | (with_reducible refine Below.setCell ?_ ?_ _) | (with_reducible refine below_via (by assumption) ?_ ?_) | (with_reducible refine below_via (later_below _) ?_ ?_) | (with_reducible exact Nat.le_refl _) | omega | (simp; omega) | (simp; done))))); rintro e w9 ⟨rfl, hb⟩; (refine mem hb ?_; intro N hN hz hc hf; (try simp at hN); subst hN)) | (go_at_call 89; refine (HW.out _).mono ?_; rintro e w7 ⟨rfl, hb⟩; (refine mem hb ?_; intro N hN hz hc hf; (try simp at hN); subst hN)) | (go_at_call 62; refine (HB.out _ ?_).mono ?_; (focus ((repeat' (first | (with_reducible exact Below.refl _ _) | (with_reducible assumption) | (with_reducible refine Below.alloc ?_ ?_ _) | (with_reducible refine below_drewN ?_ _) | (with_reducible refine Below.drew ?_) | (with_reducible refine Below.setCell ?_ ?_ _) | (with_reducible refine below_via (by assumption) ?_ ?_) | (with_reducible refine below_via (later_below _) ?_ ?_) | (with_reducible exact Nat.le_refl _) | omega | (simp; omega) | (simp; done))))); rintro e w6 ⟨⟨g, cp, rfl, hg, hcl⟩, hb⟩; (refine mem hb ?_; intro N hN hz hc hf; (try simp at hN); subst hN)))
  ((try simp only [Exit.inBlock, Exit.then]); refine bodyPost_ret (by first | (simp [results, Tryz.results61, go_sem, *]; done) | (simp [results, Tryz.results61, go_sem, *]; rfl) | (simp [results, Tryz.results61, go_sem, ↓IntWalk.iteOmega, *]; try rfl)) rfl ?_)
  have hg3 : w.heap.size + 2 ≤ g := by
    have h9 : w.heap.size + 2 ≤ w9.heap.size := by assumption
    have h7 : w9.heap.size + 2 ≤ w7.heap.size := by assumption
    have h6 : w7.heap.size ≤ g := by simpa using hg
    exact up_220 h9 h7 h6
  obtain ⟨g1, g2⟩ := up2 hg3
  refine ⟨⟨g, cp, rfl, g1, ?_⟩, ?_⟩
  · repeat (first | (with_reducible refine Cells5.drew ?_) | (with_reducible refine Cells5.set (by exact g2) ?_))
    exact hcl
  · (repeat' (first | (with_reducible exact Below.refl _ _) | (with_reducible assumption) | (with_reducible refine Below.alloc ?_ ?_ _) | (with_reducible refine below_drewN ?_ _) | (with_reducible refine Below.drew ?_) | (with_reducible refine Below.setCell ?_ ?_ _) | (with_reducible refine below_via (by assumption) ?_ ?_) | (with_reducible refine below_via (later_below _) ?_ ?_) | (with_reducible exact Nat.le_refl _) | omega | (simp; omega) | (simp; done)))
set_option maxHeartbeats 3200000 in
set_option maxRecDepth 100000 in
theorem int_badwhole_true (word : ByteArray) (a : Option Addr) (n cap : Nat) (i std P Q k p q r : Int) (s m : ByteArray) (w : World) (h0 : -9223372036854775807 ≤ i) (h1 : i ≤ 9223372036854775807) (ha : ArgSays w a n cap (i - 1) k p q s r) (hk : ¬ k = 0) (hp : -9223372036854775808 ≤ P) (hp' : P ≤ 9223372036854775807) (hv : wholeB P Q = false) (hn : NumOk w word a n cap i P Q) (hb : BadSays w word a n cap i intS m) :
    Calls Tryz.prog 61 #[.agg #[.string word, .slice a n cap], .int .i64 i, .int .i64 std, .bool true] w fun e w' => (∃ g cp : Nat, e = .returned (.tuple #[.int .i64 0, actV 2 g cp 1, .bool false]) ∧ w.heap.size ≤ g ∧ Cells5 w' g 3 0 0 m 0) ∧ Below w.heap.size w w' := by
  have HW : Hid (∀ w', Calls Tryz.prog 89 #[.agg #[.int .i64 P, .int .i64 Q]] w' fun e w'' => e = .returned (.tuple #[.int .i64 0, .bool false]) ∧ Below w'.heap.size w' w'') := fun w' => by have h := whole_any P Q w' hp hp'; unfold wholeV at h; rw [hv, if_neg (by simp)] at h; exact h
  have HN := Lib.hid hn
  have HB := Lib.hid hb
  have HA := Lib.hid ha
  have hfd := fun w' => field_kind k p q s r w'
  have hk2 : (k == 0) = false := by simpa using hk
  clear hn hv hb ha hk
  have fr0 := fun i => frozen_out w (w.heap.size) i (by omega)
  have fr1 := fun i => frozen_out w (w.heap.size + 1) i (by omega)
  go_enter Tryz.func61, Tryz.ntmps61
  go_wp2_with (first | (go_at_call 59; refine (HN.out _ ?_).mono ?_; (focus ((repeat' (first | (with_reducible exact Below.refl _ _) | (with_reducible assumption) | (with_reducible refine Below.alloc ?_ ?_ _) | (with_reducible refine below_drewN ?_ _) | (with_reducible refine Below.drew ?_) | (with_reducible refine Below.setCell ?_ ?_ _) | (with_reducible refine below_via (by assumption) ?_ ?_) | (with_reducible refine below_via (later_below _) ?_ ?_) | (with_reducible exact Nat.le_refl _) | omega | (simp; omega) | (simp; done))))); rintro e w9 ⟨rfl, hb⟩; (refine mem hb ?_; intro N hN hz hc hf; (try simp at hN); subst hN)) | (go_at_call 89; refine (HW.out _).mono ?_; rintro e w7 ⟨rfl, hb⟩; (refine mem hb ?_; intro N hN hz hc hf; (try simp at hN); subst hN)) | (go_at_call 65; refine (HA.out _ ?_).mono ?_; (focus ((repeat' (first | (with_reducible exact Below.refl _ _) | (with_reducible assumption) | (with_reducible refine Below.alloc ?_ ?_ _) | (with_reducible refine below_drewN ?_ _) | (with_reducible refine Below.drew ?_) | (with_reducible refine Below.setCell ?_ ?_ _) | (with_reducible refine below_via (by assumption) ?_ ?_) | (with_reducible refine below_via (later_below _) ?_ ?_) | (with_reducible exact Nat.le_refl _) | omega | (simp; omega) | (simp; done))))); rintro e w8 ⟨rfl, hb⟩; (refine mem hb ?_; intro N hN hz hc hf; (try simp at hN); subst hN)) | (go_at_call 62; refine (HB.out _ ?_).mono ?_; (focus ((repeat' (first | (with_reducible exact Below.refl _ _) | (with_reducible assumption) | (with_reducible refine Below.alloc ?_ ?_ _) | (with_reducible refine below_drewN ?_ _) | (with_reducible refine Below.drew ?_) | (with_reducible refine Below.setCell ?_ ?_ _) | (with_reducible refine below_via (by assumption) ?_ ?_) | (with_reducible refine below_via (later_below _) ?_ ?_) | (with_reducible exact Nat.le_refl _) | omega | (simp; omega) | (simp; done))))); rintro e w6 ⟨⟨g, cp, rfl, hg, hcl⟩, hb⟩; (refine mem hb ?_; intro N hN hz hc hf; (try simp at hN); subst hN)))
  ((try simp only [Exit.inBlock, Exit.then]); refine bodyPost_ret (by first | (simp [results, Tryz.results61, go_sem, *]; done) | (simp [results, Tryz.results61, go_sem, *]; rfl) | (simp [results, Tryz.results61, go_sem, ↓IntWalk.iteOmega, *]; try rfl)) rfl ?_)
  have hg3 : w.heap.size + 2 ≤ g := by
    have h8 : w.heap.size + 2 ≤ w8.heap.size := by assumption
    have h9 : w8.heap.size ≤ w9.heap.size := by assumption
    have h7 : w9.heap.size + 2 ≤ w7.heap.size := by assumption
    have h6 : w7.heap.size ≤ g := by simpa using hg
    exact up_220 (Nat.le_trans h8 h9) h7 h6
  obtain ⟨g1, g2⟩ := up2 hg3
  refine ⟨⟨g, cp, rfl, g1, ?_⟩, ?_⟩
  · repeat (first | (with_reducible refine Cells5.drew ?_) | (with_reducible refine Cells5.set (by exact g2) ?_))
    exact hcl
  · (repeat' (first | (with_reducible exact Below.refl _ _) | (with_reducible assumption) | (with_reducible refine Below.alloc ?_ ?_ _) | (with_reducible refine below_drewN ?_ _) | (with_reducible refine Below.drew ?_) | (with_reducible refine Below.setCell ?_ ?_ _) | (with_reducible refine below_via (by assumption) ?_ ?_) | (with_reducible refine below_via (later_below _) ?_ ?_) | (with_reducible exact Nat.le_refl _) | omega | (simp; omega) | (simp; done)))
end Go.Proofs.YtfclmnglckikbaaGreatDoor

/- Numlib's places and digits where they fail: what each call returns. -/
namespace Go.Proofs.YtfclmnglckikbaaGreatDoor
open Go.RowKit Go.Instr
set_option linter.unusedVariables false

/-- The reason: out of range. -/
def oorS : ByteArray := ⟨#[111, 117, 116, 32, 111, 102, 32, 114, 97, 110, 103, 101]⟩
theorem up_4 {a b c d g k : Nat} (h8 : a + 2 ≤ b) (h7 : b + k ≤ c) (h6 : c ≤ d) (h9 : d ≤ g) : a + 2 ≤ g := by omega

set_option maxHeartbeats 3200000 in
set_option maxRecDepth 100000 in
theorem places_bad1 (word : ByteArray) (a : Option Addr) (n cap : Nat)  (m : ByteArray) (w : World) (hn : NumBad w word a n cap 1 m) :
    Calls Tryz.prog 33 #[.agg #[.string word, .slice a n cap]] w fun e w' => ActIs w.heap.size 2 1 3 0 0 m 0 e w' ∧ Below w.heap.size w w' := by
  have HN := Lib.hid hn
  clear hn
  have fr0 := fun i => frozen_out w (w.heap.size) i (by omega)
  have fr1 := fun i => frozen_out w (w.heap.size + 1) i (by omega)
  go_enter Tryz.func33, Tryz.ntmps33
  go_wp2_with (first | (go_at_call 59; refine (HN.out _ ?_).mono ?_; (focus ((repeat' (first | (with_reducible exact Below.refl _ _) | (with_reducible assumption) | (with_reducible refine Below.alloc ?_ ?_ _) | (with_reducible refine below_drewN ?_ _) | (with_reducible refine Below.drew ?_) | (with_reducible refine Below.setCell ?_ ?_ _) | (with_reducible refine below_via (by assumption) ?_ ?_) | (with_reducible refine below_via (later_below _) ?_ ?_) | (with_reducible exact Nat.le_refl _) | omega | (simp; omega) | (simp; done))))); rintro e w8 ⟨⟨g, cp, rfl, hg, hcl⟩, hb⟩; (refine mem hb ?_; intro N hN hz hc hf; (try simp at hN); subst hN)))
  ((try simp only [Exit.inBlock, Exit.then]); refine bodyPost_ret (by first | (simp [results, Tryz.results33, go_sem, *]; done) | (simp [results, Tryz.results33, go_sem, *]; rfl) | (simp [results, Tryz.results33, go_sem, ↓IntWalk.iteOmega, *]; try rfl)) rfl ?_)
  have hg3 : w.heap.size + 2 ≤ g := by simpa using hg
  obtain ⟨g1, g2⟩ := up2 hg3
  refine ⟨act_set2 (hK := rfl) (hL := rfl) g2 g1 (hcl.below ?_), ?_⟩
  · (repeat' (first | (with_reducible exact Below.refl _ _) | (with_reducible assumption) | (with_reducible refine Below.alloc ?_ ?_ _) | (with_reducible refine below_drewN ?_ _) | (with_reducible refine Below.drew ?_) | (with_reducible refine Below.setCell ?_ ?_ _) | (with_reducible refine below_via (by assumption) ?_ ?_) | (with_reducible refine below_via (later_below _) ?_ ?_) | (with_reducible exact Nat.le_refl _) | omega | (simp; omega) | (simp; done)))
  · (repeat' (first | (with_reducible exact Below.refl _ _) | (with_reducible assumption) | (with_reducible refine Below.alloc ?_ ?_ _) | (with_reducible refine below_drewN ?_ _) | (with_reducible refine Below.drew ?_) | (with_reducible refine Below.setCell ?_ ?_ _) | (with_reducible refine below_via (by assumption) ?_ ?_) | (with_reducible refine below_via (later_below _) ?_ ?_) | (with_reducible exact Nat.le_refl _) | omega | (simp; omega) | (simp; done)))

set_option maxHeartbeats 3200000 in
set_option maxRecDepth 100000 in
theorem places_bad2 (word : ByteArray) (a : Option Addr) (n cap : Nat) (P Q : Int) (m : ByteArray) (w : World) (hn : NumOk w word a n cap 1 P Q) (hi : IntBad w word a n cap 2 0 true m) :
    Calls Tryz.prog 33 #[.agg #[.string word, .slice a n cap]] w fun e w' => ActIs w.heap.size 2 1 3 0 0 m 0 e w' ∧ Below w.heap.size w w' := by
  have HN := Lib.hid hn
  have HI := Lib.hid hi
  clear hn hi
  have fr0 := fun i => frozen_out w (w.heap.size) i (by omega)
  have fr1 := fun i => frozen_out w (w.heap.size + 1) i (by omega)
  go_enter Tryz.func33, Tryz.ntmps33
  go_wp2_with (first | (go_at_call 59; refine (HN.out _ ?_).mono ?_; (focus ((repeat' (first | (with_reducible exact Below.refl _ _) | (with_reducible assumption) | (with_reducible refine Below.alloc ?_ ?_ _) | (with_reducible refine below_drewN ?_ _) | (with_reducible refine Below.drew ?_) | (with_reducible refine Below.setCell ?_ ?_ _) | (with_reducible refine below_via (by assumption) ?_ ?_) | (with_reducible refine below_via (later_below _) ?_ ?_) | (with_reducible exact Nat.le_refl _) | omega | (simp; omega) | (simp; done))))); rintro e w8 ⟨rfl, hb⟩; (refine mem hb ?_; intro N hN hz hc hf; (try simp at hN); subst hN)) | (go_at_call 61; (refine (HI.out _ ?_).mono ?_); (focus ((repeat' (first | (with_reducible exact Below.refl _ _) | (with_reducible assumption) | (with_reducible refine Below.alloc ?_ ?_ _) | (with_reducible refine below_drewN ?_ _) | (with_reducible refine Below.drew ?_) | (with_reducible refine Below.setCell ?_ ?_ _) | (with_reducible refine below_via (by assumption) ?_ ?_) | (with_reducible refine below_via (later_below _) ?_ ?_) | (with_reducible exact Nat.le_refl _) | omega | (simp; omega) | (simp; done))))); rintro e w7 ⟨⟨g, cp, rfl, hg, hcl⟩, hb⟩; (refine mem hb ?_; intro N hN hz hc hf; (try simp at hN); subst hN)))
  ((try simp only [Exit.inBlock, Exit.then]); refine bodyPost_ret (by first | (simp [results, Tryz.results33, go_sem, *]; done) | (simp [results, Tryz.results33, go_sem, *]; rfl) | (simp [results, Tryz.results33, go_sem, ↓IntWalk.iteOmega, *]; try rfl)) rfl ?_)
  have hg3 : w.heap.size + 2 ≤ g := by
    have h8 : w.heap.size + 2 ≤ w8.heap.size := by assumption
    have h9 : w8.heap.size + 2 ≤ g := by simpa using hg
    exact Nat.le_trans h8 (Nat.le_trans (Nat.le_add_right _ _) h9)
  have g4 : w8.heap.size + 1 ≠ g := by
    have h9 : w8.heap.size + 1 + 1 ≤ g := by simpa using hg
    exact Nat.ne_of_lt h9
  obtain ⟨g1, g2⟩ := up2 hg3
  refine ⟨act_set2 (hK := rfl) (hL := rfl) g2 g1 ?_, ?_⟩
  · repeat (with_reducible refine Cells5.set (by exact g4) ?_)
    first | exact hcl | (refine hcl.below ?_; (repeat' (first | (with_reducible exact Below.refl _ _) | (with_reducible assumption) | (with_reducible refine Below.alloc ?_ ?_ _) | (with_reducible refine below_drewN ?_ _) | (with_reducible refine Below.drew ?_) | (with_reducible refine Below.setCell ?_ ?_ _) | (with_reducible refine below_via (by assumption) ?_ ?_) | (with_reducible refine below_via (later_below _) ?_ ?_) | (with_reducible exact Nat.le_refl _) | omega | (simp; omega) | (simp; done))))
  · (repeat' (first | (with_reducible exact Below.refl _ _) | (with_reducible assumption) | (with_reducible refine Below.alloc ?_ ?_ _) | (with_reducible refine below_drewN ?_ _) | (with_reducible refine Below.drew ?_) | (with_reducible refine Below.setCell ?_ ?_ _) | (with_reducible refine below_via (by assumption) ?_ ?_) | (with_reducible refine below_via (later_below _) ?_ ?_) | (with_reducible exact Nat.le_refl _) | omega | (simp; omega) | (simp; done)))

set_option maxHeartbeats 3200000 in
set_option maxRecDepth 100000 in
theorem places_bad3 (word : ByteArray) (a : Option Addr) (n cap : Nat) (P Q N E : Int) (S : ByteArray) (m : ByteArray) (w : World) (hn : NumOk w word a n cap 1 P Q) (hi : IntOk w word a n cap 2 0 N true) (hf : ∀ w', Below w.heap.size w w' → Calls Tryz.prog 22 #[.agg #[.int .i64 P, .int .i64 Q], .int .i64 N] w' fun e w'' => e = .returned (.tuple #[.string S, .int .i64 E]) ∧ Below w'.heap.size w' w'') (hE : ¬ E = 0) (hb : BadSays w word a n cap 2 oorS m) :
    Calls Tryz.prog 33 #[.agg #[.string word, .slice a n cap]] w fun e w' => ActIs w.heap.size 2 1 3 0 0 m 0 e w' ∧ Below w.heap.size w w' := by
  have HN := Lib.hid hn
  have HI := Lib.hid hi
  have HF := Lib.hid hf
  have hE2 : (E != 0) = true := by simpa using hE
  have HB := Lib.hid hb
  clear hn hi hf hE hb
  have fr0 := fun i => frozen_out w (w.heap.size) i (by omega)
  have fr1 := fun i => frozen_out w (w.heap.size + 1) i (by omega)
  go_enter Tryz.func33, Tryz.ntmps33
  go_wp2_with (first | (go_at_call 59; refine (HN.out _ ?_).mono ?_; (focus ((repeat' (first | (with_reducible exact Below.refl _ _) | (with_reducible assumption) | (with_reducible refine Below.alloc ?_ ?_ _) | (with_reducible refine below_drewN ?_ _) | (with_reducible refine Below.drew ?_) | (with_reducible refine Below.setCell ?_ ?_ _) | (with_reducible refine below_via (by assumption) ?_ ?_) | (with_reducible refine below_via (later_below _) ?_ ?_) | (with_reducible exact Nat.le_refl _) | omega | (simp; omega) | (simp; done))))); rintro e w8 ⟨rfl, hb⟩; (refine mem hb ?_; intro N hN hz hc hf; (try simp at hN); subst hN)) | (go_at_call 61; (with_reducible refine (HI.out _ ?_).mono ?_); (focus ((repeat' (first | (with_reducible exact Below.refl _ _) | (with_reducible assumption) | (with_reducible refine Below.alloc ?_ ?_ _) | (with_reducible refine below_drewN ?_ _) | (with_reducible refine Below.drew ?_) | (with_reducible refine Below.setCell ?_ ?_ _) | (with_reducible refine below_via (by assumption) ?_ ?_) | (with_reducible refine below_via (later_below _) ?_ ?_) | (with_reducible exact Nat.le_refl _) | omega | (simp; omega) | (simp; done))))); rintro e w7 ⟨rfl, hb⟩; (refine mem hb ?_; intro N hN hz hc hf; (try simp at hN); subst hN)) | (go_at_call 22; refine (HF.out _ ?_).mono ?_; (focus ((repeat' (first | (with_reducible exact Below.refl _ _) | (with_reducible assumption) | (with_reducible refine Below.alloc ?_ ?_ _) | (with_reducible refine below_drewN ?_ _) | (with_reducible refine Below.drew ?_) | (with_reducible refine Below.setCell ?_ ?_ _) | (with_reducible refine below_via (by assumption) ?_ ?_) | (with_reducible refine below_via (later_below _) ?_ ?_) | (with_reducible exact Nat.le_refl _) | omega | (simp; omega) | (simp; done))))); rintro e w6 ⟨rfl, hb⟩; (refine mem hb ?_; intro N hN hz hc hf; (try simp at hN); subst hN)) | (go_at_call 62; refine (HB.out _ ?_).mono ?_; (focus ((repeat' (first | (with_reducible exact Below.refl _ _) | (with_reducible assumption) | (with_reducible refine Below.alloc ?_ ?_ _) | (with_reducible refine below_drewN ?_ _) | (with_reducible refine Below.drew ?_) | (with_reducible refine Below.setCell ?_ ?_ _) | (with_reducible refine below_via (by assumption) ?_ ?_) | (with_reducible refine below_via (later_below _) ?_ ?_) | (with_reducible exact Nat.le_refl _) | omega | (simp; omega) | (simp; done))))); rintro e w9 ⟨⟨g, cp, rfl, hg, hcl⟩, hb⟩; (refine mem hb ?_; intro N hN hz hc hf; (try simp at hN); subst hN)))
  ((try simp only [Exit.inBlock, Exit.then]); refine bodyPost_ret (by first | (simp [results, Tryz.results33, go_sem, *]; done) | (simp [results, Tryz.results33, go_sem, *]; rfl) | (simp [results, Tryz.results33, go_sem, ↓IntWalk.iteOmega, *]; try rfl)) rfl ?_)
  have hg3 : w.heap.size + 2 ≤ g := by
    have h8 : w.heap.size + 2 ≤ w8.heap.size := by assumption
    have h7 : w8.heap.size + 2 ≤ w7.heap.size := by assumption
    have h6 : w7.heap.size ≤ w6.heap.size := by assumption
    have h9 : w6.heap.size ≤ g := by simpa using hg
    exact up_4 h8 h7 h6 h9
  obtain ⟨g1, g2⟩ := up2 hg3
  refine ⟨act_set2 (hK := rfl) (hL := rfl) g2 g1 (hcl.below ?_), ?_⟩
  · (repeat' (first | (with_reducible exact Below.refl _ _) | (with_reducible assumption) | (with_reducible refine Below.alloc ?_ ?_ _) | (with_reducible refine below_drewN ?_ _) | (with_reducible refine Below.drew ?_) | (with_reducible refine Below.setCell ?_ ?_ _) | (with_reducible refine below_via (by assumption) ?_ ?_) | (with_reducible refine below_via (later_below _) ?_ ?_) | (with_reducible exact Nat.le_refl _) | omega | (simp; omega) | (simp; done)))
  · (repeat' (first | (with_reducible exact Below.refl _ _) | (with_reducible assumption) | (with_reducible refine Below.alloc ?_ ?_ _) | (with_reducible refine below_drewN ?_ _) | (with_reducible refine Below.drew ?_) | (with_reducible refine Below.setCell ?_ ?_ _) | (with_reducible refine below_via (by assumption) ?_ ?_) | (with_reducible refine below_via (later_below _) ?_ ?_) | (with_reducible exact Nat.le_refl _) | omega | (simp; omega) | (simp; done)))

set_option maxHeartbeats 3200000 in
set_option maxRecDepth 100000 in
theorem digits_bad1 (word : ByteArray) (a : Option Addr) (n cap : Nat)  (m : ByteArray) (w : World) (hn : IntBad w word a n cap 1 0 false m) :
    Calls Tryz.prog 34 #[.agg #[.string word, .slice a n cap]] w fun e w' => ActIs w.heap.size 2 1 3 0 0 m 0 e w' ∧ Below w.heap.size w w' := by
  have HN := Lib.hid hn
  clear hn
  have fr0 := fun i => frozen_out w (w.heap.size) i (by omega)
  have fr1 := fun i => frozen_out w (w.heap.size + 1) i (by omega)
  go_enter Tryz.func34, Tryz.ntmps34
  go_wp2_with (first | (go_at_call 61; refine (HN.out _ ?_).mono ?_; (focus ((repeat' (first | (with_reducible exact Below.refl _ _) | (with_reducible assumption) | (with_reducible refine Below.alloc ?_ ?_ _) | (with_reducible refine below_drewN ?_ _) | (with_reducible refine Below.drew ?_) | (with_reducible refine Below.setCell ?_ ?_ _) | (with_reducible refine below_via (by assumption) ?_ ?_) | (with_reducible refine below_via (later_below _) ?_ ?_) | (with_reducible exact Nat.le_refl _) | omega | (simp; omega) | (simp; done))))); rintro e w8 ⟨⟨g, cp, rfl, hg, hcl⟩, hb⟩; (refine mem hb ?_; intro N hN hz hc hf; (try simp at hN); subst hN)))
  ((try simp only [Exit.inBlock, Exit.then]); refine bodyPost_ret (by first | (simp [results, Tryz.results34, go_sem, *]; done) | (simp [results, Tryz.results34, go_sem, *]; rfl) | (simp [results, Tryz.results34, go_sem, ↓IntWalk.iteOmega, *]; try rfl)) rfl ?_)
  have hg3 : w.heap.size + 2 ≤ g := by simpa using hg
  obtain ⟨g1, g2⟩ := up2 hg3
  refine ⟨act_set2 (hK := rfl) (hL := rfl) g2 g1 (hcl.below ?_), ?_⟩
  · (repeat' (first | (with_reducible exact Below.refl _ _) | (with_reducible assumption) | (with_reducible refine Below.alloc ?_ ?_ _) | (with_reducible refine below_drewN ?_ _) | (with_reducible refine Below.drew ?_) | (with_reducible refine Below.setCell ?_ ?_ _) | (with_reducible refine below_via (by assumption) ?_ ?_) | (with_reducible refine below_via (later_below _) ?_ ?_) | (with_reducible exact Nat.le_refl _) | omega | (simp; omega) | (simp; done)))
  · (repeat' (first | (with_reducible exact Below.refl _ _) | (with_reducible assumption) | (with_reducible refine Below.alloc ?_ ?_ _) | (with_reducible refine below_drewN ?_ _) | (with_reducible refine Below.drew ?_) | (with_reducible refine Below.setCell ?_ ?_ _) | (with_reducible refine below_via (by assumption) ?_ ?_) | (with_reducible refine below_via (later_below _) ?_ ?_) | (with_reducible exact Nat.le_refl _) | omega | (simp; omega) | (simp; done)))

set_option maxHeartbeats 3200000 in
set_option maxRecDepth 100000 in
theorem digits_bad2 (word : ByteArray) (a : Option Addr) (n cap : Nat) (P : Int) (m : ByteArray) (w : World) (hn : IntOk w word a n cap 1 0 P false) (hi : IntBad w word a n cap 2 10 true m) :
    Calls Tryz.prog 34 #[.agg #[.string word, .slice a n cap]] w fun e w' => ActIs w.heap.size 2 1 3 0 0 m 0 e w' ∧ Below w.heap.size w w' := by
  have HN := Lib.hid hn
  have HI := Lib.hid hi
  clear hn hi
  have fr0 := fun i => frozen_out w (w.heap.size) i (by omega)
  have fr1 := fun i => frozen_out w (w.heap.size + 1) i (by omega)
  go_enter Tryz.func34, Tryz.ntmps34
  go_wp2_with (first | (go_at_call 61; (with_reducible refine (HN.out _ ?_).mono ?_); (focus ((repeat' (first | (with_reducible exact Below.refl _ _) | (with_reducible assumption) | (with_reducible refine Below.alloc ?_ ?_ _) | (with_reducible refine below_drewN ?_ _) | (with_reducible refine Below.drew ?_) | (with_reducible refine Below.setCell ?_ ?_ _) | (with_reducible refine below_via (by assumption) ?_ ?_) | (with_reducible refine below_via (later_below _) ?_ ?_) | (with_reducible exact Nat.le_refl _) | omega | (simp; omega) | (simp; done))))); rintro e w8 ⟨rfl, hb⟩; (refine mem hb ?_; intro N hN hz hc hf; (try simp at hN); subst hN)) | (go_at_call 61; (with_reducible refine (HI.out _ ?_).mono ?_); (focus ((repeat' (first | (with_reducible exact Below.refl _ _) | (with_reducible assumption) | (with_reducible refine Below.alloc ?_ ?_ _) | (with_reducible refine below_drewN ?_ _) | (with_reducible refine Below.drew ?_) | (with_reducible refine Below.setCell ?_ ?_ _) | (with_reducible refine below_via (by assumption) ?_ ?_) | (with_reducible refine below_via (later_below _) ?_ ?_) | (with_reducible exact Nat.le_refl _) | omega | (simp; omega) | (simp; done))))); rintro e w7 ⟨⟨g, cp, rfl, hg, hcl⟩, hb⟩; (refine mem hb ?_; intro N hN hz hc hf; (try simp at hN); subst hN)))
  ((try simp only [Exit.inBlock, Exit.then]); refine bodyPost_ret (by first | (simp [results, Tryz.results34, go_sem, *]; done) | (simp [results, Tryz.results34, go_sem, *]; rfl) | (simp [results, Tryz.results34, go_sem, ↓IntWalk.iteOmega, *]; try rfl)) rfl ?_)
  have hg3 : w.heap.size + 2 ≤ g := by
    have h8 : w.heap.size + 2 ≤ w8.heap.size := by assumption
    have h9 : w8.heap.size + 1 ≤ g := by simpa using hg
    exact Nat.le_trans h8 (Nat.le_trans (Nat.le_add_right _ _) h9)
  have g4 : w8.heap.size ≠ g := by
    have h9 : w8.heap.size + 1 ≤ g := by simpa using hg
    exact Nat.ne_of_lt h9
  obtain ⟨g1, g2⟩ := up2 hg3
  refine ⟨act_set2 (hK := rfl) (hL := rfl) g2 g1 ?_, ?_⟩
  · repeat (with_reducible refine Cells5.set (by exact g4) ?_)
    first | exact hcl | (refine hcl.below ?_; (repeat' (first | (with_reducible exact Below.refl _ _) | (with_reducible assumption) | (with_reducible refine Below.alloc ?_ ?_ _) | (with_reducible refine below_drewN ?_ _) | (with_reducible refine Below.drew ?_) | (with_reducible refine Below.setCell ?_ ?_ _) | (with_reducible refine below_via (by assumption) ?_ ?_) | (with_reducible refine below_via (later_below _) ?_ ?_) | (with_reducible exact Nat.le_refl _) | omega | (simp; omega) | (simp; done))))
  · (repeat' (first | (with_reducible exact Below.refl _ _) | (with_reducible assumption) | (with_reducible refine Below.alloc ?_ ?_ _) | (with_reducible refine below_drewN ?_ _) | (with_reducible refine Below.drew ?_) | (with_reducible refine Below.setCell ?_ ?_ _) | (with_reducible refine below_via (by assumption) ?_ ?_) | (with_reducible refine below_via (later_below _) ?_ ?_) | (with_reducible exact Nat.le_refl _) | omega | (simp; omega) | (simp; done)))

set_option maxHeartbeats 3200000 in
set_option maxRecDepth 100000 in
theorem digits_bad3 (word : ByteArray) (a : Option Addr) (n cap : Nat) (P N E : Int) (S : ByteArray) (m : ByteArray) (w : World) (hn : IntOk w word a n cap 1 0 P false) (hi : IntOk w word a n cap 2 10 N true) (hf : ∀ w', Below w.heap.size w w' → Calls Tryz.prog 24 #[.int .i64 P, .int .i64 N] w' fun e w'' => e = .returned (.tuple #[.string S, .int .i64 E]) ∧ Below w'.heap.size w' w'') (hE : ¬ E = 0) (hb : BadSays w word a n cap 2 oorS m) :
    Calls Tryz.prog 34 #[.agg #[.string word, .slice a n cap]] w fun e w' => ActIs w.heap.size 2 1 3 0 0 m 0 e w' ∧ Below w.heap.size w w' := by
  have HN := Lib.hid hn
  have HI := Lib.hid hi
  have HF := Lib.hid hf
  have hE2 : (E != 0) = true := by simpa using hE
  have HB := Lib.hid hb
  clear hn hi hf hE hb
  have fr0 := fun i => frozen_out w (w.heap.size) i (by omega)
  have fr1 := fun i => frozen_out w (w.heap.size + 1) i (by omega)
  go_enter Tryz.func34, Tryz.ntmps34
  go_wp2_with (first | (go_at_call 61; (with_reducible refine (HN.out _ ?_).mono ?_); (focus ((repeat' (first | (with_reducible exact Below.refl _ _) | (with_reducible assumption) | (with_reducible refine Below.alloc ?_ ?_ _) | (with_reducible refine below_drewN ?_ _) | (with_reducible refine Below.drew ?_) | (with_reducible refine Below.setCell ?_ ?_ _) | (with_reducible refine below_via (by assumption) ?_ ?_) | (with_reducible refine below_via (later_below _) ?_ ?_) | (with_reducible exact Nat.le_refl _) | omega | (simp; omega) | (simp; done))))); rintro e w8 ⟨rfl, hb⟩; (refine mem hb ?_; intro N hN hz hc hf; (try simp at hN); subst hN)) | (go_at_call 61; (with_reducible refine (HI.out _ ?_).mono ?_); (focus ((repeat' (first | (with_reducible exact Below.refl _ _) | (with_reducible assumption) | (with_reducible refine Below.alloc ?_ ?_ _) | (with_reducible refine below_drewN ?_ _) | (with_reducible refine Below.drew ?_) | (with_reducible refine Below.setCell ?_ ?_ _) | (with_reducible refine below_via (by assumption) ?_ ?_) | (with_reducible refine below_via (later_below _) ?_ ?_) | (with_reducible exact Nat.le_refl _) | omega | (simp; omega) | (simp; done))))); rintro e w7 ⟨rfl, hb⟩; (refine mem hb ?_; intro N hN hz hc hf; (try simp at hN); subst hN)) | (go_at_call 24; refine (HF.out _ ?_).mono ?_; (focus ((repeat' (first | (with_reducible exact Below.refl _ _) | (with_reducible assumption) | (with_reducible refine Below.alloc ?_ ?_ _) | (with_reducible refine below_drewN ?_ _) | (with_reducible refine Below.drew ?_) | (with_reducible refine Below.setCell ?_ ?_ _) | (with_reducible refine below_via (by assumption) ?_ ?_) | (with_reducible refine below_via (later_below _) ?_ ?_) | (with_reducible exact Nat.le_refl _) | omega | (simp; omega) | (simp; done))))); rintro e w6 ⟨rfl, hb⟩; (refine mem hb ?_; intro N hN hz hc hf; (try simp at hN); subst hN)) | (go_at_call 62; refine (HB.out _ ?_).mono ?_; (focus ((repeat' (first | (with_reducible exact Below.refl _ _) | (with_reducible assumption) | (with_reducible refine Below.alloc ?_ ?_ _) | (with_reducible refine below_drewN ?_ _) | (with_reducible refine Below.drew ?_) | (with_reducible refine Below.setCell ?_ ?_ _) | (with_reducible refine below_via (by assumption) ?_ ?_) | (with_reducible refine below_via (later_below _) ?_ ?_) | (with_reducible exact Nat.le_refl _) | omega | (simp; omega) | (simp; done))))); rintro e w9 ⟨⟨g, cp, rfl, hg, hcl⟩, hb⟩; (refine mem hb ?_; intro N hN hz hc hf; (try simp at hN); subst hN)))
  ((try simp only [Exit.inBlock, Exit.then]); refine bodyPost_ret (by first | (simp [results, Tryz.results34, go_sem, *]; done) | (simp [results, Tryz.results34, go_sem, *]; rfl) | (simp [results, Tryz.results34, go_sem, ↓IntWalk.iteOmega, *]; try rfl)) rfl ?_)
  have hg3 : w.heap.size + 2 ≤ g := by
    have h8 : w.heap.size + 2 ≤ w8.heap.size := by assumption
    have h7 : w8.heap.size + 1 ≤ w7.heap.size := by assumption
    have h6 : w7.heap.size ≤ w6.heap.size := by assumption
    have h9 : w6.heap.size ≤ g := by simpa using hg
    exact up_4 h8 h7 h6 h9
  obtain ⟨g1, g2⟩ := up2 hg3
  refine ⟨act_set2 (hK := rfl) (hL := rfl) g2 g1 (hcl.below ?_), ?_⟩
  · (repeat' (first | (with_reducible exact Below.refl _ _) | (with_reducible assumption) | (with_reducible refine Below.alloc ?_ ?_ _) | (with_reducible refine below_drewN ?_ _) | (with_reducible refine Below.drew ?_) | (with_reducible refine Below.setCell ?_ ?_ _) | (with_reducible refine below_via (by assumption) ?_ ?_) | (with_reducible refine below_via (later_below _) ?_ ?_) | (with_reducible exact Nat.le_refl _) | omega | (simp; omega) | (simp; done)))
  · (repeat' (first | (with_reducible exact Below.refl _ _) | (with_reducible assumption) | (with_reducible refine Below.alloc ?_ ?_ _) | (with_reducible refine below_drewN ?_ _) | (with_reducible refine Below.drew ?_) | (with_reducible refine Below.setCell ?_ ?_ _) | (with_reducible refine below_via (by assumption) ?_ ?_) | (with_reducible refine below_via (later_below _) ?_ ?_) | (with_reducible exact Nat.le_refl _) | omega | (simp; omega) | (simp; done)))

end Go.Proofs.YtfclmnglckikbaaGreatDoor
