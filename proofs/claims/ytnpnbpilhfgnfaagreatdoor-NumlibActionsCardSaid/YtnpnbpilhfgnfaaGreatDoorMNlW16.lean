/- Numlib's places and digits where they fail: what each call returns. -/
import Derived.Test.YtnpnbpilhfgnfaaGreatDoorMNlW15
namespace Go.Proofs.YtnpnbpilhfgnfaaGreatDoor
open Go.RowKit Go.Instr
set_option linter.unusedVariables false

/-- The reason: out of range. -/
def oorS : ByteArray := ⟨#[111, 117, 116, 32, 111, 102, 32, 114, 97, 110, 103, 101]⟩
theorem up_4 {a b c d g k : Nat} (h8 : a + 2 ≤ b) (h7 : b + k ≤ c) (h6 : c ≤ d) (h9 : d ≤ g) : a + 2 ≤ g := by omega

set_option maxHeartbeats 3200000 in
set_option maxRecDepth 100000 in
theorem places_bad1 (word : ByteArray) (a : Option Addr) (n cap : Nat)  (m : ByteArray) (w : World) (hn : NumBad w word a n cap 1 m) :
    Calls Tryz.prog 29 #[.agg #[.string word, .slice a n cap]] w fun e w' => ActIs w.heap.size 2 1 3 0 0 m 0 e w' ∧ Below w.heap.size w w' := by
  have HN := Lib.hid hn
  clear hn
  have fr0 := fun i => frozen_out w (w.heap.size) i (by omega)
  have fr1 := fun i => frozen_out w (w.heap.size + 1) i (by omega)
  go_enter Tryz.func29, Tryz.ntmps29
  go_wp2_with (first | (go_at_call 56; refine (HN.out _ ?_).mono ?_; (focus ((repeat' (first | (with_reducible exact Below.refl _ _) | (with_reducible assumption) | (with_reducible refine Below.alloc ?_ ?_ _) | (with_reducible refine below_drewN ?_ _) | (with_reducible refine Below.drew ?_) | (with_reducible refine Below.setCell ?_ ?_ _) | (with_reducible refine below_via (by assumption) ?_ ?_) | (with_reducible refine below_via (later_below _) ?_ ?_) | (with_reducible exact Nat.le_refl _) | omega | (simp; omega) | (simp; done))))); rintro e w8 ⟨⟨g, cp, rfl, hg, hcl⟩, hb⟩; (refine mem hb ?_; intro N hN hz hc hf; (try simp at hN); subst hN)))
  ((try simp only [Exit.inBlock, Exit.then]); refine bodyPost_ret (by first | (simp [results, Tryz.results29, go_sem, *]; done) | (simp [results, Tryz.results29, go_sem, *]; rfl) | (simp [results, Tryz.results29, go_sem, ↓IntWalk.iteOmega, *]; try rfl)) rfl ?_)
  have hg3 : w.heap.size + 2 ≤ g := by simpa using hg
  obtain ⟨g1, g2⟩ := up2 hg3
  refine ⟨act_set2 (hK := rfl) (hL := rfl) g2 g1 (hcl.below ?_), ?_⟩
  · (repeat' (first | (with_reducible exact Below.refl _ _) | (with_reducible assumption) | (with_reducible refine Below.alloc ?_ ?_ _) | (with_reducible refine below_drewN ?_ _) | (with_reducible refine Below.drew ?_) | (with_reducible refine Below.setCell ?_ ?_ _) | (with_reducible refine below_via (by assumption) ?_ ?_) | (with_reducible refine below_via (later_below _) ?_ ?_) | (with_reducible exact Nat.le_refl _) | omega | (simp; omega) | (simp; done)))
  · (repeat' (first | (with_reducible exact Below.refl _ _) | (with_reducible assumption) | (with_reducible refine Below.alloc ?_ ?_ _) | (with_reducible refine below_drewN ?_ _) | (with_reducible refine Below.drew ?_) | (with_reducible refine Below.setCell ?_ ?_ _) | (with_reducible refine below_via (by assumption) ?_ ?_) | (with_reducible refine below_via (later_below _) ?_ ?_) | (with_reducible exact Nat.le_refl _) | omega | (simp; omega) | (simp; done)))

set_option maxHeartbeats 3200000 in
set_option maxRecDepth 100000 in
theorem places_bad2 (word : ByteArray) (a : Option Addr) (n cap : Nat) (P Q : Int) (m : ByteArray) (w : World) (hn : NumOk w word a n cap 1 P Q) (hi : IntBad w word a n cap 2 0 true m) :
    Calls Tryz.prog 29 #[.agg #[.string word, .slice a n cap]] w fun e w' => ActIs w.heap.size 2 1 3 0 0 m 0 e w' ∧ Below w.heap.size w w' := by
  have HN := Lib.hid hn
  have HI := Lib.hid hi
  clear hn hi
  have fr0 := fun i => frozen_out w (w.heap.size) i (by omega)
  have fr1 := fun i => frozen_out w (w.heap.size + 1) i (by omega)
  go_enter Tryz.func29, Tryz.ntmps29
  go_wp2_with (first | (go_at_call 56; refine (HN.out _ ?_).mono ?_; (focus ((repeat' (first | (with_reducible exact Below.refl _ _) | (with_reducible assumption) | (with_reducible refine Below.alloc ?_ ?_ _) | (with_reducible refine below_drewN ?_ _) | (with_reducible refine Below.drew ?_) | (with_reducible refine Below.setCell ?_ ?_ _) | (with_reducible refine below_via (by assumption) ?_ ?_) | (with_reducible refine below_via (later_below _) ?_ ?_) | (with_reducible exact Nat.le_refl _) | omega | (simp; omega) | (simp; done))))); rintro e w8 ⟨rfl, hb⟩; (refine mem hb ?_; intro N hN hz hc hf; (try simp at hN); subst hN)) | (go_at_call 58; (refine (HI.out _ ?_).mono ?_); (focus ((repeat' (first | (with_reducible exact Below.refl _ _) | (with_reducible assumption) | (with_reducible refine Below.alloc ?_ ?_ _) | (with_reducible refine below_drewN ?_ _) | (with_reducible refine Below.drew ?_) | (with_reducible refine Below.setCell ?_ ?_ _) | (with_reducible refine below_via (by assumption) ?_ ?_) | (with_reducible refine below_via (later_below _) ?_ ?_) | (with_reducible exact Nat.le_refl _) | omega | (simp; omega) | (simp; done))))); rintro e w7 ⟨⟨g, cp, rfl, hg, hcl⟩, hb⟩; (refine mem hb ?_; intro N hN hz hc hf; (try simp at hN); subst hN)))
  ((try simp only [Exit.inBlock, Exit.then]); refine bodyPost_ret (by first | (simp [results, Tryz.results29, go_sem, *]; done) | (simp [results, Tryz.results29, go_sem, *]; rfl) | (simp [results, Tryz.results29, go_sem, ↓IntWalk.iteOmega, *]; try rfl)) rfl ?_)
  have hg3 : w.heap.size + 2 ≤ g := by
    have h8 : w.heap.size + 2 ≤ w8.heap.size := by assumption
    have h9 : w8.heap.size + 2 ≤ g := by simpa using hg
    exact Nat.le_trans h8 (Nat.le_trans (Nat.le_add_right _ _) h9)
  have g4 : w8.heap.size + 1 ≠ g := by
    have h9 : w8.heap.size + 1 + 1 ≤ g := by simpa using hg
    exact Nat.ne_of_lt h9
  obtain ⟨g1, g2⟩ := up2 hg3
  refine ⟨act_set2 (hK := rfl) (hL := rfl) g2 g1 ?_, ?_⟩
  · repeat (with_reducible refine Cells5.set (by exact g4) ?_)
    first | exact hcl | (refine hcl.below ?_; (repeat' (first | (with_reducible exact Below.refl _ _) | (with_reducible assumption) | (with_reducible refine Below.alloc ?_ ?_ _) | (with_reducible refine below_drewN ?_ _) | (with_reducible refine Below.drew ?_) | (with_reducible refine Below.setCell ?_ ?_ _) | (with_reducible refine below_via (by assumption) ?_ ?_) | (with_reducible refine below_via (later_below _) ?_ ?_) | (with_reducible exact Nat.le_refl _) | omega | (simp; omega) | (simp; done))))
  · (repeat' (first | (with_reducible exact Below.refl _ _) | (with_reducible assumption) | (with_reducible refine Below.alloc ?_ ?_ _) | (with_reducible refine below_drewN ?_ _) | (with_reducible refine Below.drew ?_) | (with_reducible refine Below.setCell ?_ ?_ _) | (with_reducible refine below_via (by assumption) ?_ ?_) | (with_reducible refine below_via (later_below _) ?_ ?_) | (with_reducible exact Nat.le_refl _) | omega | (simp; omega) | (simp; done)))

set_option maxHeartbeats 3200000 in
set_option maxRecDepth 100000 in
theorem places_bad3 (word : ByteArray) (a : Option Addr) (n cap : Nat) (P Q N E : Int) (S : ByteArray) (m : ByteArray) (w : World) (hn : NumOk w word a n cap 1 P Q) (hi : IntOk w word a n cap 2 0 N true) (hf : ∀ w', Below w.heap.size w w' → Calls Tryz.prog 16 #[.agg #[.int .i64 P, .int .i64 Q], .int .i64 N] w' fun e w'' => e = .returned (.tuple #[.string S, .int .i64 E]) ∧ Below w'.heap.size w' w'') (hE : ¬ E = 0) (hb : BadSays w word a n cap 2 oorS m) :
    Calls Tryz.prog 29 #[.agg #[.string word, .slice a n cap]] w fun e w' => ActIs w.heap.size 2 1 3 0 0 m 0 e w' ∧ Below w.heap.size w w' := by
  have HN := Lib.hid hn
  have HI := Lib.hid hi
  have HF := Lib.hid hf
  have hE2 : (E != 0) = true := by simpa using hE
  have HB := Lib.hid hb
  clear hn hi hf hE hb
  have fr0 := fun i => frozen_out w (w.heap.size) i (by omega)
  have fr1 := fun i => frozen_out w (w.heap.size + 1) i (by omega)
  go_enter Tryz.func29, Tryz.ntmps29
  go_wp2_with (first | (go_at_call 56; refine (HN.out _ ?_).mono ?_; (focus ((repeat' (first | (with_reducible exact Below.refl _ _) | (with_reducible assumption) | (with_reducible refine Below.alloc ?_ ?_ _) | (with_reducible refine below_drewN ?_ _) | (with_reducible refine Below.drew ?_) | (with_reducible refine Below.setCell ?_ ?_ _) | (with_reducible refine below_via (by assumption) ?_ ?_) | (with_reducible refine below_via (later_below _) ?_ ?_) | (with_reducible exact Nat.le_refl _) | omega | (simp; omega) | (simp; done))))); rintro e w8 ⟨rfl, hb⟩; (refine mem hb ?_; intro N hN hz hc hf; (try simp at hN); subst hN)) | (go_at_call 58; (with_reducible refine (HI.out _ ?_).mono ?_); (focus ((repeat' (first | (with_reducible exact Below.refl _ _) | (with_reducible assumption) | (with_reducible refine Below.alloc ?_ ?_ _) | (with_reducible refine below_drewN ?_ _) | (with_reducible refine Below.drew ?_) | (with_reducible refine Below.setCell ?_ ?_ _) | (with_reducible refine below_via (by assumption) ?_ ?_) | (with_reducible refine below_via (later_below _) ?_ ?_) | (with_reducible exact Nat.le_refl _) | omega | (simp; omega) | (simp; done))))); rintro e w7 ⟨rfl, hb⟩; (refine mem hb ?_; intro N hN hz hc hf; (try simp at hN); subst hN)) | (go_at_call 16; refine (HF.out _ ?_).mono ?_; (focus ((repeat' (first | (with_reducible exact Below.refl _ _) | (with_reducible assumption) | (with_reducible refine Below.alloc ?_ ?_ _) | (with_reducible refine below_drewN ?_ _) | (with_reducible refine Below.drew ?_) | (with_reducible refine Below.setCell ?_ ?_ _) | (with_reducible refine below_via (by assumption) ?_ ?_) | (with_reducible refine below_via (later_below _) ?_ ?_) | (with_reducible exact Nat.le_refl _) | omega | (simp; omega) | (simp; done))))); rintro e w6 ⟨rfl, hb⟩; (refine mem hb ?_; intro N hN hz hc hf; (try simp at hN); subst hN)) | (go_at_call 59; refine (HB.out _ ?_).mono ?_; (focus ((repeat' (first | (with_reducible exact Below.refl _ _) | (with_reducible assumption) | (with_reducible refine Below.alloc ?_ ?_ _) | (with_reducible refine below_drewN ?_ _) | (with_reducible refine Below.drew ?_) | (with_reducible refine Below.setCell ?_ ?_ _) | (with_reducible refine below_via (by assumption) ?_ ?_) | (with_reducible refine below_via (later_below _) ?_ ?_) | (with_reducible exact Nat.le_refl _) | omega | (simp; omega) | (simp; done))))); rintro e w9 ⟨⟨g, cp, rfl, hg, hcl⟩, hb⟩; (refine mem hb ?_; intro N hN hz hc hf; (try simp at hN); subst hN)))
  ((try simp only [Exit.inBlock, Exit.then]); refine bodyPost_ret (by first | (simp [results, Tryz.results29, go_sem, *]; done) | (simp [results, Tryz.results29, go_sem, *]; rfl) | (simp [results, Tryz.results29, go_sem, ↓IntWalk.iteOmega, *]; try rfl)) rfl ?_)
  have hg3 : w.heap.size + 2 ≤ g := by
    have h8 : w.heap.size + 2 ≤ w8.heap.size := by assumption
    have h7 : w8.heap.size + 2 ≤ w7.heap.size := by assumption
    have h6 : w7.heap.size ≤ w6.heap.size := by assumption
    have h9 : w6.heap.size ≤ g := by simpa using hg
    exact up_4 h8 h7 h6 h9
  obtain ⟨g1, g2⟩ := up2 hg3
  refine ⟨act_set2 (hK := rfl) (hL := rfl) g2 g1 (hcl.below ?_), ?_⟩
  · (repeat' (first | (with_reducible exact Below.refl _ _) | (with_reducible assumption) | (with_reducible refine Below.alloc ?_ ?_ _) | (with_reducible refine below_drewN ?_ _) | (with_reducible refine Below.drew ?_) | (with_reducible refine Below.setCell ?_ ?_ _) | (with_reducible refine below_via (by assumption) ?_ ?_) | (with_reducible refine below_via (later_below _) ?_ ?_) | (with_reducible exact Nat.le_refl _) | omega | (simp; omega) | (simp; done)))
  · (repeat' (first | (with_reducible exact Below.refl _ _) | (with_reducible assumption) | (with_reducible refine Below.alloc ?_ ?_ _) | (with_reducible refine below_drewN ?_ _) | (with_reducible refine Below.drew ?_) | (with_reducible refine Below.setCell ?_ ?_ _) | (with_reducible refine below_via (by assumption) ?_ ?_) | (with_reducible refine below_via (later_below _) ?_ ?_) | (with_reducible exact Nat.le_refl _) | omega | (simp; omega) | (simp; done)))

set_option maxHeartbeats 3200000 in
set_option maxRecDepth 100000 in
theorem digits_bad1 (word : ByteArray) (a : Option Addr) (n cap : Nat)  (m : ByteArray) (w : World) (hn : IntBad w word a n cap 1 0 false m) :
    Calls Tryz.prog 30 #[.agg #[.string word, .slice a n cap]] w fun e w' => ActIs w.heap.size 2 1 3 0 0 m 0 e w' ∧ Below w.heap.size w w' := by
  have HN := Lib.hid hn
  clear hn
  have fr0 := fun i => frozen_out w (w.heap.size) i (by omega)
  have fr1 := fun i => frozen_out w (w.heap.size + 1) i (by omega)
  go_enter Tryz.func30, Tryz.ntmps30
  go_wp2_with (first | (go_at_call 58; refine (HN.out _ ?_).mono ?_; (focus ((repeat' (first | (with_reducible exact Below.refl _ _) | (with_reducible assumption) | (with_reducible refine Below.alloc ?_ ?_ _) | (with_reducible refine below_drewN ?_ _) | (with_reducible refine Below.drew ?_) | (with_reducible refine Below.setCell ?_ ?_ _) | (with_reducible refine below_via (by assumption) ?_ ?_) | (with_reducible refine below_via (later_below _) ?_ ?_) | (with_reducible exact Nat.le_refl _) | omega | (simp; omega) | (simp; done))))); rintro e w8 ⟨⟨g, cp, rfl, hg, hcl⟩, hb⟩; (refine mem hb ?_; intro N hN hz hc hf; (try simp at hN); subst hN)))
  ((try simp only [Exit.inBlock, Exit.then]); refine bodyPost_ret (by first | (simp [results, Tryz.results30, go_sem, *]; done) | (simp [results, Tryz.results30, go_sem, *]; rfl) | (simp [results, Tryz.results30, go_sem, ↓IntWalk.iteOmega, *]; try rfl)) rfl ?_)
  have hg3 : w.heap.size + 2 ≤ g := by simpa using hg
  obtain ⟨g1, g2⟩ := up2 hg3
  refine ⟨act_set2 (hK := rfl) (hL := rfl) g2 g1 (hcl.below ?_), ?_⟩
  · (repeat' (first | (with_reducible exact Below.refl _ _) | (with_reducible assumption) | (with_reducible refine Below.alloc ?_ ?_ _) | (with_reducible refine below_drewN ?_ _) | (with_reducible refine Below.drew ?_) | (with_reducible refine Below.setCell ?_ ?_ _) | (with_reducible refine below_via (by assumption) ?_ ?_) | (with_reducible refine below_via (later_below _) ?_ ?_) | (with_reducible exact Nat.le_refl _) | omega | (simp; omega) | (simp; done)))
  · (repeat' (first | (with_reducible exact Below.refl _ _) | (with_reducible assumption) | (with_reducible refine Below.alloc ?_ ?_ _) | (with_reducible refine below_drewN ?_ _) | (with_reducible refine Below.drew ?_) | (with_reducible refine Below.setCell ?_ ?_ _) | (with_reducible refine below_via (by assumption) ?_ ?_) | (with_reducible refine below_via (later_below _) ?_ ?_) | (with_reducible exact Nat.le_refl _) | omega | (simp; omega) | (simp; done)))

set_option maxHeartbeats 3200000 in
set_option maxRecDepth 100000 in
theorem digits_bad2 (word : ByteArray) (a : Option Addr) (n cap : Nat) (P : Int) (m : ByteArray) (w : World) (hn : IntOk w word a n cap 1 0 P false) (hi : IntBad w word a n cap 2 10 true m) :
    Calls Tryz.prog 30 #[.agg #[.string word, .slice a n cap]] w fun e w' => ActIs w.heap.size 2 1 3 0 0 m 0 e w' ∧ Below w.heap.size w w' := by
  have HN := Lib.hid hn
  have HI := Lib.hid hi
  clear hn hi
  have fr0 := fun i => frozen_out w (w.heap.size) i (by omega)
  have fr1 := fun i => frozen_out w (w.heap.size + 1) i (by omega)
  go_enter Tryz.func30, Tryz.ntmps30
  go_wp2_with (first | (go_at_call 58; (with_reducible refine (HN.out _ ?_).mono ?_); (focus ((repeat' (first | (with_reducible exact Below.refl _ _) | (with_reducible assumption) | (with_reducible refine Below.alloc ?_ ?_ _) | (with_reducible refine below_drewN ?_ _) | (with_reducible refine Below.drew ?_) | (with_reducible refine Below.setCell ?_ ?_ _) | (with_reducible refine below_via (by assumption) ?_ ?_) | (with_reducible refine below_via (later_below _) ?_ ?_) | (with_reducible exact Nat.le_refl _) | omega | (simp; omega) | (simp; done))))); rintro e w8 ⟨rfl, hb⟩; (refine mem hb ?_; intro N hN hz hc hf; (try simp at hN); subst hN)) | (go_at_call 58; (with_reducible refine (HI.out _ ?_).mono ?_); (focus ((repeat' (first | (with_reducible exact Below.refl _ _) | (with_reducible assumption) | (with_reducible refine Below.alloc ?_ ?_ _) | (with_reducible refine below_drewN ?_ _) | (with_reducible refine Below.drew ?_) | (with_reducible refine Below.setCell ?_ ?_ _) | (with_reducible refine below_via (by assumption) ?_ ?_) | (with_reducible refine below_via (later_below _) ?_ ?_) | (with_reducible exact Nat.le_refl _) | omega | (simp; omega) | (simp; done))))); rintro e w7 ⟨⟨g, cp, rfl, hg, hcl⟩, hb⟩; (refine mem hb ?_; intro N hN hz hc hf; (try simp at hN); subst hN)))
  ((try simp only [Exit.inBlock, Exit.then]); refine bodyPost_ret (by first | (simp [results, Tryz.results30, go_sem, *]; done) | (simp [results, Tryz.results30, go_sem, *]; rfl) | (simp [results, Tryz.results30, go_sem, ↓IntWalk.iteOmega, *]; try rfl)) rfl ?_)
  have hg3 : w.heap.size + 2 ≤ g := by
    have h8 : w.heap.size + 2 ≤ w8.heap.size := by assumption
    have h9 : w8.heap.size + 1 ≤ g := by simpa using hg
    exact Nat.le_trans h8 (Nat.le_trans (Nat.le_add_right _ _) h9)
  have g4 : w8.heap.size ≠ g := by
    have h9 : w8.heap.size + 1 ≤ g := by simpa using hg
    exact Nat.ne_of_lt h9
  obtain ⟨g1, g2⟩ := up2 hg3
  refine ⟨act_set2 (hK := rfl) (hL := rfl) g2 g1 ?_, ?_⟩
  · repeat (with_reducible refine Cells5.set (by exact g4) ?_)
    first | exact hcl | (refine hcl.below ?_; (repeat' (first | (with_reducible exact Below.refl _ _) | (with_reducible assumption) | (with_reducible refine Below.alloc ?_ ?_ _) | (with_reducible refine below_drewN ?_ _) | (with_reducible refine Below.drew ?_) | (with_reducible refine Below.setCell ?_ ?_ _) | (with_reducible refine below_via (by assumption) ?_ ?_) | (with_reducible refine below_via (later_below _) ?_ ?_) | (with_reducible exact Nat.le_refl _) | omega | (simp; omega) | (simp; done))))
  · (repeat' (first | (with_reducible exact Below.refl _ _) | (with_reducible assumption) | (with_reducible refine Below.alloc ?_ ?_ _) | (with_reducible refine below_drewN ?_ _) | (with_reducible refine Below.drew ?_) | (with_reducible refine Below.setCell ?_ ?_ _) | (with_reducible refine below_via (by assumption) ?_ ?_) | (with_reducible refine below_via (later_below _) ?_ ?_) | (with_reducible exact Nat.le_refl _) | omega | (simp; omega) | (simp; done)))

set_option maxHeartbeats 3200000 in
set_option maxRecDepth 100000 in
theorem digits_bad3 (word : ByteArray) (a : Option Addr) (n cap : Nat) (P N E : Int) (S : ByteArray) (m : ByteArray) (w : World) (hn : IntOk w word a n cap 1 0 P false) (hi : IntOk w word a n cap 2 10 N true) (hf : ∀ w', Below w.heap.size w w' → Calls Tryz.prog 19 #[.int .i64 P, .int .i64 N] w' fun e w'' => e = .returned (.tuple #[.string S, .int .i64 E]) ∧ Below w'.heap.size w' w'') (hE : ¬ E = 0) (hb : BadSays w word a n cap 2 oorS m) :
    Calls Tryz.prog 30 #[.agg #[.string word, .slice a n cap]] w fun e w' => ActIs w.heap.size 2 1 3 0 0 m 0 e w' ∧ Below w.heap.size w w' := by
  have HN := Lib.hid hn
  have HI := Lib.hid hi
  have HF := Lib.hid hf
  have hE2 : (E != 0) = true := by simpa using hE
  have HB := Lib.hid hb
  clear hn hi hf hE hb
  have fr0 := fun i => frozen_out w (w.heap.size) i (by omega)
  have fr1 := fun i => frozen_out w (w.heap.size + 1) i (by omega)
  go_enter Tryz.func30, Tryz.ntmps30
  go_wp2_with (first | (go_at_call 58; (with_reducible refine (HN.out _ ?_).mono ?_); (focus ((repeat' (first | (with_reducible exact Below.refl _ _) | (with_reducible assumption) | (with_reducible refine Below.alloc ?_ ?_ _) | (with_reducible refine below_drewN ?_ _) | (with_reducible refine Below.drew ?_) | (with_reducible refine Below.setCell ?_ ?_ _) | (with_reducible refine below_via (by assumption) ?_ ?_) | (with_reducible refine below_via (later_below _) ?_ ?_) | (with_reducible exact Nat.le_refl _) | omega | (simp; omega) | (simp; done))))); rintro e w8 ⟨rfl, hb⟩; (refine mem hb ?_; intro N hN hz hc hf; (try simp at hN); subst hN)) | (go_at_call 58; (with_reducible refine (HI.out _ ?_).mono ?_); (focus ((repeat' (first | (with_reducible exact Below.refl _ _) | (with_reducible assumption) | (with_reducible refine Below.alloc ?_ ?_ _) | (with_reducible refine below_drewN ?_ _) | (with_reducible refine Below.drew ?_) | (with_reducible refine Below.setCell ?_ ?_ _) | (with_reducible refine below_via (by assumption) ?_ ?_) | (with_reducible refine below_via (later_below _) ?_ ?_) | (with_reducible exact Nat.le_refl _) | omega | (simp; omega) | (simp; done))))); rintro e w7 ⟨rfl, hb⟩; (refine mem hb ?_; intro N hN hz hc hf; (try simp at hN); subst hN)) | (go_at_call 19; refine (HF.out _ ?_).mono ?_; (focus ((repeat' (first | (with_reducible exact Below.refl _ _) | (with_reducible assumption) | (with_reducible refine Below.alloc ?_ ?_ _) | (with_reducible refine below_drewN ?_ _) | (with_reducible refine Below.drew ?_) | (with_reducible refine Below.setCell ?_ ?_ _) | (with_reducible refine below_via (by assumption) ?_ ?_) | (with_reducible refine below_via (later_below _) ?_ ?_) | (with_reducible exact Nat.le_refl _) | omega | (simp; omega) | (simp; done))))); rintro e w6 ⟨rfl, hb⟩; (refine mem hb ?_; intro N hN hz hc hf; (try simp at hN); subst hN)) | (go_at_call 59; refine (HB.out _ ?_).mono ?_; (focus ((repeat' (first | (with_reducible exact Below.refl _ _) | (with_reducible assumption) | (with_reducible refine Below.alloc ?_ ?_ _) | (with_reducible refine below_drewN ?_ _) | (with_reducible refine Below.drew ?_) | (with_reducible refine Below.setCell ?_ ?_ _) | (with_reducible refine below_via (by assumption) ?_ ?_) | (with_reducible refine below_via (later_below _) ?_ ?_) | (with_reducible exact Nat.le_refl _) | omega | (simp; omega) | (simp; done))))); rintro e w9 ⟨⟨g, cp, rfl, hg, hcl⟩, hb⟩; (refine mem hb ?_; intro N hN hz hc hf; (try simp at hN); subst hN)))
  ((try simp only [Exit.inBlock, Exit.then]); refine bodyPost_ret (by first | (simp [results, Tryz.results30, go_sem, *]; done) | (simp [results, Tryz.results30, go_sem, *]; rfl) | (simp [results, Tryz.results30, go_sem, ↓IntWalk.iteOmega, *]; try rfl)) rfl ?_)
  have hg3 : w.heap.size + 2 ≤ g := by
    have h8 : w.heap.size + 2 ≤ w8.heap.size := by assumption
    have h7 : w8.heap.size + 1 ≤ w7.heap.size := by assumption
    have h6 : w7.heap.size ≤ w6.heap.size := by assumption
    have h9 : w6.heap.size ≤ g := by simpa using hg
    exact up_4 h8 h7 h6 h9
  obtain ⟨g1, g2⟩ := up2 hg3
  refine ⟨act_set2 (hK := rfl) (hL := rfl) g2 g1 (hcl.below ?_), ?_⟩
  · (repeat' (first | (with_reducible exact Below.refl _ _) | (with_reducible assumption) | (with_reducible refine Below.alloc ?_ ?_ _) | (with_reducible refine below_drewN ?_ _) | (with_reducible refine Below.drew ?_) | (with_reducible refine Below.setCell ?_ ?_ _) | (with_reducible refine below_via (by assumption) ?_ ?_) | (with_reducible refine below_via (later_below _) ?_ ?_) | (with_reducible exact Nat.le_refl _) | omega | (simp; omega) | (simp; done)))
  · (repeat' (first | (with_reducible exact Below.refl _ _) | (with_reducible assumption) | (with_reducible refine Below.alloc ?_ ?_ _) | (with_reducible refine below_drewN ?_ _) | (with_reducible refine Below.drew ?_) | (with_reducible refine Below.setCell ?_ ?_ _) | (with_reducible refine below_via (by assumption) ?_ ?_) | (with_reducible refine below_via (later_below _) ?_ ?_) | (with_reducible exact Nat.le_refl _) | omega | (simp; omega) | (simp; done)))

end Go.Proofs.YtnpnbpilhfgnfaaGreatDoor
