/- Numlib's integer: what each call returns. -/
import Derived.Test.YtfclmnglckikbaaGreatDoorMNlD
namespace Go.Proofs.YtfclmnglckikbaaGreatDoor
open Go.RowKit Go.Instr
set_option linter.unusedVariables false

theorem field_kind (k p q : Int) (s : ByteArray) (r : Int) (w : World) : (Instr.field 32 (vV k p q s r) 0).run Tryz.prog w = .ok (.int .i64 k) w := by kernel_rfl
set_option maxHeartbeats 3200000 in
set_option maxRecDepth 100000 in
theorem int_std (word : ByteArray) (a : Option Addr) (n cap : Nat) (i std p q : Int) (s : ByteArray) (r : Int) (w : World) (h0 : -9223372036854775807 ≤ i) (h1 : i ≤ 9223372036854775807) (ha : ArgSays w a n cap (i - 1) 0 p q s r) :
    Calls Tryz.prog 61 #[.agg #[.string word, .slice a n cap], .int .i64 i, .int .i64 std, .bool true] w fun e w' => e = .returned (.tuple #[.int .i64 std, act0, .bool true]) ∧ Below w.heap.size w w' := by
  have HA := Lib.hid ha
  clear ha
  have hfd := fun w' => field_kind 0 p q s r w'
  have fr0 := fun i => frozen_out w (w.heap.size) i (by omega)
  have fr1 := fun i => frozen_out w (w.heap.size + 1) i (by omega)
  go_enter Tryz.func61, Tryz.ntmps61
  go_wp2_with (first | (go_at_call 65; refine (HA.out _ ?_).mono ?_; (focus ((repeat' (first | (with_reducible exact Below.refl _ _) | (with_reducible assumption) | (with_reducible refine Below.alloc ?_ ?_ _) | (with_reducible refine below_drewN ?_ _) | (with_reducible refine Below.drew ?_) | (with_reducible refine Below.setCell ?_ ?_ _) | (with_reducible refine below_via (by assumption) ?_ ?_) | (with_reducible refine below_via (later_below _) ?_ ?_) | (with_reducible exact Nat.le_refl _) | omega | (simp; omega) | (simp; done))))); rintro e w8 ⟨rfl, hb⟩; (refine mem hb ?_; intro N hN hz hc hf; (try simp at hN); subst hN)))
  ((try simp only [Exit.inBlock, Exit.then]); refine bodyPost_ret (by first | (simp [results, Tryz.results61, go_sem, *]; done) | (simp [results, Tryz.results61, go_sem, *]; rfl) | (simp [results, Tryz.results61, go_sem, ↓IntWalk.iteOmega, *]; try rfl)) rfl ?_)
  refine ⟨rfl, ?_⟩
  (repeat' (first | (with_reducible exact Below.refl _ _) | (with_reducible assumption) | (with_reducible refine Below.alloc ?_ ?_ _) | (with_reducible refine below_drewN ?_ _) | (with_reducible refine Below.drew ?_) | (with_reducible refine Below.setCell ?_ ?_ _) | (with_reducible refine below_via (by assumption) ?_ ?_) | (with_reducible refine below_via (later_below _) ?_ ?_) | (with_reducible exact Nat.le_refl _) | omega | (simp; omega) | (simp; done)))

set_option maxHeartbeats 3200000 in
set_option maxRecDepth 100000 in
theorem int_ok_false (word : ByteArray) (a : Option Addr) (n cap : Nat) (i std P : Int) (w : World) (h0 : -9223372036854775807 ≤ i) (h1 : i ≤ 9223372036854775807) (hp : -9223372036854775808 ≤ P) (hp' : P ≤ 9223372036854775807) (hv : vldB P 1 = true) (hn : NumOk w word a n cap i P 1) :
    Calls Tryz.prog 61 #[.agg #[.string word, .slice a n cap], .int .i64 i, .int .i64 std, .bool false] w fun e w' => e = .returned (.tuple #[.int .i64 P, act0, .bool true]) ∧ Below w.heap.size w w' := by
  have hwb : wholeB P 1 = true := by unfold wholeB; rw [hv]; rfl
  have HW : Hid (∀ w', Calls Tryz.prog 89 #[.agg #[.int .i64 P, .int .i64 1]] w' fun e w'' => e = .returned (.tuple #[.int .i64 P, .bool true]) ∧ Below w'.heap.size w' w'') := fun w' => by have h := whole_any P 1 w' hp hp'; unfold wholeV at h; rw [hwb, if_pos rfl] at h; exact h
  have HN := Lib.hid hn
  clear hn hwb hv
  have fr0 := fun i => frozen_out w (w.heap.size) i (by omega)
  have fr1 := fun i => frozen_out w (w.heap.size + 1) i (by omega)
  go_enter Tryz.func61, Tryz.ntmps61
  go_wp2_with (first | (go_at_call 59; refine (HN.out _ ?_).mono ?_; (focus ((repeat' (first | (with_reducible exact Below.refl _ _) | (with_reducible assumption) | (with_reducible refine Below.alloc ?_ ?_ _) | (with_reducible refine below_drewN ?_ _) | (with_reducible refine Below.drew ?_) | (with_reducible refine Below.setCell ?_ ?_ _) | (with_reducible refine below_via (by assumption) ?_ ?_) | (with_reducible refine below_via (later_below _) ?_ ?_) | (with_reducible exact Nat.le_refl _) | omega | (simp; omega) | (simp; done))))); rintro e w9 ⟨rfl, hb⟩; (refine mem hb ?_; intro N hN hz hc hf; (try simp at hN); subst hN)) | (go_at_call 89; refine (HW.out _).mono ?_; rintro e w7 ⟨rfl, hb⟩; (refine mem hb ?_; intro N hN hz hc hf; (try simp at hN); subst hN)))
  ((try simp only [Exit.inBlock, Exit.then]); refine bodyPost_ret (by first | (simp [results, Tryz.results61, go_sem, *]; done) | (simp [results, Tryz.results61, go_sem, *]; rfl) | (simp [results, Tryz.results61, go_sem, ↓IntWalk.iteOmega, *]; try rfl)) rfl ?_)
  refine ⟨rfl, ?_⟩
  (repeat' (first | (with_reducible exact Below.refl _ _) | (with_reducible assumption) | (with_reducible refine Below.alloc ?_ ?_ _) | (with_reducible refine below_drewN ?_ _) | (with_reducible refine Below.drew ?_) | (with_reducible refine Below.setCell ?_ ?_ _) | (with_reducible refine below_via (by assumption) ?_ ?_) | (with_reducible refine below_via (later_below _) ?_ ?_) | (with_reducible exact Nat.le_refl _) | omega | (simp; omega) | (simp; done)))

set_option maxHeartbeats 3200000 in
set_option maxRecDepth 100000 in
theorem int_ok_true (word : ByteArray) (a : Option Addr) (n cap : Nat) (i std P k p q r : Int) (w : World) (h0 : -9223372036854775807 ≤ i) (h1 : i ≤ 9223372036854775807) (hp : -9223372036854775808 ≤ P) (hp' : P ≤ 9223372036854775807) (s : ByteArray) (ha : ArgSays w a n cap (i - 1) k p q s r) (hk : ¬ k = 0) (hv : vldB P 1 = true) (hn : NumOk w word a n cap i P 1) :
    Calls Tryz.prog 61 #[.agg #[.string word, .slice a n cap], .int .i64 i, .int .i64 std, .bool true] w fun e w' => e = .returned (.tuple #[.int .i64 P, act0, .bool true]) ∧ Below w.heap.size w w' := by
  have hwb : wholeB P 1 = true := by unfold wholeB; rw [hv]; rfl
  have HW : Hid (∀ w', Calls Tryz.prog 89 #[.agg #[.int .i64 P, .int .i64 1]] w' fun e w'' => e = .returned (.tuple #[.int .i64 P, .bool true]) ∧ Below w'.heap.size w' w'') := fun w' => by have h := whole_any P 1 w' hp hp'; unfold wholeV at h; rw [hwb, if_pos rfl] at h; exact h
  have HN := Lib.hid hn
  have HA := Lib.hid ha
  have hfd := fun w' => field_kind k p q s r w'
  have hk2 : (k == 0) = false := by simpa using hk
  clear ha hk
  clear hn hwb hv
  have fr0 := fun i => frozen_out w (w.heap.size) i (by omega)
  have fr1 := fun i => frozen_out w (w.heap.size + 1) i (by omega)
  go_enter Tryz.func61, Tryz.ntmps61
  go_wp2_with (first | (go_at_call 59; refine (HN.out _ ?_).mono ?_; (focus ((repeat' (first | (with_reducible exact Below.refl _ _) | (with_reducible assumption) | (with_reducible refine Below.alloc ?_ ?_ _) | (with_reducible refine below_drewN ?_ _) | (with_reducible refine Below.drew ?_) | (with_reducible refine Below.setCell ?_ ?_ _) | (with_reducible refine below_via (by assumption) ?_ ?_) | (with_reducible refine below_via (later_below _) ?_ ?_) | (with_reducible exact Nat.le_refl _) | omega | (simp; omega) | (simp; done))))); rintro e w9 ⟨rfl, hb⟩; (refine mem hb ?_; intro N hN hz hc hf; (try simp at hN); subst hN)) | (go_at_call 89; refine (HW.out _).mono ?_; rintro e w7 ⟨rfl, hb⟩; (refine mem hb ?_; intro N hN hz hc hf; (try simp at hN); subst hN)) | (go_at_call 65; refine (HA.out _ ?_).mono ?_; (focus ((repeat' (first | (with_reducible exact Below.refl _ _) | (with_reducible assumption) | (with_reducible refine Below.alloc ?_ ?_ _) | (with_reducible refine below_drewN ?_ _) | (with_reducible refine Below.drew ?_) | (with_reducible refine Below.setCell ?_ ?_ _) | (with_reducible refine below_via (by assumption) ?_ ?_) | (with_reducible refine below_via (later_below _) ?_ ?_) | (with_reducible exact Nat.le_refl _) | omega | (simp; omega) | (simp; done))))); rintro e w8 ⟨rfl, hb⟩; (refine mem hb ?_; intro N hN hz hc hf; (try simp at hN); subst hN)))
  ((try simp only [Exit.inBlock, Exit.then]); refine bodyPost_ret (by first | (simp [results, Tryz.results61, go_sem, *]; done) | (simp [results, Tryz.results61, go_sem, *]; rfl) | (simp [results, Tryz.results61, go_sem, ↓IntWalk.iteOmega, *]; try rfl)) rfl ?_)
  refine ⟨rfl, ?_⟩
  (repeat' (first | (with_reducible exact Below.refl _ _) | (with_reducible assumption) | (with_reducible refine Below.alloc ?_ ?_ _) | (with_reducible refine below_drewN ?_ _) | (with_reducible refine Below.drew ?_) | (with_reducible refine Below.setCell ?_ ?_ _) | (with_reducible refine below_via (by assumption) ?_ ?_) | (with_reducible refine below_via (later_below _) ?_ ?_) | (with_reducible exact Nat.le_refl _) | omega | (simp; omega) | (simp; done)))
end Go.Proofs.YtfclmnglckikbaaGreatDoor

/- Numlib's places and digits where they succeed: what each call returns. -/
namespace Go.Proofs.YtfclmnglckikbaaGreatDoor
open Go.RowKit Go.Instr
set_option linter.unusedVariables false

theorem up_5 {a b c d e g : Nat} (h8 : a + 2 ≤ b) (h7 : b + 2 ≤ c) (h6 : c ≤ d) (h5 : d ≤ e) (h9 : e + 1 ≤ g) : a + 2 ≤ g := by omega
abbrev IntOk (W : World) (word : ByteArray) (a : Option Addr) (n cap : Nat) (i std N : Int) (opt : Bool) : Prop := ∀ w, Below W.heap.size W w → Calls Tryz.prog 61 #[.agg #[.string word, .slice a n cap], .int .i64 i, .int .i64 std, .bool opt] w fun e w' => e = .returned (.tuple #[.int .i64 N, act0, .bool true]) ∧ Below w.heap.size w w'

theorem up_51 {a b c d e g : Nat} (h8 : a + 2 ≤ b) (h7 : b + 1 ≤ c) (h6 : c ≤ d) (h5 : d ≤ e) (h9 : e + 1 ≤ g) : a + 2 ≤ g := by omega
set_option maxHeartbeats 3200000 in
set_option maxRecDepth 100000 in
theorem places_ok (word : ByteArray) (a : Option Addr) (n cap : Nat) (P Q N : Int) (S : ByteArray) (w : World) (hn : NumOk w word a n cap 1 P Q) (hi : IntOk w word a n cap 2 0 N true)
    (hf : ∀ w', Below w.heap.size w w' → Calls Tryz.prog 22 #[.agg #[.int .i64 P, .int .i64 Q], .int .i64 N] w' fun e w'' => e = .returned (.tuple #[.string S, .int .i64 0]) ∧ Below w'.heap.size w' w'') :
    Calls Tryz.prog 33 #[.agg #[.string word, .slice a n cap]] w fun e w' => ActIs w.heap.size 1 0 3 0 0 S 0 e w' ∧ Below w.heap.size w w' := by
  have HN := Lib.hid hn
  have HI := Lib.hid hi
  have HF := Lib.hid hf
  have HS : Hid (∀ s w', Calls Tryz.prog 64 #[.string s] w' fun e w'' => e = .returned (vV 3 0 0 s 0) ∧ Below w'.heap.size w' w'') := fun s w' => ofstr_v s w'
  have HR := Lib.hid (return_says 3 0 0 S 0)
  clear hn hi hf
  have fr0 := fun i => frozen_out w (w.heap.size) i (by omega)
  have fr1 := fun i => frozen_out w (w.heap.size + 1) i (by omega)
  go_enter Tryz.func33, Tryz.ntmps33
  go_wp2_with (first | (go_at_call 59; refine (HN.out _ ?_).mono ?_; (focus ((repeat' (first | (with_reducible exact Below.refl _ _) | (with_reducible assumption) | (with_reducible refine Below.alloc ?_ ?_ _) | (with_reducible refine below_drewN ?_ _) | (with_reducible refine Below.drew ?_) | (with_reducible refine Below.setCell ?_ ?_ _) | (with_reducible refine below_via (by assumption) ?_ ?_) | (with_reducible refine below_via (later_below _) ?_ ?_) | (with_reducible exact Nat.le_refl _) | omega | (simp; omega) | (simp; done))))); rintro e w8 ⟨rfl, hb⟩; (refine mem hb ?_; intro N hN hz hc hf; (try simp at hN); subst hN)) | (go_at_call 61; refine (HI.out _ ?_).mono ?_; (focus ((repeat' (first | (with_reducible exact Below.refl _ _) | (with_reducible assumption) | (with_reducible refine Below.alloc ?_ ?_ _) | (with_reducible refine below_drewN ?_ _) | (with_reducible refine Below.drew ?_) | (with_reducible refine Below.setCell ?_ ?_ _) | (with_reducible refine below_via (by assumption) ?_ ?_) | (with_reducible refine below_via (later_below _) ?_ ?_) | (with_reducible exact Nat.le_refl _) | omega | (simp; omega) | (simp; done))))); rintro e w7 ⟨rfl, hb⟩; (refine mem hb ?_; intro N hN hz hc hf; (try simp at hN); subst hN)) | (go_at_call 22; refine (HF.out _ ?_).mono ?_; (focus ((repeat' (first | (with_reducible exact Below.refl _ _) | (with_reducible assumption) | (with_reducible refine Below.alloc ?_ ?_ _) | (with_reducible refine below_drewN ?_ _) | (with_reducible refine Below.drew ?_) | (with_reducible refine Below.setCell ?_ ?_ _) | (with_reducible refine below_via (by assumption) ?_ ?_) | (with_reducible refine below_via (later_below _) ?_ ?_) | (with_reducible exact Nat.le_refl _) | omega | (simp; omega) | (simp; done))))); rintro e w6 ⟨rfl, hb⟩; (refine mem hb ?_; intro N hN hz hc hf; (try simp at hN); subst hN)) | (go_at_call 64; refine (HS.out _ _).mono ?_; rintro e w5 ⟨rfl, hb⟩; (refine mem hb ?_; intro N hN hz hc hf; (try simp at hN); subst hN)) | (go_at_call 63; refine (HR.out _ _ _ (cells5_at _ _ _ _ _ _ _ _ ?_)).mono ?_; (focus (simp; done)); rintro e w9 ⟨⟨g, cp, rfl, hg, hcl⟩, hb⟩; (refine mem hb ?_; intro N hN hz hc hf; (try simp at hN); subst hN)))
  ((try simp only [Exit.inBlock, Exit.then]); refine bodyPost_ret (by first | (simp [results, Tryz.results33, go_sem, *]; done) | (simp [results, Tryz.results33, go_sem, *]; rfl) | (simp [results, Tryz.results33, go_sem, ↓IntWalk.iteOmega, *]; try rfl)) rfl ?_)
  have hg3 : w.heap.size + 2 ≤ g := by
    have h8 : w.heap.size + 2 ≤ w8.heap.size := by assumption
    have h7 : w8.heap.size + 2 ≤ w7.heap.size := by assumption
    have h6 : w7.heap.size ≤ w6.heap.size := by assumption
    have h5 : w6.heap.size ≤ w5.heap.size := by assumption
    have h9 : w5.heap.size + 1 ≤ g := by simpa using hg
    exact up_5 h8 h7 h6 h5 h9
  obtain ⟨g1, g2⟩ := up2 hg3
  refine ⟨act_set2 (hK := rfl) (hL := rfl) g2 g1 hcl, ?_⟩
  (repeat' (first | (with_reducible exact Below.refl _ _) | (with_reducible assumption) | (with_reducible refine Below.alloc ?_ ?_ _) | (with_reducible refine below_drewN ?_ _) | (with_reducible refine Below.drew ?_) | (with_reducible refine Below.setCell ?_ ?_ _) | (with_reducible refine below_via (by assumption) ?_ ?_) | (with_reducible refine below_via (later_below _) ?_ ?_) | (with_reducible exact Nat.le_refl _) | omega | (simp; omega) | (simp; done)))
set_option maxHeartbeats 3200000 in
set_option maxRecDepth 100000 in
theorem digits_ok (word : ByteArray) (a : Option Addr) (n cap : Nat) (P N : Int) (S : ByteArray) (w : World) (hn : IntOk w word a n cap 1 0 P false) (hi : IntOk w word a n cap 2 10 N true)
    (hf : ∀ w', Below w.heap.size w w' → Calls Tryz.prog 24 #[.int .i64 P, .int .i64 N] w' fun e w'' => e = .returned (.tuple #[.string S, .int .i64 0]) ∧ Below w'.heap.size w' w'') :
    Calls Tryz.prog 34 #[.agg #[.string word, .slice a n cap]] w fun e w' => ActIs w.heap.size 1 0 3 0 0 S 0 e w' ∧ Below w.heap.size w w' := by
  have HN := Lib.hid hn
  have HI := Lib.hid hi
  have HF := Lib.hid hf
  have HS : Hid (∀ s w', Calls Tryz.prog 64 #[.string s] w' fun e w'' => e = .returned (vV 3 0 0 s 0) ∧ Below w'.heap.size w' w'') := fun s w' => ofstr_v s w'
  have HR := Lib.hid (return_says 3 0 0 S 0)
  clear hn hi hf
  have fr0 := fun i => frozen_out w (w.heap.size) i (by omega)
  have fr1 := fun i => frozen_out w (w.heap.size + 1) i (by omega)
  go_enter Tryz.func34, Tryz.ntmps34
  go_wp2_with (first | (go_at_call 61; (with_reducible refine (HN.out _ ?_).mono ?_); (focus ((repeat' (first | (with_reducible exact Below.refl _ _) | (with_reducible assumption) | (with_reducible refine Below.alloc ?_ ?_ _) | (with_reducible refine below_drewN ?_ _) | (with_reducible refine Below.drew ?_) | (with_reducible refine Below.setCell ?_ ?_ _) | (with_reducible refine below_via (by assumption) ?_ ?_) | (with_reducible refine below_via (later_below _) ?_ ?_) | (with_reducible exact Nat.le_refl _) | omega | (simp; omega) | (simp; done))))); rintro e w8 ⟨rfl, hb⟩; (refine mem hb ?_; intro N hN hz hc hf; (try simp at hN); subst hN)) | (go_at_call 61; (with_reducible refine (HI.out _ ?_).mono ?_); (focus ((repeat' (first | (with_reducible exact Below.refl _ _) | (with_reducible assumption) | (with_reducible refine Below.alloc ?_ ?_ _) | (with_reducible refine below_drewN ?_ _) | (with_reducible refine Below.drew ?_) | (with_reducible refine Below.setCell ?_ ?_ _) | (with_reducible refine below_via (by assumption) ?_ ?_) | (with_reducible refine below_via (later_below _) ?_ ?_) | (with_reducible exact Nat.le_refl _) | omega | (simp; omega) | (simp; done))))); rintro e w7 ⟨rfl, hb⟩; (refine mem hb ?_; intro N hN hz hc hf; (try simp at hN); subst hN)) | (go_at_call 24; refine (HF.out _ ?_).mono ?_; (focus ((repeat' (first | (with_reducible exact Below.refl _ _) | (with_reducible assumption) | (with_reducible refine Below.alloc ?_ ?_ _) | (with_reducible refine below_drewN ?_ _) | (with_reducible refine Below.drew ?_) | (with_reducible refine Below.setCell ?_ ?_ _) | (with_reducible refine below_via (by assumption) ?_ ?_) | (with_reducible refine below_via (later_below _) ?_ ?_) | (with_reducible exact Nat.le_refl _) | omega | (simp; omega) | (simp; done))))); rintro e w6 ⟨rfl, hb⟩; (refine mem hb ?_; intro N hN hz hc hf; (try simp at hN); subst hN)) | (go_at_call 64; refine (HS.out _ _).mono ?_; rintro e w5 ⟨rfl, hb⟩; (refine mem hb ?_; intro N hN hz hc hf; (try simp at hN); subst hN)) | (go_at_call 63; refine (HR.out _ _ _ (cells5_at _ _ _ _ _ _ _ _ ?_)).mono ?_; (focus (simp; done)); rintro e w9 ⟨⟨g, cp, rfl, hg, hcl⟩, hb⟩; (refine mem hb ?_; intro N hN hz hc hf; (try simp at hN); subst hN)))
  ((try simp only [Exit.inBlock, Exit.then]); refine bodyPost_ret (by first | (simp [results, Tryz.results34, go_sem, *]; done) | (simp [results, Tryz.results34, go_sem, *]; rfl) | (simp [results, Tryz.results34, go_sem, ↓IntWalk.iteOmega, *]; try rfl)) rfl ?_)
  have hg3 : w.heap.size + 2 ≤ g := by
    have h8 : w.heap.size + 2 ≤ w8.heap.size := by assumption
    have h7 : w8.heap.size + 1 ≤ w7.heap.size := by assumption
    have h6 : w7.heap.size ≤ w6.heap.size := by assumption
    have h5 : w6.heap.size ≤ w5.heap.size := by assumption
    have h9 : w5.heap.size + 1 ≤ g := by simpa using hg
    exact up_51 h8 h7 h6 h5 h9
  obtain ⟨g1, g2⟩ := up2 hg3
  refine ⟨act_set2 (hK := rfl) (hL := rfl) g2 g1 hcl, ?_⟩
  (repeat' (first | (with_reducible exact Below.refl _ _) | (with_reducible assumption) | (with_reducible refine Below.alloc ?_ ?_ _) | (with_reducible refine below_drewN ?_ _) | (with_reducible refine Below.drew ?_) | (with_reducible refine Below.setCell ?_ ?_ _) | (with_reducible refine below_via (by assumption) ?_ ?_) | (with_reducible refine below_via (later_below _) ?_ ?_) | (with_reducible exact Nat.le_refl _) | omega | (simp; omega) | (simp; done)))
end Go.Proofs.YtfclmnglckikbaaGreatDoor
