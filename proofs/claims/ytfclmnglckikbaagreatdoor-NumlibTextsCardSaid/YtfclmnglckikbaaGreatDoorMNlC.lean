/- Numlib's result, integral and kind: what each call returns. -/
import Derived.Test.YtfclmnglckikbaaGreatDoorMNlB
namespace Go.Proofs.YtfclmnglckikbaaGreatDoor
open Go.RowKit Go.Instr
set_option linter.unusedVariables false

/-- protocol.Return of a list of one value, in any world that holds it. -/
theorem return_says (k p q : Int) (s : ByteArray) (r : Int) : ∀ b c w', Cells5 w' b k p q s r → Calls Tryz.prog 63 #[.slice (some ⟨b, 0, none⟩) 1 c] w' fun e w'' => ActIs w'.heap.size 1 0 k p q s r e w'' ∧ Below w'.heap.size w' w'' := fun b c w' h => return_one b c k p q s r w' h

set_option maxHeartbeats 1600000 in
set_option maxRecDepth 100000 in
theorem result_v (P Q k p q : Int) (s : ByteArray) (r : Int) (w : World) (hp : -9223372036854775808 ≤ P) (hp' : P ≤ 9223372036854775807) (he : ofNumV P Q = vV k p q s r) :
    Calls Tryz.prog 60 #[.agg #[.int .i64 P, .int .i64 Q]] w fun e w' => ActIs w.heap.size 1 0 k p q s r e w' ∧ Below w.heap.size w w' := by
  have HR := Lib.hid (return_says k p q s r)
  have HN : Hid (∀ w', Calls Tryz.prog 88 #[.agg #[.int .i64 P, .int .i64 Q]] w' fun e w'' => e = .returned (vV k p q s r) ∧ Below w'.heap.size w' w'') := fun w' => by have h := ofnum_v P Q w' hp hp'; rw [he] at h; exact h
  clear he
  have fr0 := fun i => frozen_out w (w.heap.size) i (by omega)
  have fr1 := fun i => frozen_out w (w.heap.size + 1) i (by omega)
  go_enter Tryz.func60, Tryz.ntmps60
  go_wp2_with (first | (go_at_call 88; refine (HN.out _).mono ?_; rintro e w8 ⟨rfl, hb⟩; (refine mem hb ?_; intro N hN hz hc hf; (try simp at hN); subst hN)) | (go_at_call 63; refine (HR.out _ _ _ (cells5_at _ _ _ _ _ _ _ _ ?_)).mono ?_; (focus (simp; done)); rintro e w9 ⟨⟨g, cp, rfl, hg, hcl⟩, hb⟩; (refine mem hb ?_; intro N hN hz hc hf; (try simp at hN); subst hN)))
  ((try simp only [Exit.inBlock, Exit.then]); refine bodyPost_ret (by first | (simp [results, Tryz.results60, go_sem, *]; done) | (simp [results, Tryz.results60, go_sem, *]; rfl) | (simp [results, Tryz.results60, go_sem, ↓IntWalk.iteOmega, *]; try rfl)) rfl ?_)
  have hg3 : w.heap.size + 2 ≤ g := Nat.le_trans (by assumption) (Nat.le_trans (Nat.le_succ _) (by simpa using hg))
  obtain ⟨g1, g2⟩ := up2 hg3
  refine ⟨act_mk rfl rfl g1 ?_, ?_⟩
  · repeat (with_reducible refine Cells5.set (by exact g2) ?_)
    exact hcl
  · (repeat' (first | (with_reducible exact Below.refl _ _) | (with_reducible assumption) | (with_reducible refine Below.alloc ?_ ?_ _) | (with_reducible refine below_drewN ?_ _) | (with_reducible refine Below.drew ?_) | (with_reducible refine Below.setCell ?_ ?_ _) | (with_reducible refine below_via (by assumption) ?_ ?_) | (with_reducible refine below_via (later_below _) ?_ ?_) | (with_reducible exact Nat.le_refl _) | omega | (simp; omega) | (simp; done)))
set_option maxHeartbeats 1600000 in
set_option maxRecDepth 100000 in
theorem integral_v (n k p q : Int) (s : ByteArray) (r : Int) (w : World) (he : ofInt n = vV k p q s r) :
    Calls Tryz.prog 68 #[.int .i64 n] w fun e w' => ActIs w.heap.size 1 0 k p q s r e w' ∧ Below w.heap.size w w' := by
  have HR := Lib.hid (return_says k p q s r)
  have HN : Hid (∀ w', Calls Tryz.prog 93 #[.int .i64 n] w' fun e w'' => e = .returned (vV k p q s r) ∧ Below w'.heap.size w' w'') := fun w' => by have h := ofint_v n w'; rw [he] at h; exact h
  clear he
  have fr0 := fun i => frozen_out w (w.heap.size) i (by omega)
  go_enter Tryz.func68, Tryz.ntmps68
  go_wp2_with (first | (go_at_call 93; refine (HN.out _).mono ?_; rintro e w8 ⟨rfl, hb⟩; (refine mem hb ?_; intro N hN hz hc hf; (try simp at hN); subst hN)) | (go_at_call 63; refine (HR.out _ _ _ (cells5_at _ _ _ _ _ _ _ _ ?_)).mono ?_; (focus (simp; done)); rintro e w9 ⟨⟨g, cp, rfl, hg, hcl⟩, hb⟩; (refine mem hb ?_; intro N hN hz hc hf; (try simp at hN); subst hN)))
  ((try simp only [Exit.inBlock, Exit.then]); refine bodyPost_ret (by first | (simp [results, Tryz.results68, go_sem, *]; done) | (simp [results, Tryz.results68, go_sem, *]; rfl) | (simp [results, Tryz.results68, go_sem, ↓IntWalk.iteOmega, *]; try rfl)) rfl ?_)
  have hg3 : w.heap.size + 1 ≤ g := Nat.le_trans (by assumption) (Nat.le_trans (Nat.le_succ _) (by simpa using hg))
  obtain ⟨g1, g2⟩ := up1 hg3
  refine ⟨act_mk rfl rfl g1 ?_, ?_⟩
  · repeat (with_reducible refine Cells5.set (by exact g2) ?_)
    exact hcl
  · (repeat' (first | (with_reducible exact Below.refl _ _) | (with_reducible assumption) | (with_reducible refine Below.alloc ?_ ?_ _) | (with_reducible refine below_drewN ?_ _) | (with_reducible refine Below.drew ?_) | (with_reducible refine Below.setCell ?_ ?_ _) | (with_reducible refine below_via (by assumption) ?_ ?_) | (with_reducible refine below_via (later_below _) ?_ ?_) | (with_reducible exact Nat.le_refl _) | omega | (simp; omega) | (simp; done)))
end Go.Proofs.YtfclmnglckikbaaGreatDoor

/- Numlib's kind: what each call returns. -/
namespace Go.Proofs.YtfclmnglckikbaaGreatDoor
open Go.RowKit Go.Instr
set_option linter.unusedVariables false

theorem up_chain {a b c g : Nat} (h8 : a + 2 ≤ b) (h7 : b + 1 ≤ c) (h9 : c + 1 ≤ g) : a + 2 ≤ g := by omega
set_option maxHeartbeats 1600000 in
set_option maxRecDepth 100000 in
theorem kind_no (word : ByteArray) (a : Option Addr) (n cap : Nat) (k p q : Int) (s : ByteArray) (r : Int) (w : World) (ha : ArgSays w a n cap 0 k p q s r) (hk : ¬ k = 2) :
    Calls Tryz.prog 35 #[.agg #[.string word, .slice a n cap]] w fun e w' => ActIs w.heap.size 1 0 0 0 0 ⟨#[]⟩ 0 e w' ∧ Below w.heap.size w w' := by
  have HR := Lib.hid (return_says 0 0 0 ⟨#[]⟩ 0)
  have HA := Lib.hid ha
  have hk2 : (k != 2) = true := by simpa using hk
  clear ha hk
  have fr0 := fun i => frozen_out w (w.heap.size) i (by omega)
  have fr1 := fun i => frozen_out w (w.heap.size + 1) i (by omega)
  go_enter Tryz.func35, Tryz.ntmps35
  go_wp2_with (first | (go_at_call 65; refine (HA.out _ ?_).mono ?_; (focus ((repeat' (first | (with_reducible exact Below.refl _ _) | (with_reducible assumption) | (with_reducible refine Below.alloc ?_ ?_ _) | (with_reducible refine below_drewN ?_ _) | (with_reducible refine Below.drew ?_) | (with_reducible refine Below.setCell ?_ ?_ _) | (with_reducible refine below_via (by assumption) ?_ ?_) | (with_reducible refine below_via (later_below _) ?_ ?_) | (with_reducible exact Nat.le_refl _) | omega | (simp; omega) | (simp; done))))); rintro e w8 ⟨rfl, hb⟩; (refine mem hb ?_; intro N hN hz hc hf; (try simp at hN); subst hN)) | (go_at_call 63; refine (HR.out _ _ _ (cells5_at _ _ _ _ _ _ _ _ ?_)).mono ?_; (focus (simp; done)); rintro e w9 ⟨⟨g, cp, rfl, hg, hcl⟩, hb⟩; (refine mem hb ?_; intro N hN hz hc hf; (try simp at hN); subst hN)))
  ((try simp only [Exit.inBlock, Exit.then]); refine bodyPost_ret (by first | (simp [results, Tryz.results35, go_sem, *]; done) | (simp [results, Tryz.results35, go_sem, *]; rfl) | (simp [results, Tryz.results35, go_sem, ↓IntWalk.iteOmega, *]; try rfl)) rfl ?_)
  have hg3 : w.heap.size + 2 ≤ g := Nat.le_trans (by assumption) (Nat.le_trans (Nat.le_add_right _ 2) (by simpa using hg))
  obtain ⟨g1, g2⟩ := up2 hg3
  refine ⟨act_mk rfl rfl g1 ?_, ?_⟩
  · repeat (with_reducible refine Cells5.set (by exact g2) ?_)
    exact hcl
  · (repeat' (first | (with_reducible exact Below.refl _ _) | (with_reducible assumption) | (with_reducible refine Below.alloc ?_ ?_ _) | (with_reducible refine below_drewN ?_ _) | (with_reducible refine Below.drew ?_) | (with_reducible refine Below.setCell ?_ ?_ _) | (with_reducible refine below_via (by assumption) ?_ ?_) | (with_reducible refine below_via (later_below _) ?_ ?_) | (with_reducible exact Nat.le_refl _) | omega | (simp; omega) | (simp; done)))
set_option maxHeartbeats 1600000 in
set_option maxRecDepth 100000 in
theorem kind_int (word : ByteArray) (a : Option Addr) (n cap : Nat) (p : Int) (s : ByteArray) (r : Int) (w : World) (ha : ArgSays w a n cap 0 2 p 1 s r) :
    Calls Tryz.prog 35 #[.agg #[.string word, .slice a n cap]] w fun e w' => ActIs w.heap.size 1 0 3 0 0 ⟨#[105, 110, 116, 101, 103, 101, 114]⟩ 0 e w' ∧ Below w.heap.size w w' := by
  have HR := Lib.hid (return_says 3 0 0 ⟨#[105, 110, 116, 101, 103, 101, 114]⟩ 0)
  have HA := Lib.hid ha
  have HS : Hid (∀ s w', Calls Tryz.prog 64 #[.string s] w' fun e w'' => e = .returned (vV 3 0 0 s 0) ∧ Below w'.heap.size w' w'') := fun s w' => ofstr_v s w'
  clear ha
  have fr0 := fun i => frozen_out w (w.heap.size) i (by omega)
  have fr1 := fun i => frozen_out w (w.heap.size + 1) i (by omega)
  go_enter Tryz.func35, Tryz.ntmps35
  go_wp2_with (first | (go_at_call 65; refine (HA.out _ ?_).mono ?_; (focus ((repeat' (first | (with_reducible exact Below.refl _ _) | (with_reducible assumption) | (with_reducible refine Below.alloc ?_ ?_ _) | (with_reducible refine below_drewN ?_ _) | (with_reducible refine Below.drew ?_) | (with_reducible refine Below.setCell ?_ ?_ _) | (with_reducible refine below_via (by assumption) ?_ ?_) | (with_reducible refine below_via (later_below _) ?_ ?_) | (with_reducible exact Nat.le_refl _) | omega | (simp; omega) | (simp; done))))); rintro e w8 ⟨rfl, hb⟩; (refine mem hb ?_; intro N hN hz hc hf; (try simp at hN); subst hN)) | (go_at_call 64; refine (HS.out _ _).mono ?_; rintro e w7 ⟨rfl, hb⟩; (refine mem hb ?_; intro N hN hz hc hf; (try simp at hN); subst hN)) | (go_at_call 63; refine (HR.out _ _ _ (cells5_at _ _ _ _ _ _ _ _ ?_)).mono ?_; (focus (simp; done)); rintro e w9 ⟨⟨g, cp, rfl, hg, hcl⟩, hb⟩; (refine mem hb ?_; intro N hN hz hc hf; (try simp at hN); subst hN)))
  ((try simp only [Exit.inBlock, Exit.then]); refine bodyPost_ret (by first | (simp [results, Tryz.results35, go_sem, *]; done) | (simp [results, Tryz.results35, go_sem, *]; rfl) | (simp [results, Tryz.results35, go_sem, ↓IntWalk.iteOmega, *]; try rfl)) rfl ?_)
  have hg3 : w.heap.size + 2 ≤ g := by
    have h7 : w8.heap.size + 1 ≤ w7.heap.size := by assumption
    have h8 : w.heap.size + 2 ≤ w8.heap.size := by assumption
    have h9 : w7.heap.size + 1 ≤ g := by simpa using hg
    exact up_chain h8 h7 h9
  obtain ⟨g1, g2⟩ := up2 hg3
  refine ⟨act_mk rfl rfl g1 ?_, ?_⟩
  · repeat (with_reducible refine Cells5.set (by exact g2) ?_)
    exact hcl
  · (repeat' (first | (with_reducible exact Below.refl _ _) | (with_reducible assumption) | (with_reducible refine Below.alloc ?_ ?_ _) | (with_reducible refine below_drewN ?_ _) | (with_reducible refine Below.drew ?_) | (with_reducible refine Below.setCell ?_ ?_ _) | (with_reducible refine below_via (by assumption) ?_ ?_) | (with_reducible refine below_via (later_below _) ?_ ?_) | (with_reducible exact Nat.le_refl _) | omega | (simp; omega) | (simp; done)))
set_option maxHeartbeats 1600000 in
set_option maxRecDepth 100000 in
theorem kind_frac (word : ByteArray) (a : Option Addr) (n cap : Nat) (p q : Int) (s : ByteArray) (r : Int) (w : World) (ha : ArgSays w a n cap 0 2 p q s r) (hq : ¬ q = 1) :
    Calls Tryz.prog 35 #[.agg #[.string word, .slice a n cap]] w fun e w' => ActIs w.heap.size 1 0 3 0 0 ⟨#[102, 114, 97, 99, 116, 105, 111, 110]⟩ 0 e w' ∧ Below w.heap.size w w' := by
  have HR := Lib.hid (return_says 3 0 0 ⟨#[102, 114, 97, 99, 116, 105, 111, 110]⟩ 0)
  have HA := Lib.hid ha
  have HS : Hid (∀ s w', Calls Tryz.prog 64 #[.string s] w' fun e w'' => e = .returned (vV 3 0 0 s 0) ∧ Below w'.heap.size w' w'') := fun s w' => ofstr_v s w'
  have hq2 : (q == 1) = false := by simpa using hq
  clear ha hq
  have fr0 := fun i => frozen_out w (w.heap.size) i (by omega)
  have fr1 := fun i => frozen_out w (w.heap.size + 1) i (by omega)
  go_enter Tryz.func35, Tryz.ntmps35
  go_wp2_with (first | (go_at_call 65; refine (HA.out _ ?_).mono ?_; (focus ((repeat' (first | (with_reducible exact Below.refl _ _) | (with_reducible assumption) | (with_reducible refine Below.alloc ?_ ?_ _) | (with_reducible refine below_drewN ?_ _) | (with_reducible refine Below.drew ?_) | (with_reducible refine Below.setCell ?_ ?_ _) | (with_reducible refine below_via (by assumption) ?_ ?_) | (with_reducible refine below_via (later_below _) ?_ ?_) | (with_reducible exact Nat.le_refl _) | omega | (simp; omega) | (simp; done))))); rintro e w8 ⟨rfl, hb⟩; (refine mem hb ?_; intro N hN hz hc hf; (try simp at hN); subst hN)) | (go_at_call 64; refine (HS.out _ _).mono ?_; rintro e w7 ⟨rfl, hb⟩; (refine mem hb ?_; intro N hN hz hc hf; (try simp at hN); subst hN)) | (go_at_call 63; refine (HR.out _ _ _ (cells5_at _ _ _ _ _ _ _ _ ?_)).mono ?_; (focus (simp; done)); rintro e w9 ⟨⟨g, cp, rfl, hg, hcl⟩, hb⟩; (refine mem hb ?_; intro N hN hz hc hf; (try simp at hN); subst hN)))
  ((try simp only [Exit.inBlock, Exit.then]); refine bodyPost_ret (by first | (simp [results, Tryz.results35, go_sem, *]; done) | (simp [results, Tryz.results35, go_sem, *]; rfl) | (simp [results, Tryz.results35, go_sem, ↓IntWalk.iteOmega, *]; try rfl)) rfl ?_)
  have hg3 : w.heap.size + 2 ≤ g := by
    have h7 : w8.heap.size + 1 ≤ w7.heap.size := by assumption
    have h8 : w.heap.size + 2 ≤ w8.heap.size := by assumption
    have h9 : w7.heap.size + 1 ≤ g := by simpa using hg
    exact up_chain h8 h7 h9
  obtain ⟨g1, g2⟩ := up2 hg3
  refine ⟨act_mk rfl rfl g1 ?_, ?_⟩
  · repeat (with_reducible refine Cells5.set (by exact g2) ?_)
    exact hcl
  · (repeat' (first | (with_reducible exact Below.refl _ _) | (with_reducible assumption) | (with_reducible refine Below.alloc ?_ ?_ _) | (with_reducible refine below_drewN ?_ _) | (with_reducible refine Below.drew ?_) | (with_reducible refine Below.setCell ?_ ?_ _) | (with_reducible refine below_via (by assumption) ?_ ?_) | (with_reducible refine below_via (later_below _) ?_ ?_) | (with_reducible exact Nat.le_refl _) | omega | (simp; omega) | (simp; done)))
end Go.Proofs.YtfclmnglckikbaaGreatDoor
