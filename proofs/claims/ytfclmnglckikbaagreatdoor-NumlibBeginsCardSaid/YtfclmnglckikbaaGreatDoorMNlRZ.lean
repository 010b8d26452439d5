/- The reference's integer and one: what each call returns. -/
import Derived.Test.YtfclmnglckikbaaGreatDoorMNlRY
import Derived.Test.YtfclmnglckikbaaGreatDoorMNlRX
import Derived.Test.YtfclmnglckikbaaGreatDoorMNlG
import Derived.Test.YtfclmnglckikbaaGreatDoorMNlF
import Derived.Test.YtfclmnglckikbaaGreatDoorMRefD
import Derived.Test.YtfclmnglckikbaaGreatDoorMNlI
import Derived.Test.YtfclmnglckikbaaGreatDoorMNlW17
import Derived.Test.YtfclmnglckikbaaGreatDoorMValW2
namespace Go.Proofs.YtfclmnglckikbaaGreatDoor
open Go.RowKit Go.Instr
set_option linter.unusedVariables false

/-- The reference's Return of a list of one value, in any world that holds it. -/
theorem rreturn_says (k p q : Int) (s : ByteArray) (r : Int) : ∀ b c w', Cells5 w' b k p q s r → Calls Tryz.prog 44 #[.slice (some ⟨b, 0, none⟩) 1 c] w' fun e w'' => ActIs w'.heap.size 1 0 k p q s r e w'' ∧ Below w'.heap.size w' w'' := fun b c w' h => rreturn_one b c ⟨k, p, q, s, r⟩ w' h

set_option maxHeartbeats 3200000 in
set_option maxRecDepth 100000 in
theorem rinteger_v (n k p q : Int) (s : ByteArray) (r : Int) (w : World) (he : ofInt n = vV k p q s r) :
    Calls Tryz.prog 82 #[.int .i64 n] w fun e w' => ActIs w.heap.size 1 0 k p q s r e w' ∧ Below w.heap.size w w' := by
  have HR := Lib.hid (rreturn_says k p q s r)
  have HN : Hid (∀ w', Calls Tryz.prog 102 #[.int .i64 n] w' fun e w'' => e = .returned (vV k p q s r) ∧ Below w'.heap.size w' w'') := fun w' => by have h := rofint_v n w'; rw [he] at h; exact h
  clear he
  have fr0 := fun i => frozen_out w (w.heap.size) i (by omega)
  go_enter Tryz.func82, Tryz.ntmps82
  go_wp2_with (first | (go_at_call 102; (with_reducible refine (HN.out _).mono ?_); rintro e w8 ⟨rfl, hb⟩; (refine mem hb ?_; intro N hN hz hc hf; (try simp at hN); subst hN)) | (go_at_call 44; refine (HR.out _ _ _ (cells5_at _ _ _ _ _ _ _ _ ?_)).mono ?_; (focus (simp; done)); rintro e w9 ⟨⟨g, cp, rfl, hg, hcl⟩, hb⟩; (refine mem hb ?_; intro N hN hz hc hf; (try simp at hN); subst hN)))
  ((try simp only [Exit.inBlock, Exit.then]); refine bodyPost_ret (by first | (simp [results, Tryz.results82, go_sem, *]; done) | (simp [results, Tryz.results82, go_sem, *]; rfl) | (simp [results, Tryz.results82, go_sem, ↓IntWalk.iteOmega, *]; try rfl)) rfl ?_)
  have s0 : w.heap.size + 1 ≤ w8.heap.size := by assumption
  have s1 : w8.heap.size + 1 ≤ g := by simpa using hg
  have hg3 : w.heap.size + 1 ≤ g := (upj 1 s0 s1)
  obtain ⟨g1, g2, g3⟩ := ups1 hg3
  refine ⟨act_set2 (hK := rfl) (hL := rfl) g2 g1 hcl, ?_⟩
  (repeat' (first | (with_reducible exact Below.refl _ _) | (with_reducible assumption) | (with_reducible refine Below.alloc ?_ ?_ _) | (with_reducible refine below_drewN ?_ _) | (with_reducible refine Below.drew ?_) | (with_reducible refine Below.setCell ?_ ?_ _) | (with_reducible refine below_via (by assumption) ?_ ?_) | (with_reducible refine below_via (later_below _) ?_ ?_) | (with_reducible exact Nat.le_refl _) | omega | (simp; omega) | (simp; done)))

/-- The names, byte by byte. -/
def nmL (j : Nat) : List UInt8 := (nmN j).data.toList

set_option maxHeartbeats 3200000 in
set_option maxRecDepth 100000 in
theorem rone_num (NM : ByteArray) (P Q k p q : Int) (s : ByteArray) (r : Int) (w : World) (t0 : (NM.toList == [110, 117, 109, 98, 101, 114, 46, 97, 98, 115]) = false) (t2 : (NM.toList == [110, 117, 109, 98, 101, 114, 46, 99, 101, 105, 108]) = false) (t5 : (NM.toList == [110, 117, 109, 98, 101, 114, 46, 102, 108, 111, 111, 114]) = false) (t8 : (NM.toList == [110, 117, 109, 98, 101, 114, 46, 110, 117, 109]) = true)  (he : ofInt P = vV k p q s r) :
    Calls Tryz.prog 47 #[.string NM, .agg #[.int .i64 P, .int .i64 Q]] w fun e w' => ActIs w.heap.size 1 0 k p q s r e w' ∧ Below w.heap.size w w' := by
  have HI : Hid (∀ w', Calls Tryz.prog 82 #[.int .i64 P] w' fun e w'' => ActIs w'.heap.size 1 0 k p q s r e w'' ∧ Below w'.heap.size w' w'') := fun w' => rinteger_v P k p q s r w' he
  clear he
  have fr0 := fun i => frozen_out w (w.heap.size) i (by omega)
  have fr1 := fun i => frozen_out w (w.heap.size + 1) i (by omega)
  go_enter Tryz.func47, Tryz.ntmps47
  go_wp2_with (first | (go_at_call 82; (with_reducible refine (HI.out _).mono ?_); rintro e w9 ⟨⟨g, cp, rfl, hg, hcl⟩, hb⟩; (refine mem hb ?_; intro N hN hz hc hf; (try simp at hN); subst hN)))
  ((try simp only [Exit.inBlock, Exit.then]); refine bodyPost_ret (by first | (simp [results, Tryz.results47, go_sem, *]; done) | (simp [results, Tryz.results47, go_sem, *]; rfl) | (simp [results, Tryz.results47, go_sem, ↓IntWalk.iteOmega, *]; try rfl)) rfl ?_)
  have s0 : w.heap.size + 2 ≤ g := by simpa using hg
  have hg3 : w.heap.size + 2 ≤ g := s0
  obtain ⟨g1, g2, g3⟩ := ups2 hg3
  refine ⟨act_set2 (hK := rfl) (hL := rfl) g3 g1 hcl, ?_⟩
  (repeat' (first | (with_reducible exact Below.refl _ _) | (with_reducible assumption) | (with_reducible refine Below.alloc ?_ ?_ _) | (with_reducible refine below_drewN ?_ _) | (with_reducible refine Below.drew ?_) | (with_reducible refine Below.setCell ?_ ?_ _) | (with_reducible refine below_via (by assumption) ?_ ?_) | (with_reducible refine below_via (later_below _) ?_ ?_) | (with_reducible exact Nat.le_refl _) | omega | (simp; omega) | (simp; done)))

set_option maxHeartbeats 3200000 in
set_option maxRecDepth 100000 in
theorem rone_den (NM : ByteArray) (P Q k p q : Int) (s : ByteArray) (r : Int) (w : World) (t0 : (NM.toList == [110, 117, 109, 98, 101, 114, 46, 97, 98, 115]) = false) (t2 : (NM.toList == [110, 117, 109, 98, 101, 114, 46, 99, 101, 105, 108]) = false) (t5 : (NM.toList == [110, 117, 109, 98, 101, 114, 46, 102, 108, 111, 111, 114]) = false) (t8 : (NM.toList == [110, 117, 109, 98, 101, 114, 46, 110, 117, 109]) = false) (t3 : (NM.toList == [110, 117, 109, 98, 101, 114, 46, 100, 101, 110]) = true)  (he : ofInt Q = vV k p q s r) :
    Calls Tryz.prog 47 #[.string NM, .agg #[.int .i64 P, .int .i64 Q]] w fun e w' => ActIs w.heap.size 1 0 k p q s r e w' ∧ Below w.heap.size w w' := by
  have HI : Hid (∀ w', Calls Tryz.prog 82 #[.int .i64 Q] w' fun e w'' => ActIs w'.heap.size 1 0 k p q s r e w'' ∧ Below w'.heap.size w' w'') := fun w' => rinteger_v Q k p q s r w' he
  clear he
  have fr0 := fun i => frozen_out w (w.heap.size) i (by omega)
  have fr1 := fun i => frozen_out w (w.heap.size + 1) i (by omega)
  go_enter Tryz.func47, Tryz.ntmps47
  go_wp2_with (first | (go_at_call 82; (with_reducible refine (HI.out _).mono ?_); rintro e w9 ⟨⟨g, cp, rfl, hg, hcl⟩, hb⟩; (refine mem hb ?_; intro N hN hz hc hf; (try simp at hN); subst hN)))
  ((try simp only [Exit.inBlock, Exit.then]); refine bodyPost_ret (by first | (simp [results, Tryz.results47, go_sem, *]; done) | (simp [results, Tryz.results47, go_sem, *]; rfl) | (simp [results, Tryz.results47, go_sem, ↓IntWalk.iteOmega, *]; try rfl)) rfl ?_)
  have s0 : w.heap.size + 2 ≤ g := by simpa using hg
  have hg3 : w.heap.size + 2 ≤ g := s0
  obtain ⟨g1, g2, g3⟩ := ups2 hg3
  refine ⟨act_set2 (hK := rfl) (hL := rfl) g3 g1 hcl, ?_⟩
  (repeat' (first | (with_reducible exact Below.refl _ _) | (with_reducible assumption) | (with_reducible refine Below.alloc ?_ ?_ _) | (with_reducible refine below_drewN ?_ _) | (with_reducible refine Below.drew ?_) | (with_reducible refine Below.setCell ?_ ?_ _) | (with_reducible refine below_via (by assumption) ?_ ?_) | (with_reducible refine below_via (later_below _) ?_ ?_) | (with_reducible exact Nat.le_refl _) | omega | (simp; omega) | (simp; done)))

set_option maxHeartbeats 3200000 in
set_option maxRecDepth 100000 in
theorem rone_sign (NM : ByteArray) (P Q k p q : Int) (s : ByteArray) (r : Int) (w : World) (t0 : (NM.toList == [110, 117, 109, 98, 101, 114, 46, 97, 98, 115]) = false) (t2 : (NM.toList == [110, 117, 109, 98, 101, 114, 46, 99, 101, 105, 108]) = false) (t5 : (NM.toList == [110, 117, 109, 98, 101, 114, 46, 102, 108, 111, 111, 114]) = false) (t8 : (NM.toList == [110, 117, 109, 98, 101, 114, 46, 110, 117, 109]) = false) (t3 : (NM.toList == [110, 117, 109, 98, 101, 114, 46, 100, 101, 110]) = false) (t9 : (NM.toList == [110, 117, 109, 98, 101, 114, 46, 115, 105, 103, 110]) = true) (hp : -9223372036854775808 ≤ P) (hp' : P ≤ 9223372036854775807) (he : ofInt (cmpT P Q 0 1) = vV k p q s r) :
    Calls Tryz.prog 47 #[.string NM, .agg #[.int .i64 P, .int .i64 Q]] w fun e w' => ActIs w.heap.size 1 0 k p q s r e w' ∧ Below w.heap.size w w' := by
  have HF : Hid (∀ w', Calls Tryz.prog 71 #[.agg #[.int .i64 P, .int .i64 Q], .agg #[.int .i64 0, .int .i64 1]] w' fun e w'' => e = .returned (.int .i64 (cmpT P Q 0 1)) ∧ Below w'.heap.size w' w'') := fun w' => rcmp_any P Q 0 1 w' hp hp' (by omega) (by omega)
  have HI : Hid (∀ w', Calls Tryz.prog 82 #[.int .i64 (cmpT P Q 0 1)] w' fun e w'' => ActIs w'.heap.size 1 0 k p q s r e w'' ∧ Below w'.heap.size w' w'') := fun w' => rinteger_v (cmpT P Q 0 1) k p q s r w' he
  clear he
  generalize cmpT P Q 0 1 = C at HF HI
  have fr0 := fun i => frozen_out w (w.heap.size) i (by omega)
  have fr1 := fun i => frozen_out w (w.heap.size + 1) i (by omega)
  go_enter Tryz.func47, Tryz.ntmps47
  go_wp2_with (first | (go_at_call 71; (with_reducible refine (HF.out _).mono ?_); rintro e w7 ⟨rfl, hb⟩; (refine mem hb ?_; intro N hN hz hc hf; (try simp at hN); subst hN)) | (go_at_call 82; (with_reducible refine (HI.out _).mono ?_); rintro e w9 ⟨⟨g, cp, rfl, hg, hcl⟩, hb⟩; (refine mem hb ?_; intro N hN hz hc hf; (try simp at hN); subst hN)))
  ((try simp only [Exit.inBlock, Exit.then]); refine bodyPost_ret (by first | (simp [results, Tryz.results47, go_sem, *]; done) | (simp [results, Tryz.results47, go_sem, *]; rfl) | (simp [results, Tryz.results47, go_sem, ↓IntWalk.iteOmega, *]; try rfl)) rfl ?_)
  have s0 : w.heap.size + 2 ≤ w7.heap.size := by assumption
  have s1 : w7.heap.size ≤ g := by simpa using hg
  have hg3 : w.heap.size + 2 ≤ g := (Nat.le_trans s0 s1)
  obtain ⟨g1, g2, g3⟩ := ups2 hg3
  refine ⟨act_set2 (hK := rfl) (hL := rfl) g3 g1 hcl, ?_⟩
  (repeat' (first | (with_reducible exact Below.refl _ _) | (with_reducible assumption) | (with_reducible refine Below.alloc ?_ ?_ _) | (with_reducible refine below_drewN ?_ _) | (with_reducible refine Below.drew ?_) | (with_reducible refine Below.setCell ?_ ?_ _) | (with_reducible refine below_via (by assumption) ?_ ?_) | (with_reducible refine below_via (later_below _) ?_ ?_) | (with_reducible exact Nat.le_refl _) | omega | (simp; omega) | (simp; done)))

set_option maxHeartbeats 3200000 in
set_option maxRecDepth 100000 in
theorem rone_abs (NM : ByteArray) (P Q k p q : Int) (s : ByteArray) (r : Int) (w : World) (t0 : (NM.toList == [110, 117, 109, 98, 101, 114, 46, 97, 98, 115]) = true) (hp : -9223372036854775807 ≤ P) (hp' : P ≤ 9223372036854775807) (h0 : 0 ≤ P) (he : ofNumV P Q = vV k p q s r) :
    Calls Tryz.prog 47 #[.string NM, .agg #[.int .i64 P, .int .i64 Q]] w fun e w' => ActIs w.heap.size 1 0 k p q s r e w' ∧ Below w.heap.size w w' := by
  have HR := Lib.hid (rreturn_says k p q s r)
  have HV : Hid (∀ w', Calls Tryz.prog 72 #[.agg #[.int .i64 P, .int .i64 Q]] w' fun e w'' => e = .returned (vV k p q s r) ∧ Below w'.heap.size w' w'') := fun w' => by have h := rofnum_v P Q w' (by omega) (by omega); rw [he] at h; exact h
  have h1 : decide (P < 0) = false := by simp; omega
  clear he
  have fr0 := fun i => frozen_out w (w.heap.size) i (by omega)
  have fr1 := fun i => frozen_out w (w.heap.size + 1) i (by omega)
  go_enter Tryz.func47, Tryz.ntmps47
  go_wp2_with (first | (go_at_call 72; (with_reducible refine (HV.out _).mono ?_); rintro e w8 ⟨rfl, hb⟩; (refine mem hb ?_; intro N hN hz hc hf; (try simp at hN); subst hN)) | (go_at_call 44; refine (HR.out _ _ _ (cells5_at _ _ _ _ _ _ _ _ ?_)).mono ?_; (focus (simp; done)); rintro e w9 ⟨⟨g, cp, rfl, hg, hcl⟩, hb⟩; (refine mem hb ?_; intro N hN hz hc hf; (try simp at hN); subst hN)))
  ((try simp only [Exit.inBlock, Exit.then]); refine bodyPost_ret (by first | (simp [results, Tryz.results47, go_sem, *]; done) | (simp [results, Tryz.results47, go_sem, *]; rfl) | (simp [results, Tryz.results47, go_sem, ↓IntWalk.iteOmega, *]; try rfl)) rfl ?_)
  have s0 : w.heap.size + 2 ≤ w8.heap.size := by assumption
  have s1 : w8.heap.size + 1 ≤ g := by simpa using hg
  have hg3 : w.heap.size + 2 ≤ g := (upj 1 s0 s1)
  obtain ⟨g1, g2, g3⟩ := ups2 hg3
  refine ⟨act_set2 (hK := rfl) (hL := rfl) g3 g1 hcl, ?_⟩
  (repeat' (first | (with_reducible exact Below.refl _ _) | (with_reducible assumption) | (with_reducible refine Below.alloc ?_ ?_ _) | (with_reducible refine below_drewN ?_ _) | (with_reducible refine Below.drew ?_) | (with_reducible refine Below.setCell ?_ ?_ _) | (with_reducible refine below_via (by assumption) ?_ ?_) | (with_reducible refine below_via (later_below _) ?_ ?_) | (with_reducible exact Nat.le_refl _) | omega | (simp; omega) | (simp; done)))

set_option maxHeartbeats 3200000 in
set_option maxRecDepth 100000 in
theorem rone_abs_neg (NM : ByteArray) (P Q k p q : Int) (s : ByteArray) (r : Int) (w : World) (t0 : (NM.toList == [110, 117, 109, 98, 101, 114, 46, 97, 98, 115]) = true) (hp : -9223372036854775807 ≤ P) (hp' : P ≤ 9223372036854775807) (h0 : P < 0) (he : ofNumV (-P) Q = vV k p q s r) :
    Calls Tryz.prog 47 #[.string NM, .agg #[.int .i64 P, .int .i64 Q]] w fun e w' => ActIs w.heap.size 1 0 k p q s r e w' ∧ Below w.heap.size w w' := by
  have HR := Lib.hid (rreturn_says k p q s r)
  have HV : Hid (∀ w', Calls Tryz.prog 72 #[.agg #[.int .i64 (-P), .int .i64 Q]] w' fun e w'' => e = .returned (vV k p q s r) ∧ Below w'.heap.size w' w'') := fun w' => by have h := rofnum_v (-P) Q w' (by omega) (by omega); rw [he] at h; exact h
  have h1 : decide (P < 0) = true := by simpa using h0
  clear he
  have fr0 := fun i => frozen_out w (w.heap.size) i (by omega)
  have fr1 := fun i => frozen_out w (w.heap.size + 1) i (by omega)
  go_enter Tryz.func47, Tryz.ntmps47
  go_wp2_with (first | (go_at_call 72; (with_reducible refine (HV.out _).mono ?_); rintro e w8 ⟨rfl, hb⟩; (refine mem hb ?_; intro N hN hz hc hf; (try simp at hN); subst hN)) | (go_at_call 44; refine (HR.out _ _ _ (cells5_at _ _ _ _ _ _ _ _ ?_)).mono ?_; (focus (simp; done)); rintro e w9 ⟨⟨g, cp, rfl, hg, hcl⟩, hb⟩; (refine mem hb ?_; intro N hN hz hc hf; (try simp at hN); subst hN)))
  ((try simp only [Exit.inBlock, Exit.then]); refine bodyPost_ret (by first | (simp [results, Tryz.results47, go_sem, *]; done) | (simp [results, Tryz.results47, go_sem, *]; rfl) | (simp [results, Tryz.results47, go_sem, ↓IntWalk.iteOmega, *]; try rfl)) rfl ?_)
  have s0 : w.heap.size + 2 ≤ w8.heap.size := by assumption
  have s1 : w8.heap.size + 1 ≤ g := by simpa using hg
  have hg3 : w.heap.size + 2 ≤ g := (upj 1 s0 s1)
  obtain ⟨g1, g2, g3⟩ := ups2 hg3
  refine ⟨act_set2 (hK := rfl) (hL := rfl) g3 g1 hcl, ?_⟩
  (repeat' (first | (with_reducible exact Below.refl _ _) | (with_reducible assumption) | (with_reducible refine Below.alloc ?_ ?_ _) | (with_reducible refine below_drewN ?_ _) | (with_reducible refine Below.drew ?_) | (with_reducible refine Below.setCell ?_ ?_ _) | (with_reducible refine below_via (by assumption) ?_ ?_) | (with_reducible refine below_via (later_below _) ?_ ?_) | (with_reducible exact Nat.le_refl _) | omega | (simp; omega) | (simp; done)))

set_option maxHeartbeats 3200000 in
set_option maxRecDepth 100000 in
theorem rone_floor (NM : ByteArray) (P Q k p q : Int) (s : ByteArray) (r : Int) (w : World) (t0 : (NM.toList == [110, 117, 109, 98, 101, 114, 46, 97, 98, 115]) = false) (t2 : (NM.toList == [110, 117, 109, 98, 101, 114, 46, 99, 101, 105, 108]) = false) (t5 : (NM.toList == [110, 117, 109, 98, 101, 114, 46, 102, 108, 111, 111, 114]) = true) (hp : -9223372036854775808 ≤ P) (hp' : P ≤ 9223372036854775807) (hb1 : -9223372036854775808 ≤ (floorT P Q).1) (hb2 : (floorT P Q).1 ≤ 9223372036854775807) (he : ofNumV (floorT P Q).1 (floorT P Q).2.1 = vV k p q s r) :
    Calls Tryz.prog 47 #[.string NM, .agg #[.int .i64 P, .int .i64 Q]] w fun e w' => ActIs w.heap.size 1 0 k p q s r e w' ∧ Below w.heap.size w w' := by
  have HF : Hid (∀ w', Calls Tryz.prog 81 #[.agg #[.int .i64 P, .int .i64 Q]] w' fun e w'' => e = .returned (.tuple #[.agg #[.int .i64 (floorT P Q).1, .int .i64 (floorT P Q).2.1], .int .i64 (floorT P Q).2.2]) ∧ Below w'.heap.size w' w'') := fun w' => rflr_any P Q w' hp hp'
  have HR := Lib.hid (rreturn_says k p q s r)
  have HV : Hid (∀ w', Calls Tryz.prog 72 #[.agg #[.int .i64 (floorT P Q).1, .int .i64 (floorT P Q).2.1]] w' fun e w'' => e = .returned (vV k p q s r) ∧ Below w'.heap.size w' w'') := fun w' => by have h := rofnum_v (floorT P Q).1 (floorT P Q).2.1 w' hb1 hb2; rw [he] at h; exact h
  clear he hb1 hb2
  generalize (floorT P Q).1 = F1 at HF HV
  generalize (floorT P Q).2.1 = F2 at HF HV
  generalize (floorT P Q).2.2 = F3 at HF
  have fr0 := fun i => frozen_out w (w.heap.size) i (by omega)
  have fr1 := fun i => frozen_out w (w.heap.size + 1) i (by omega)
  go_enter Tryz.func47, Tryz.ntmps47
  go_wp2_with (first | (go_at_call 81; (with_reducible refine (HF.out _).mono ?_); rintro e w7 ⟨rfl, hb⟩; (refine mem hb ?_; intro N hN hz hc hf; (try simp at hN); subst hN)) | (go_at_call 72; (with_reducible refine (HV.out _).mono ?_); rintro e w8 ⟨rfl, hb⟩; (refine mem hb ?_; intro N hN hz hc hf; (try simp at hN); subst hN)) | (go_at_call 44; refine (HR.out _ _ _ (cells5_at _ _ _ _ _ _ _ _ ?_)).mono ?_; (focus (simp; done)); rintro e w9 ⟨⟨g, cp, rfl, hg, hcl⟩, hb⟩; (refine mem hb ?_; intro N hN hz hc hf; (try simp at hN); subst hN)))
  ((try simp only [Exit.inBlock, Exit.then]); refine bodyPost_ret (by first | (simp [results, Tryz.results47, go_sem, *]; done) | (simp [results, Tryz.results47, go_sem, *]; rfl) | (simp [results, Tryz.results47, go_sem, ↓IntWalk.iteOmega, *]; try rfl)) rfl ?_)
  have s0 : w.heap.size + 2 ≤ w7.heap.size := by assumption
  have s1 : w7.heap.size ≤ w8.heap.size := by assumption
  have s2 : w8.heap.size + 1 ≤ g := by simpa using hg
  have hg3 : w.heap.size + 2 ≤ g := (upj 1 (Nat.le_trans s0 s1) s2)
  obtain ⟨g1, g2, g3⟩ := ups2 hg3
  refine ⟨act_set2 (hK := rfl) (hL := rfl) g3 g1 hcl, ?_⟩
  (repeat' (first | (with_reducible exact Below.refl _ _) | (with_reducible assumption) | (with_reducible refine Below.alloc ?_ ?_ _) | (with_reducible refine below_drewN ?_ _) | (with_reducible refine Below.drew ?_) | (with_reducible refine Below.setCell ?_ ?_ _) | (with_reducible refine below_via (by assumption) ?_ ?_) | (with_reducible refine below_via (later_below _) ?_ ?_) | (with_reducible exact Nat.le_refl _) | omega | (simp; omega) | (simp; done)))

set_option maxHeartbeats 3200000 in
set_option maxRecDepth 100000 in
theorem rone_ceil (NM : ByteArray) (P Q k p q : Int) (s : ByteArray) (r : Int) (w : World) (t0 : (NM.toList == [110, 117, 109, 98, 101, 114, 46, 97, 98, 115]) = false) (t2 : (NM.toList == [110, 117, 109, 98, 101, 114, 46, 99, 101, 105, 108]) = true) (hp : -9223372036854775808 ≤ P) (hp' : P ≤ 9223372036854775807) (hb1 : -9223372036854775808 ≤ (ceilT P Q).1) (hb2 : (ceilT P Q).1 ≤ 9223372036854775807) (he : ofNumV (ceilT P Q).1 (ceilT P Q).2.1 = vV k p q s r) :
    Calls Tryz.prog 47 #[.string NM, .agg #[.int .i64 P, .int .i64 Q]] w fun e w' => ActIs w.heap.size 1 0 k p q s r e w' ∧ Below w.heap.size w w' := by
  have HF : Hid (∀ w', Calls Tryz.prog 80 #[.agg #[.int .i64 P, .int .i64 Q]] w' fun e w'' => e = .returned (.tuple #[.agg #[.int .i64 (ceilT P Q).1, .int .i64 (ceilT P Q).2.1], .int .i64 (ceilT P Q).2.2]) ∧ Below w'.heap.size w' w'') := fun w' => rceil_any P Q w' hp hp'
  have HR := Lib.hid (rreturn_says k p q s r)
  have HV : Hid (∀ w', Calls Tryz.prog 72 #[.agg #[.int .i64 (ceilT P Q).1, .int .i64 (ceilT P Q).2.1]] w' fun e w'' => e = .returned (vV k p q s r) ∧ Below w'.heap.size w' w'') := fun w' => by have h := rofnum_v (ceilT P Q).1 (ceilT P Q).2.1 w' hb1 hb2; rw [he] at h; exact h
  clear he hb1 hb2
  generalize (ceilT P Q).1 = F1 at HF HV
  generalize (ceilT P Q).2.1 = F2 at HF HV
  generalize (ceilT P Q).2.2 = F3 at HF
  have fr0 := fun i => frozen_out w (w.heap.size) i (by omega)
  have fr1 := fun i => frozen_out w (w.heap.size + 1) i (by omega)
  go_enter Tryz.func47, Tryz.ntmps47
  go_wp2_with (first | (go_at_call 80; (with_reducible refine (HF.out _).mono ?_); rintro e w7 ⟨rfl, hb⟩; (refine mem hb ?_; intro N hN hz hc hf; (try simp at hN); subst hN)) | (go_at_call 72; (with_reducible refine (HV.out _).mono ?_); rintro e w8 ⟨rfl, hb⟩; (refine mem hb ?_; intro N hN hz hc hf; (try simp at hN); subst hN)) | (go_at_call 44; refine (HR.out _ _ _ (cells5_at _ _ _ _ _ _ _ _ ?_)).mono ?_; (focus (simp; done)); rintro e w9 ⟨⟨g, cp, rfl, hg, hcl⟩, hb⟩; (refine mem hb ?_; intro N hN hz hc hf; (try simp at hN); subst hN)))
  ((try simp only [Exit.inBlock, Exit.then]); refine bodyPost_ret (by first | (simp [results, Tryz.results47, go_sem, *]; done) | (simp [results, Tryz.results47, go_sem, *]; rfl) | (simp [results, Tryz.results47, go_sem, ↓IntWalk.iteOmega, *]; try rfl)) rfl ?_)
  have s0 : w.heap.size + 2 ≤ w7.heap.size := by assumption
  have s1 : w7.heap.size ≤ w8.heap.size := by assumption
  have s2 : w8.heap.size + 1 ≤ g := by simpa using hg
  have hg3 : w.heap.size + 2 ≤ g := (upj 1 (Nat.le_trans s0 s1) s2)
  obtain ⟨g1, g2, g3⟩ := ups2 hg3
  refine ⟨act_set2 (hK := rfl) (hL := rfl) g3 g1 hcl, ?_⟩
  (repeat' (first | (with_reducible exact Below.refl _ _) | (with_reducible assumption) | (with_reducible refine Below.alloc ?_ ?_ _) | (with_reducible refine below_drewN ?_ _) | (with_reducible refine Below.drew ?_) | (with_reducible refine Below.setCell ?_ ?_ _) | (with_reducible refine below_via (by assumption) ?_ ?_) | (with_reducible refine below_via (later_below _) ?_ ?_) | (with_reducible exact Nat.le_refl _) | omega | (simp; omega) | (simp; done)))

end Go.Proofs.YtfclmnglckikbaaGreatDoor

/- The reference's fixed and base: what each call returns. -/
namespace Go.Proofs.YtfclmnglckikbaaGreatDoor
open Go.RowKit Go.Instr
set_option linter.unusedVariables false

set_option maxHeartbeats 3200000 in
set_option maxRecDepth 100000 in
theorem rfixed_bad1 (NM : ByteArray) (a : Option Addr) (n cap : Nat) (m : ByteArray) (w : World) (hn : RNumBad w NM a n cap 0 m) :
    Calls Tryz.prog 41 #[.string NM, .slice a n cap] w fun e w' => ActIs w.heap.size 2 1 3 0 0 m 0 e w' ∧ Below w.heap.size w w' := by
  have HN := Lib.hid hn
  clear hn
  have fr0 := fun i => frozen_out w (w.heap.size) i (by omega)
  go_enter Tryz.func41, Tryz.ntmps41
  go_wp2_with (first | (go_at_call 46; (with_reducible refine (HN.out _ ?_).mono ?_); (focus ((repeat' (first | (with_reducible exact Below.refl _ _) | (with_reducible assumption) | (with_reducible refine Below.alloc ?_ ?_ _) | (with_reducible refine below_drewN ?_ _) | (with_reducible refine Below.drew ?_) | (with_reducible refine Below.setCell ?_ ?_ _) | (with_reducible refine below_via (by assumption) ?_ ?_) | (with_reducible refine below_via (later_below _) ?_ ?_) | (with_reducible exact Nat.le_refl _) | omega | (simp; omega) | (simp; done))))); rintro e w8 ⟨⟨g, cp, rfl, hg, hcl⟩, hb⟩; (refine mem hb ?_; intro N hN hz hc hf; (try simp at hN); subst hN)))
  ((try simp only [Exit.inBlock, Exit.then]); refine bodyPost_ret (by first | (simp [results, Tryz.results41, go_sem, *]; done) | (simp [results, Tryz.results41, go_sem, *]; rfl) | (simp [results, Tryz.results41, go_sem, ↓IntWalk.iteOmega, *]; try rfl)) rfl ?_)
  have s0 : w.heap.size + 1 ≤ g := by simpa using hg
  have hg3 : w.heap.size + 1 ≤ g := s0
  obtain ⟨g1, g2, g3⟩ := ups1 hg3
  refine ⟨act_set2 (hK := rfl) (hL := rfl) g2 g1 (hcl.below ?_), ?_⟩
  · (repeat' (first | (with_reducible exact Below.refl _ _) | (with_reducible assumption) | (with_reducible refine Below.alloc ?_ ?_ _) | (with_reducible refine below_drewN ?_ _) | (with_reducible refine Below.drew ?_) | (with_reducible refine Below.setCell ?_ ?_ _) | (with_reducible refine below_via (by assumption) ?_ ?_) | (with_reducible refine below_via (later_below _) ?_ ?_) | (with_reducible exact Nat.le_refl _) | omega | (simp; omega) | (simp; done)))
  · (repeat' (first | (with_reducible exact Below.refl _ _) | (with_reducible assumption) | (with_reducible refine Below.alloc ?_ ?_ _) | (with_reducible refine below_drewN ?_ _) | (with_reducible refine Below.drew ?_) | (with_reducible refine Below.setCell ?_ ?_ _) | (with_reducible refine below_via (by assumption) ?_ ?_) | (with_reducible refine below_via (later_below _) ?_ ?_) | (with_reducible exact Nat.le_refl _) | omega | (simp; omega) | (simp; done)))

set_option maxHeartbeats 3200000 in
set_option maxRecDepth 100000 in
theorem rfixed_bad2 (NM : ByteArray) (a : Option Addr) (n cap : Nat) (P Q : Int) (m : ByteArray) (w : World) (hn : RNumOk w NM a n cap 0 P Q) (hi : RIntBad w NM a n cap 1 0 m) :
    Calls Tryz.prog 41 #[.string NM, .slice a n cap] w fun e w' => ActIs w.heap.size 2 1 3 0 0 m 0 e w' ∧ Below w.heap.size w w' := by
  have HN := Lib.hid hn
  have HI := Lib.hid hi
  clear hn hi
  have fr0 := fun i => frozen_out w (w.heap.size) i (by omega)
  go_enter Tryz.func41, Tryz.ntmps41
  go_wp2_with (first | (go_at_call 46; (with_reducible refine (HN.out _ ?_).mono ?_); (focus ((repeat' (first | (with_reducible exact Below.refl _ _) | (with_reducible assumption) | (with_reducible refine Below.alloc ?_ ?_ _) | (with_reducible refine below_drewN ?_ _) | (with_reducible refine Below.drew ?_) | (with_reducible refine Below.setCell ?_ ?_ _) | (with_reducible refine below_via (by assumption) ?_ ?_) | (with_reducible refine below_via (later_below _) ?_ ?_) | (with_reducible exact Nat.le_refl _) | omega | (simp; omega) | (simp; done))))); rintro e w8 ⟨rfl, hb⟩; (refine mem hb ?_; intro N hN hz hc hf; (try simp at hN); subst hN)) | (go_at_call 73; (with_reducible refine (HI.out _ ?_).mono ?_); (focus ((repeat' (first | (with_reducible exact Below.refl _ _) | (with_reducible assumption) | (with_reducible refine Below.alloc ?_ ?_ _) | (with_reducible refine below_drewN ?_ _) | (with_reducible refine Below.drew ?_) | (with_reducible refine Below.setCell ?_ ?_ _) | (with_reducible refine below_via (by assumption) ?_ ?_) | (with_reducible refine below_via (later_below _) ?_ ?_) | (with_reducible exact Nat.le_refl _) | omega | (simp; omega) | (simp; done))))); rintro e w7 ⟨⟨g, cp, rfl, hg, hcl⟩, hb⟩; (refine mem hb ?_; intro N hN hz hc hf; (try simp at hN); subst hN)))
  ((try simp only [Exit.inBlock, Exit.then]); refine bodyPost_ret (by first | (simp [results, Tryz.results41, go_sem, *]; done) | (simp [results, Tryz.results41, go_sem, *]; rfl) | (simp [results, Tryz.results41, go_sem, ↓IntWalk.iteOmega, *]; try rfl)) rfl ?_)
  have s0 : w.heap.size + 1 ≤ w8.heap.size := by assumption
  have s1 : w8.heap.size + 2 ≤ g := by simpa using hg
  have hg3 : w.heap.size + 1 ≤ g := (upj 2 s0 s1)
  obtain ⟨g1, g2, g3⟩ := ups1 hg3
  refine ⟨act_set2 (hK := rfl) (hL := rfl) g2 g1 (hcl.below ?_), ?_⟩
  · (repeat' (first | (with_reducible exact Below.refl _ _) | (with_reducible assumption) | (with_reducible refine Below.alloc ?_ ?_ _) | (with_reducible refine below_drewN ?_ _) | (with_reducible refine Below.drew ?_) | (with_reducible refine Below.setCell ?_ ?_ _) | (with_reducible refine below_via (by assumption) ?_ ?_) | (with_reducible refine below_via (later_below _) ?_ ?_) | (with_reducible exact Nat.le_refl _) | omega | (simp; omega) | (simp; done)))
  · (repeat' (first | (with_reducible exact Below.refl _ _) | (with_reducible assumption) | (with_reducible refine Below.alloc ?_ ?_ _) | (with_reducible refine below_drewN ?_ _) | (with_reducible refine Below.drew ?_) | (with_reducible refine Below.setCell ?_ ?_ _) | (with_reducible refine below_via (by assumption) ?_ ?_) | (with_reducible refine below_via (later_below _) ?_ ?_) | (with_reducible exact Nat.le_refl _) | omega | (simp; omega) | (simp; done)))

set_option maxHeartbeats 3200000 in
set_option maxRecDepth 100000 in
theorem rfixed_bad3 (NM : ByteArray) (a : Option Addr) (n cap : Nat) (P Q N E : Int) (S m : ByteArray) (w : World) (hn : RNumOk w NM a n cap 0 P Q) (hi : RIntOk w NM a n cap 1 0 N) (hf : ∀ w', Below w.heap.size w w' → Calls Tryz.prog 74 #[.agg #[.int .i64 P, .int .i64 Q], .int .i64 N] w' fun e w'' => e = .returned (.tuple #[.string S, .int .i64 E]) ∧ Below w'.heap.size w' w'') (hE : ¬ E = 0) (hb : RBadSays w NM 1 oorS m) :
    Calls Tryz.prog 41 #[.string NM, .slice a n cap] w fun e w' => ActIs w.heap.size 2 1 3 0 0 m 0 e w' ∧ Below w.heap.size w w' := by
  have HN := Lib.hid hn
  have HI := Lib.hid hi
  have HF := Lib.hid hf
  have HB := Lib.hid hb
  have hE2 : (E != 0) = true := by simpa using hE
  unfold oorS at HB
  clear hn hi hf hE hb
  have fr0 := fun i => frozen_out w (w.heap.size) i (by omega)
  go_enter Tryz.func41, Tryz.ntmps41
  go_wp2_with (first | (go_at_call 46; (with_reducible refine (HN.out _ ?_).mono ?_); (focus ((repeat' (first | (with_reducible exact Below.refl _ _) | (with_reducible assumption) | (with_reducible refine Below.alloc ?_ ?_ _) | (with_reducible refine below_drewN ?_ _) | (with_reducible refine Below.drew ?_) | (with_reducible refine Below.setCell ?_ ?_ _) | (with_reducible refine below_via (by assumption) ?_ ?_) | (with_reducible refine below_via (later_below _) ?_ ?_) | (with_reducible exact Nat.le_refl _) | omega | (simp; omega) | (simp; done))))); rintro e w8 ⟨rfl, hb⟩; (refine mem hb ?_; intro N hN hz hc hf; (try simp at hN); subst hN)) | (go_at_call 73; (with_reducible refine (HI.out _ ?_).mono ?_); (focus ((repeat' (first | (with_reducible exact Below.refl _ _) | (with_reducible assumption) | (with_reducible refine Below.alloc ?_ ?_ _) | (with_reducible refine below_drewN ?_ _) | (with_reducible refine Below.drew ?_) | (with_reducible refine Below.setCell ?_ ?_ _) | (with_reducible refine below_via (by assumption) ?_ ?_) | (with_reducible refine below_via (later_below _) ?_ ?_) | (with_reducible exact Nat.le_refl _) | omega | (simp; omega) | (simp; done))))); rintro e w7 ⟨rfl, hb⟩; (refine mem hb ?_; intro N hN hz hc hf; (try simp at hN); subst hN)) | (go_at_call 74; (with_reducible refine (HF.out _ ?_).mono ?_); (focus ((repeat' (first | (with_reducible exact Below.refl _ _) | (with_reducible assumption) | (with_reducible refine Below.alloc ?_ ?_ _) | (with_reducible refine below_drewN ?_ _) | (with_reducible refine Below.drew ?_) | (with_reducible refine Below.setCell ?_ ?_ _) | (with_reducible refine below_via (by assumption) ?_ ?_) | (with_reducible refine below_via (later_below _) ?_ ?_) | (with_reducible exact Nat.le_refl _) | omega | (simp; omega) | (simp; done))))); rintro e w6 ⟨rfl, hb⟩; (refine mem hb ?_; intro N hN hz hc hf; (try simp at hN); subst hN)) | (go_at_call 75; (with_reducible refine (HB.out _ ?_).mono ?_); (focus ((repeat' (first | (with_reducible exact Below.refl _ _) | (with_reducible assumption) | (with_reducible refine Below.alloc ?_ ?_ _) | (with_reducible refine below_drewN ?_ _) | (with_reducible refine Below.drew ?_) | (with_reducible refine Below.setCell ?_ ?_ _) | (with_reducible refine below_via (by assumption) ?_ ?_) | (with_reducible refine below_via (later_below _) ?_ ?_) | (with_reducible exact Nat.le_refl _) | omega | (simp; omega) | (simp; done))))); rintro e w9 ⟨⟨g, cp, rfl, hg, hcl⟩, hb⟩; (refine mem hb ?_; intro N hN hz hc hf; (try simp at hN); subst hN)))
  ((try simp only [Exit.inBlock, Exit.then]); refine bodyPost_ret (by first | (simp [results, Tryz.results41, go_sem, *]; done) | (simp [results, Tryz.results41, go_sem, *]; rfl) | (simp [results, Tryz.results41, go_sem, ↓IntWalk.iteOmega, *]; try rfl)) rfl ?_)
  have s0 : w.heap.size + 1 ≤ w8.heap.size := by assumption
  have s1 : w8.heap.size + 2 ≤ w7.heap.size := by assumption
  have s2 : w7.heap.size + 1 ≤ w6.heap.size := by assumption
  have s3 : w6.heap.size ≤ g := by simpa using hg
  have hg3 : w.heap.size + 1 ≤ g := (Nat.le_trans (upj 1 (upj 2 s0 s1) s2) s3)
  obtain ⟨g1, g2, g3⟩ := ups1 hg3
  refine ⟨act_set2 (hK := rfl) (hL := rfl) g2 g1 ?_, ?_⟩
  · first | exact hcl | (refine hcl.below ?_; (repeat' (first | (with_reducible exact Below.refl _ _) | (with_reducible assumption) | (with_reducible refine Below.alloc ?_ ?_ _) | (with_reducible refine below_drewN ?_ _) | (with_reducible refine Below.drew ?_) | (with_reducible refine Below.setCell ?_ ?_ _) | (with_reducible refine below_via (by assumption) ?_ ?_) | (with_reducible refine below_via (later_below _) ?_ ?_) | (with_reducible exact Nat.le_refl _) | omega | (simp; omega) | (simp; done))))
  · (repeat' (first | (with_reducible exact Below.refl _ _) | (with_reducible assumption) | (with_reducible refine Below.alloc ?_ ?_ _) | (with_reducible refine below_drewN ?_ _) | (with_reducible refine Below.drew ?_) | (with_reducible refine Below.setCell ?_ ?_ _) | (with_reducible refine below_via (by assumption) ?_ ?_) | (with_reducible refine below_via (later_below _) ?_ ?_) | (with_reducible exact Nat.le_refl _) | omega | (simp; omega) | (simp; done)))

set_option maxHeartbeats 3200000 in
set_option maxRecDepth 100000 in
theorem rfixed_ok (NM : ByteArray) (a : Option Addr) (n cap : Nat) (P Q N : Int) (S : ByteArray) (w : World) (hn : RNumOk w NM a n cap 0 P Q) (hi : RIntOk w NM a n cap 1 0 N) (hf : ∀ w', Below w.heap.size w w' → Calls Tryz.prog 74 #[.agg #[.int .i64 P, .int .i64 Q], .int .i64 N] w' fun e w'' => e = .returned (.tuple #[.string S, .int .i64 0]) ∧ Below w'.heap.size w' w'') :
    Calls Tryz.prog 41 #[.string NM, .slice a n cap] w fun e w' => ActIs w.heap.size 1 0 3 0 0 S 0 e w' ∧ Below w.heap.size w w' := by
  have HN := Lib.hid hn
  have HI := Lib.hid hi
  have HF := Lib.hid hf
  have HS : Hid (∀ s w', Calls Tryz.prog 45 #[.string s] w' fun e w'' => e = .returned (vV 3 0 0 s 0) ∧ Below w'.heap.size w' w'') := fun s w' => rofstr_v s w'
  have HR := Lib.hid (rreturn_says 3 0 0 S 0)
  clear hn hi hf
  have fr0 := fun i => frozen_out w (w.heap.size) i (by omega)
  go_enter Tryz.func41, Tryz.ntmps41
  go_wp2_with (first | (go_at_call 46; (with_reducible refine (HN.out _ ?_).mono ?_); (focus ((repeat' (first | (with_reducible exact Below.refl _ _) | (with_reducible assumption) | (with_reducible refine Below.alloc ?_ ?_ _) | (with_reducible refine below_drewN ?_ _) | (with_reducible refine Below.drew ?_) | (with_reducible refine Below.setCell ?_ ?_ _) | (with_reducible refine below_via (by assumption) ?_ ?_) | (with_reducible refine below_via (later_below _) ?_ ?_) | (with_reducible exact Nat.le_refl _) | omega | (simp; omega) | (simp; done))))); rintro e w8 ⟨rfl, hb⟩; (refine mem hb ?_; intro N hN hz hc hf; (try simp at hN); subst hN)) | (go_at_call 73; (with_reducible refine (HI.out _ ?_).mono ?_); (focus ((repeat' (first | (with_reducible exact Below.refl _ _) | (with_reducible assumption) | (with_reducible refine Below.alloc ?_ ?_ _) | (with_reducible refine below_drewN ?_ _) | (with_reducible refine Below.drew ?_) | (with_reducible refine Below.setCell ?_ ?_ _) | (with_reducible refine below_via (by assumption) ?_ ?_) | (with_reducible refine below_via (later_below _) ?_ ?_) | (with_reducible exact Nat.le_refl _) | omega | (simp; omega) | (simp; done))))); rintro e w7 ⟨rfl, hb⟩; (refine mem hb ?_; intro N hN hz hc hf; (try simp at hN); subst hN)) | (go_at_call 74; (with_reducible refine (HF.out _ ?_).mono ?_); (focus ((repeat' (first | (with_reducible exact Below.refl _ _) | (with_reducible assumption) | (with_reducible refine Below.alloc ?_ ?_ _) | (with_reducible refine below_drewN ?_ _) | (with_reducible refine Below.drew ?_) | (with_reducible refine Below.setCell ?_ ?_ _) | (with_reducible refine below_via (by assumption) ?_ ?_) | (with_reducible refine below_via (later_below _) ?_ ?_) | (with_reducible exact Nat.le_refl _) | omega | (simp; omega) | (simp; done))))); rintro e w6 ⟨rfl, hb⟩; (refine mem hb ?_; intro N hN hz hc hf; (try simp at hN); subst hN)) | (go_at_call 45; (with_reducible refine (HS.out _ _).mono ?_); rintro e w5 ⟨rfl, hb⟩; (refine mem hb ?_; intro N hN hz hc hf; (try simp at hN); subst hN)) | (go_at_call 44; refine (HR.out _ _ _ (cells5_at _ _ _ _ _ _ _ _ ?_)).mono ?_; (focus (simp; done)); rintro e w9 ⟨⟨g, cp, rfl, hg, hcl⟩, hb⟩; (refine mem hb ?_; intro N hN hz hc hf; (try simp at hN); subst hN)))
  ((try simp only [Exit.inBlock, Exit.then]); refine bodyPost_ret (by first | (simp [results, Tryz.results41, go_sem, *]; done) | (simp [results, Tryz.results41, go_sem, *]; rfl) | (simp [results, Tryz.results41, go_sem, ↓IntWalk.iteOmega, *]; try rfl)) rfl ?_)
  have s0 : w.heap.size + 1 ≤ w8.heap.size := by assumption
  have s1 : w8.heap.size + 2 ≤ w7.heap.size := by assumption
  have s2 : w7.heap.size + 1 ≤ w6.heap.size := by assumption
  have s3 : w6.heap.size ≤ w5.heap.size := by assumption
  have s4 : w5.heap.size + 1 ≤ g := by simpa using hg
  have hg3 : w.heap.size + 1 ≤ g := (upj 1 (Nat.le_trans (upj 1 (upj 2 s0 s1) s2) s3) s4)
  obtain ⟨g1, g2, g3⟩ := ups1 hg3
  refine ⟨act_set2 (hK := rfl) (hL := rfl) g2 g1 hcl, ?_⟩
  (repeat' (first | (with_reducible exact Below.refl _ _) | (with_reducible assumption) | (with_reducible refine Below.alloc ?_ ?_ _) | (with_reducible refine below_drewN ?_ _) | (with_reducible refine Below.drew ?_) | (with_reducible refine Below.setCell ?_ ?_ _) | (with_reducible refine below_via (by assumption) ?_ ?_) | (with_reducible refine below_via (later_below _) ?_ ?_) | (with_reducible exact Nat.le_refl _) | omega | (simp; omega) | (simp; done)))

set_option maxHeartbeats 3200000 in
set_option maxRecDepth 100000 in
theorem rbase_bad1 (NM : ByteArray) (a : Option Addr) (n cap : Nat) (m : ByteArray) (w : World) (hn : RIntBad w NM a n cap 0 0 m) :
    Calls Tryz.prog 42 #[.string NM, .slice a n cap] w fun e w' => ActIs w.heap.size 2 1 3 0 0 m 0 e w' ∧ Below w.heap.size w w' := by
  have HN := Lib.hid hn
  clear hn
  have fr0 := fun i => frozen_out w (w.heap.size) i (by omega)
  go_enter Tryz.func42, Tryz.ntmps42
  go_wp2_with (first | (go_at_call 73; (with_reducible refine (HN.out _ ?_).mono ?_); (focus ((repeat' (first | (with_reducible exact Below.refl _ _) | (with_reducible assumption) | (with_reducible refine Below.alloc ?_ ?_ _) | (with_reducible refine below_drewN ?_ _) | (with_reducible refine Below.drew ?_) | (with_reducible refine Below.setCell ?_ ?_ _) | (with_reducible refine below_via (by assumption) ?_ ?_) | (with_reducible refine below_via (later_below _) ?_ ?_) | (with_reducible exact Nat.le_refl _) | omega | (simp; omega) | (simp; done))))); rintro e w8 ⟨⟨g, cp, rfl, hg, hcl⟩, hb⟩; (refine mem hb ?_; intro N hN hz hc hf; (try simp at hN); subst hN)))
  ((try simp only [Exit.inBlock, Exit.then]); refine bodyPost_ret (by first | (simp [results, Tryz.results42, go_sem, *]; done) | (simp [results, Tryz.results42, go_sem, *]; rfl) | (simp [results, Tryz.results42, go_sem, ↓IntWalk.iteOmega, *]; try rfl)) rfl ?_)
  have s0 : w.heap.size + 1 ≤ g := by simpa using hg
  have hg3 : w.heap.size + 1 ≤ g := s0
  obtain ⟨g1, g2, g3⟩ := ups1 hg3
  refine ⟨act_set2 (hK := rfl) (hL := rfl) g2 g1 (hcl.below ?_), ?_⟩
  · (repeat' (first | (with_reducible exact Below.refl _ _) | (with_reducible assumption) | (with_reducible refine Below.alloc ?_ ?_ _) | (with_reducible refine below_drewN ?_ _) | (with_reducible refine Below.drew ?_) | (with_reducible refine Below.setCell ?_ ?_ _) | (with_reducible refine below_via (by assumption) ?_ ?_) | (with_reducible refine below_via (later_below _) ?_ ?_) | (with_reducible exact Nat.le_refl _) | omega | (simp; omega) | (simp; done)))
  · (repeat' (first | (with_reducible exact Below.refl _ _) | (with_reducible assumption) | (with_reducible refine Below.alloc ?_ ?_ _) | (with_reducible refine below_drewN ?_ _) | (with_reducible refine Below.drew ?_) | (with_reducible refine Below.setCell ?_ ?_ _) | (with_reducible refine below_via (by assumption) ?_ ?_) | (with_reducible refine below_via (later_below _) ?_ ?_) | (with_reducible exact Nat.le_refl _) | omega | (simp; omega) | (simp; done)))

set_option maxHeartbeats 3200000 in
set_option maxRecDepth 100000 in
theorem rbase_bad2 (NM : ByteArray) (a : Option Addr) (n cap : Nat) (P : Int) (m : ByteArray) (w : World) (hn : RIntOk w NM a n cap 0 0 P) (hi : RIntBad w NM a n cap 1 10 m) :
    Calls Tryz.prog 42 #[.string NM, .slice a n cap] w fun e w' => ActIs w.heap.size 2 1 3 0 0 m 0 e w' ∧ Below w.heap.size w w' := by
  have HN := Lib.hid hn
  have HI := Lib.hid hi
  clear hn hi
  have fr0 := fun i => frozen_out w (w.heap.size) i (by omega)
  go_enter Tryz.func42, Tryz.ntmps42
  go_wp2_with (first | (go_at_call 73; (with_reducible refine (HN.out _ ?_).mono ?_); (focus ((repeat' (first | (with_reducible exact Below.refl _ _) | (with_reducible assumption) | (with_reducible refine Below.alloc ?_ ?_ _) | (with_reducible refine below_drewN ?_ _) | (with_reducible refine Below.drew ?_) | (with_reducible refine Below.setCell ?_ ?_ _) | (with_reducible refine below_via (by assumption) ?_ ?_) | (with_reducible refine below_via (later_below _) ?_ ?_) | (with_reducible exact Nat.le_refl _) | omega | (simp; omega) | (simp; done))))); rintro e w8 ⟨rfl, hb⟩; (refine mem hb ?_; intro N hN hz hc hf; (try simp at hN); subst hN)) | (go_at_call 73; (with_reducible refine (HI.out _ ?_).mono ?_); (focus ((repeat' (first | (with_reducible exact Below.refl _ _) | (with_reducible assumption) | (with_reducible refine Below.alloc ?_ ?_ _) | (with_reducible refine below_drewN ?_ _) | (with_reducible refine Below.drew ?_) | (with_reducible refine Below.setCell ?_ ?_ _) | (with_reducible refine below_via (by assumption) ?_ ?_) | (with_reducible refine below_via (later_below _) ?_ ?_) | (with_reducible exact Nat.le_refl _) | omega | (simp; omega) | (simp; done))))); rintro e w7 ⟨⟨g, cp, rfl, hg, hcl⟩, hb⟩; (refine mem hb ?_; intro N hN hz hc hf; (try simp at hN); subst hN)))
  ((try simp only [Exit.inBlock, Exit.then]); refine bodyPost_ret (by first | (simp [results, Tryz.results42, go_sem, *]; done) | (simp [results, Tryz.results42, go_sem, *]; rfl) | (simp [results, Tryz.results42, go_sem, ↓IntWalk.iteOmega, *]; try rfl)) rfl ?_)
  have s0 : w.heap.size + 1 ≤ w8.heap.size := by assumption
  have s1 : w8.heap.size + 1 ≤ g := by simpa using hg
  have hg3 : w.heap.size + 1 ≤ g := (upj 1 s0 s1)
  obtain ⟨g1, g2, g3⟩ := ups1 hg3
  refine ⟨act_set2 (hK := rfl) (hL := rfl) g2 g1 (hcl.below ?_), ?_⟩
  · (repeat' (first | (with_reducible exact Below.refl _ _) | (with_reducible assumption) | (with_reducible refine Below.alloc ?_ ?_ _) | (with_reducible refine below_drewN ?_ _) | (with_reducible refine Below.drew ?_) | (with_reducible refine Below.setCell ?_ ?_ _) | (with_reducible refine below_via (by assumption) ?_ ?_) | (with_reducible refine below_via (later_below _) ?_ ?_) | (with_reducible exact Nat.le_refl _) | omega | (simp; omega) | (simp; done)))
  · (repeat' (first | (with_reducible exact Below.refl _ _) | (with_reducible assumption) | (with_reducible refine Below.alloc ?_ ?_ _) | (with_reducible refine below_drewN ?_ _) | (with_reducible refine Below.drew ?_) | (with_reducible refine Below.setCell ?_ ?_ _) | (with_reducible refine below_via (by assumption) ?_ ?_) | (with_reducible refine below_via (later_below _) ?_ ?_) | (with_reducible exact Nat.le_refl _) | omega | (simp; omega) | (simp; done)))

set_option maxHeartbeats 3200000 in
set_option maxRecDepth 100000 in
theorem rbase_bad3 (NM : ByteArray) (a : Option Addr) (n cap : Nat) (P N E : Int) (S m : ByteArray) (w : World) (hn : RIntOk w NM a n cap 0 0 P) (hi : RIntOk w NM a n cap 1 10 N) (hf : ∀ w', Below w.heap.size w w' → Calls Tryz.prog 76 #[.int .i64 P, .int .i64 N] w' fun e w'' => e = .returned (.tuple #[.string S, .int .i64 E]) ∧ Below w'.heap.size w' w'') (hE : ¬ E = 0) (hb : RBadSays w NM 1 oorS m) :
    Calls Tryz.prog 42 #[.string NM, .slice a n cap] w fun e w' => ActIs w.heap.size 2 1 3 0 0 m 0 e w' ∧ Below w.heap.size w w' := by
  have HN := Lib.hid hn
  have HI := Lib.hid hi
  have HF := Lib.hid hf
  have HB := Lib.hid hb
  have hE2 : (E != 0) = true := by simpa using hE
  unfold oorS at HB
  clear hn hi hf hE hb
  have fr0 := fun i => frozen_out w (w.heap.size) i (by omega)
  go_enter Tryz.func42, Tryz.ntmps42
  go_wp2_with (first | (go_at_call 73; (with_reducible refine (HN.out _ ?_).mono ?_); (focus ((repeat' (first | (with_reducible exact Below.refl _ _) | (with_reducible assumption) | (with_reducible refine Below.alloc ?_ ?_ _) | (with_reducible refine below_drewN ?_ _) | (with_reducible refine Below.drew ?_) | (with_reducible refine Below.setCell ?_ ?_ _) | (with_reducible refine below_via (by assumption) ?_ ?_) | (with_reducible refine below_via (later_below _) ?_ ?_) | (with_reducible exact Nat.le_refl _) | omega | (simp; omega) | (simp; done))))); rintro e w8 ⟨rfl, hb⟩; (refine mem hb ?_; intro N hN hz hc hf; (try simp at hN); subst hN)) | (go_at_call 73; (with_reducible refine (HI.out _ ?_).mono ?_); (focus ((repeat' (first | (with_reducible exact Below.refl _ _) | (with_reducible assumption) | (with_reducible refine Below.alloc ?_ ?_ _) | (with_reducible refine below_drewN ?_ _) | (with_reducible refine Below.drew ?_) | (with_reducible refine Below.setCell ?_ ?_ _) | (with_reducible refine below_via (by assumption) ?_ ?_) | (with_reducible refine below_via (later_below _) ?_ ?_) | (with_reducible exact Nat.le_refl _) | omega | (simp; omega) | (simp; done))))); rintro e w7 ⟨rfl, hb⟩; (refine mem hb ?_; intro N hN hz hc hf; (try simp at hN); subst hN)) | (go_at_call 76; (with_reducible refine (HF.out _ ?_).mono ?_); (focus ((repeat' (first | (with_reducible exact Below.refl _ _) | (with_reducible assumption) | (with_reducible refine Below.alloc ?_ ?_ _) | (with_reducible refine below_drewN ?_ _) | (with_reducible refine Below.drew ?_) | (with_reducible refine Below.setCell ?_ ?_ _) | (with_reducible refine below_via (by assumption) ?_ ?_) | (with_reducible refine below_via (later_below _) ?_ ?_) | (with_reducible exact Nat.le_refl _) | omega | (simp; omega) | (simp; done))))); rintro e w6 ⟨rfl, hb⟩; (refine mem hb ?_; intro N hN hz hc hf; (try simp at hN); subst hN)) | (go_at_call 75; (with_reducible refine (HB.out _ ?_).mono ?_); (focus ((repeat' (first | (with_reducible exact Below.refl _ _) | (with_reducible assumption) | (with_reducible refine Below.alloc ?_ ?_ _) | (with_reducible refine below_drewN ?_ _) | (with_reducible refine Below.drew ?_) | (with_reducible refine Below.setCell ?_ ?_ _) | (with_reducible refine below_via (by assumption) ?_ ?_) | (with_reducible refine below_via (later_below _) ?_ ?_) | (with_reducible exact Nat.le_refl _) | omega | (simp; omega) | (simp; done))))); rintro e w9 ⟨⟨g, cp, rfl, hg, hcl⟩, hb⟩; (refine mem hb ?_; intro N hN hz hc hf; (try simp at hN); subst hN)))
  ((try simp only [Exit.inBlock, Exit.then]); refine bodyPost_ret (by first | (simp [results, Tryz.results42, go_sem, *]; done) | (simp [results, Tryz.results42, go_sem, *]; rfl) | (simp [results, Tryz.results42, go_sem, ↓IntWalk.iteOmega, *]; try rfl)) rfl ?_)
  have s0 : w.heap.size + 1 ≤ w8.heap.size := by assumption
  have s1 : w8.heap.size + 1 ≤ w7.heap.size := by assumption
  have s2 : w7.heap.size + 1 ≤ w6.heap.size := by assumption
  have s3 : w6.heap.size ≤ g := by simpa using hg
  have hg3 : w.heap.size + 1 ≤ g := (Nat.le_trans (upj 1 (upj 1 s0 s1) s2) s3)
  obtain ⟨g1, g2, g3⟩ := ups1 hg3
  refine ⟨act_set2 (hK := rfl) (hL := rfl) g2 g1 ?_, ?_⟩
  · first | exact hcl | (refine hcl.below ?_; (repeat' (first | (with_reducible exact Below.refl _ _) | (with_reducible assumption) | (with_reducible refine Below.alloc ?_ ?_ _) | (with_reducible refine below_drewN ?_ _) | (with_reducible refine Below.drew ?_) | (with_reducible refine Below.setCell ?_ ?_ _) | (with_reducible refine below_via (by assumption) ?_ ?_) | (with_reducible refine below_via (later_below _) ?_ ?_) | (with_reducible exact Nat.le_refl _) | omega | (simp; omega) | (simp; done))))
  · (repeat' (first | (with_reducible exact Below.refl _ _) | (with_reducible assumption) | (with_reducible refine Below.alloc ?_ ?_ _) | (with_reducible refine below_drewN ?_ _) | (with_reducible refine Below.drew ?_) | (with_reducible refine Below.setCell ?_ ?_ _) | (with_reducible refine below_via (by assumption) ?_ ?_) | (with_reducible refine below_via (later_below _) ?_ ?_) | (with_reducible exact Nat.le_refl _) | omega | (simp; omega) | (simp; done)))

set_option maxHeartbeats 3200000 in
set_option maxRecDepth 100000 in
theorem rbase_ok (NM : ByteArray) (a : Option Addr) (n cap : Nat) (P N : Int) (S : ByteArray) (w : World) (hn : RIntOk w NM a n cap 0 0 P) (hi : RIntOk w NM a n cap 1 10 N) (hf : ∀ w', Below w.heap.size w w' → Calls Tryz.prog 76 #[.int .i64 P, .int .i64 N] w' fun e w'' => e = .returned (.tuple #[.string S, .int .i64 0]) ∧ Below w'.heap.size w' w'') :
    Calls Tryz.prog 42 #[.string NM, .slice a n cap] w fun e w' => ActIs w.heap.size 1 0 3 0 0 S 0 e w' ∧ Below w.heap.size w w' := by
  have HN := Lib.hid hn
  have HI := Lib.hid hi
  have HF := Lib.hid hf
  have HS : Hid (∀ s w', Calls Tryz.prog 45 #[.string s] w' fun e w'' => e = .returned (vV 3 0 0 s 0) ∧ Below w'.heap.size w' w'') := fun s w' => rofstr_v s w'
  have HR := Lib.hid (rreturn_says 3 0 0 S 0)
  clear hn hi hf
  have fr0 := fun i => frozen_out w (w.heap.size) i (by omega)
  go_enter Tryz.func42, Tryz.ntmps42
  go_wp2_with (first | (go_at_call 73; (with_reducible refine (HN.out _ ?_).mono ?_); (focus ((repeat' (first | (with_reducible exact Below.refl _ _) | (with_reducible assumption) | (with_reducible refine Below.alloc ?_ ?_ _) | (with_reducible refine below_drewN ?_ _) | (with_reducible refine Below.drew ?_) | (with_reducible refine Below.setCell ?_ ?_ _) | (with_reducible refine below_via (by assumption) ?_ ?_) | (with_reducible refine below_via (later_below _) ?_ ?_) | (with_reducible exact Nat.le_refl _) | omega | (simp; omega) | (simp; done))))); rintro e w8 ⟨rfl, hb⟩; (refine mem hb ?_; intro N hN hz hc hf; (try simp at hN); subst hN)) | (go_at_call 73; (with_reducible refine (HI.out _ ?_).mono ?_); (focus ((repeat' (first | (with_reducible exact Below.refl _ _) | (with_reducible assumption) | (with_reducible refine Below.alloc ?_ ?_ _) | (with_reducible refine below_drewN ?_ _) | (with_reducible refine Below.drew ?_) | (with_reducible refine Below.setCell ?_ ?_ _) | (with_reducible refine below_via (by assumption) ?_ ?_) | (with_reducible refine below_via (later_below _) ?_ ?_) | (with_reducible exact Nat.le_refl _) | omega | (simp; omega) | (simp; done))))); rintro e w7 ⟨rfl, hb⟩; (refine mem hb ?_; intro N hN hz hc hf; (try simp at hN); subst hN)) | (go_at_call 76; (with_reducible refine (HF.out _ ?_).mono ?_); (focus ((repeat' (first | (with_reducible exact Below.refl _ _) | (with_reducible assumption) | (with_reducible refine Below.alloc ?_ ?_ _) | (with_reducible refine below_drewN ?_ _) | (with_reducible refine Below.drew ?_) | (with_reducible refine Below.setCell ?_ ?_ _) | (with_reducible refine below_via (by assumption) ?_ ?_) | (with_reducible refine below_via (later_below _) ?_ ?_) | (with_reducible exact Nat.le_refl _) | omega | (simp; omega) | (simp; done))))); rintro e w6 ⟨rfl, hb⟩; (refine mem hb ?_; intro N hN hz hc hf; (try simp at hN); subst hN)) | (go_at_call 45; (with_reducible refine (HS.out _ _).mono ?_); rintro e w5 ⟨rfl, hb⟩; (refine mem hb ?_; intro N hN hz hc hf; (try simp at hN); subst hN)) | (go_at_call 44; refine (HR.out _ _ _ (cells5_at _ _ _ _ _ _ _ _ ?_)).mono ?_; (focus (simp; done)); rintro e w9 ⟨⟨g, cp, rfl, hg, hcl⟩, hb⟩; (refine mem hb ?_; intro N hN hz hc hf; (try simp at hN); subst hN)))
  ((try simp only [Exit.inBlock, Exit.then]); refine bodyPost_ret (by first | (simp [results, Tryz.results42, go_sem, *]; done) | (simp [results, Tryz.results42, go_sem, *]; rfl) | (simp [results, Tryz.results42, go_sem, ↓IntWalk.iteOmega, *]; try rfl)) rfl ?_)
  have s0 : w.heap.size + 1 ≤ w8.heap.size := by assumption
  have s1 : w8.heap.size + 1 ≤ w7.heap.size := by assumption
  have s2 : w7.heap.size + 1 ≤ w6.heap.size := by assumption
  have s3 : w6.heap.size ≤ w5.heap.size := by assumption
  have s4 : w5.heap.size + 1 ≤ g := by simpa using hg
  have hg3 : w.heap.size + 1 ≤ g := (upj 1 (Nat.le_trans (upj 1 (upj 1 s0 s1) s2) s3) s4)
  obtain ⟨g1, g2, g3⟩ := ups1 hg3
  refine ⟨act_set2 (hK := rfl) (hL := rfl) g2 g1 hcl, ?_⟩
  (repeat' (first | (with_reducible exact Below.refl _ _) | (with_reducible assumption) | (with_reducible refine Below.alloc ?_ ?_ _) | (with_reducible refine below_drewN ?_ _) | (with_reducible refine Below.drew ?_) | (with_reducible refine Below.setCell ?_ ?_ _) | (with_reducible refine below_via (by assumption) ?_ ?_) | (with_reducible refine below_via (later_below _) ?_ ?_) | (with_reducible exact Nat.le_refl _) | omega | (simp; omega) | (simp; done)))

theorem rplaces_at {W : World} {a : Option Addr} {n cap : Nat} {l : List VV} (E : Env W a n cap l) (hS : ∀ i, (argV l i).s.size ≤ 4200) {NM word : ByteArray} (h : NmW NM word) :
    Calls Tryz.prog 41 #[.string NM, .slice a n cap] W fun e w' => ActV W.heap.size (placesA word l) e w' ∧ Below W.heap.size W w' := by
  have hn := rnum_at E hS h 0 (by omega)
  have hi := rint_at1 E hS h 0
  unfold placesA
  cases hx : numA word l 1 with
  | inr m =>
    rw [hx] at hn
    exact rfixed_bad1 NM a n cap m W hn
  | inl v =>
    obtain ⟨P, Q⟩ := v
    have hv := numA_vld hx
    obtain ⟨b1, b2, b3, b4⟩ := vld_bd hv
    rw [hx] at hn
    dsimp only at b1 b2 b3 b4 hv ⊢
    cases hy : intA word l 2 0 true with
    | inr m =>
      rw [hy] at hi
      exact rfixed_bad2 NM a n cap P Q m W hn hi
    | inl N =>
      rw [hy] at hi
      dsimp only
      have hF : ∀ w', Below W.heap.size W w' → Calls Tryz.prog 74 #[.agg #[.int .i64 P, .int .i64 Q], .int .i64 N] w' fun e w'' => e = .returned (.tuple #[.string (mkS (fixL P Q N).1), .int .i64 (fixL P Q N).2]) ∧ Below w'.heap.size w' w'' := fun w' _ => rfixed_any P Q N w' (by omega) (by omega)
      by_cases h0 : (fixL P Q N).2 = 0
      · rw [if_pos h0]
        rw [h0] at hF
        exact rfixed_ok NM a n cap P Q N _ W hn hi hF
      · rw [if_neg h0]
        exact rfixed_bad3 NM a n cap P Q N _ _ _ W hn hi hF h0 (rbad_says h W 1 (by omega) oorS (by decide))
theorem rdigits_at {W : World} {a : Option Addr} {n cap : Nat} {l : List VV} (E : Env W a n cap l) (hS : ∀ i, (argV l i).s.size ≤ 4200) {NM word : ByteArray} (h : NmW NM word) :
    Calls Tryz.prog 42 #[.string NM, .slice a n cap] W fun e w' => ActV W.heap.size (digitsA word l) e w' ∧ Below W.heap.size W w' := by
  have hn := rint_at0 E hS h 0
  have hi := rint_at1 E hS h 10
  unfold digitsA
  cases hx : intA word l 1 0 false with
  | inr m =>
    rw [hx] at hn
    exact rbase_bad1 NM a n cap m W hn
  | inl P =>
    obtain ⟨b3, b4⟩ := intA_bd hx (by omega)
    rw [hx] at hn
    dsimp only
    cases hy : intA word l 2 10 true with
    | inr m =>
      rw [hy] at hi
      exact rbase_bad2 NM a n cap P m W hn hi
    | inl N =>
      rw [hy] at hi
      dsimp only
      have hF : ∀ w', Below W.heap.size W w' → Calls Tryz.prog 76 #[.int .i64 P, .int .i64 N] w' fun e w'' => e = .returned (.tuple #[.string (mkS (baseL P N).1), .int .i64 (baseL P N).2]) ∧ Below w'.heap.size w' w'' := fun w' _ => rbase_any P N (by omega) (by omega) w'
      by_cases h0 : (baseL P N).2 = 0
      · rw [if_pos h0]
        rw [h0] at hF
        exact rbase_ok NM a n cap P N _ W hn hi hF
      · rw [if_neg h0]
        exact rbase_bad3 NM a n cap P N _ _ _ W hn hi hF h0 (rbad_says h W 1 (by omega) oorS (by decide))

end Go.Proofs.YtfclmnglckikbaaGreatDoor

/- The reference's extreme: what each call returns. -/
namespace Go.Proofs.YtfclmnglckikbaaGreatDoor
open Go.RowKit Go.Instr
set_option linter.unusedVariables false

theorem up_e1 {a b c g : Nat} (h1 : a + 1 ≤ b) (h2 : b ≤ c) (h3 : c ≤ g) : a + 1 ≤ g := by omega

set_option maxHeartbeats 8000000 in
set_option maxRecDepth 100000 in
theorem rextreme_v (f : Int) (hf : f = 6 ∨ f = 7) (NM : ByteArray) (h6 : f = 6 → (NM.toList == [110, 117, 109, 98, 101, 114, 46, 109, 97, 120]) = true ∧ (NM.toList == [110, 117, 109, 98, 101, 114, 46, 109, 105, 110]) = false) (h7 : f = 7 → (NM.toList == [110, 117, 109, 98, 101, 114, 46, 109, 97, 120]) = false ∧ (NM.toList == [110, 117, 109, 98, 101, 114, 46, 109, 105, 110]) = true) (a : Option Addr) (n cap : Nat) (hn : n ≤ 1000) (num : Nat → (Int × Int) ⊕ ByteArray) (w : World)
    (hnum : ∀ i : Nat, i ≤ n → RNumAt w NM a n cap i (num (i + 1))) (hbd : ∀ i v, num i = .inl v → -9223372036854775808 ≤ v.1 ∧ v.1 ≤ 9223372036854775807) :
    Calls Tryz.prog 40 #[.string NM, .slice a n cap] w fun e w' => ActR w.heap.size (extR f num (n - 1)) e w' ∧ Below w.heap.size w w' := by
  cases h1 : num 1 with
  | inr m =>
    have hr : extR f num (n - 1) = .inr m := by
      have := extR_stay (f := f) (num := num) (k := 0) h1 (n - 1)
      rwa [Nat.zero_add] at this
    rw [hr]
    have hn1 := hnum 0 (Nat.zero_le _)
    rw [h1] at hn1
    have HN : Hid (RNumBad w NM a n cap 0 m) := hn1
    clear hn1 hnum hbd h1 hr h6 h7
    have fr0 := fun i => frozen_out w (w.heap.size) i (by omega)
    go_enter Tryz.func40, Tryz.ntmps40
    go_wp2_with (first | (go_at_call 46; refine (HN.out _ ?_).mono ?_; (focus ((repeat' (first | (with_reducible exact Below.refl _ _) | (with_reducible assumption) | (with_reducible refine Below.alloc ?_ ?_ _) | (with_reducible refine below_drewN ?_ _) | (with_reducible refine Below.drew ?_) | (with_reducible refine Below.setCell ?_ ?_ _) | (with_reducible refine below_via (by assumption) ?_ ?_) | (with_reducible refine below_via (later_below _) ?_ ?_) | (with_reducible exact Nat.le_refl _) | omega | (simp; omega) | (simp; done))))); rintro e w8 ⟨⟨g, cp, rfl, hg, hcl⟩, hb⟩; (refine mem hb ?_; intro N hN hz hc hf; (try simp at hN); subst hN)))
    ((try simp only [Exit.inBlock, Exit.then]); refine bodyPost_ret (by first | (simp [results, Tryz.results40, go_sem, *]; done) | (simp [results, Tryz.results40, go_sem, *]; rfl) | (simp [results, Tryz.results40, go_sem, ↓IntWalk.iteOmega, *]; try rfl)) rfl ?_)
    have hg3 : w.heap.size + 1 ≤ g := by simpa using hg
    obtain ⟨g1, g2⟩ := up1 hg3
    refine ⟨act_set2 (hK := rfl) (hL := rfl) g2 g1 (hcl.below ?_), ?_⟩
    · (repeat' (first | (with_reducible exact Below.refl _ _) | (with_reducible assumption) | (with_reducible refine Below.alloc ?_ ?_ _) | (with_reducible refine below_drewN ?_ _) | (with_reducible refine Below.drew ?_) | (with_reducible refine Below.setCell ?_ ?_ _) | (with_reducible refine below_via (by assumption) ?_ ?_) | (with_reducible refine below_via (later_below _) ?_ ?_) | (with_reducible exact Nat.le_refl _) | omega | (simp; omega) | (simp; done)))
    · (repeat' (first | (with_reducible exact Below.refl _ _) | (with_reducible assumption) | (with_reducible refine Below.alloc ?_ ?_ _) | (with_reducible refine below_drewN ?_ _) | (with_reducible refine Below.drew ?_) | (with_reducible refine Below.setCell ?_ ?_ _) | (with_reducible refine below_via (by assumption) ?_ ?_) | (with_reducible refine below_via (later_below _) ?_ ?_) | (with_reducible exact Nat.le_refl _) | omega | (simp; omega) | (simp; done)))
  | inl v1 =>
    obtain ⟨P1, Q1⟩ := v1
    have hn1 := hnum 0 (Nat.zero_le _)
    rw [h1] at hn1
    have HN : Hid (RNumOk w NM a n cap 0 P1 Q1) := hn1
    have HNUM := Lib.hid hnum
    have HBD := Lib.hid hbd
    have H1 := Lib.hid h1
    have H6 := Lib.hid h6
    have H7 := Lib.hid h7
    obtain ⟨R, hR⟩ : ∃ R, extR f num (n - 1) = R := ⟨_, rfl⟩
    rw [hR]
    have HR := Lib.hid hR
    clear hn1 hnum hbd h1 hR h6 h7
    have HF := Lib.hid hf
    clear hf
    have fr0 := fun i => frozen_out w (w.heap.size) i (by omega)
    go_enter Tryz.func40, Tryz.ntmps40
    go_wp2_with (first | (go_at_call 46; refine (HN.out _ ?_).mono ?_; (focus ((repeat' (first | (with_reducible exact Below.refl _ _) | (with_reducible assumption) | (with_reducible refine Below.alloc ?_ ?_ _) | (with_reducible refine below_drewN ?_ _) | (with_reducible refine Below.drew ?_) | (with_reducible refine Below.setCell ?_ ?_ _) | (with_reducible refine below_via (by assumption) ?_ ?_) | (with_reducible refine below_via (later_below _) ?_ ?_) | (with_reducible exact Nat.le_refl _) | omega | (simp; omega) | (simp; done))))); rintro e w8 ⟨rfl, hb⟩; (refine mem hb ?_; intro N hN hz hc hf; (try simp at hN); subst hN)))
    have hz8 : w.heap.size + 1 ≤ w8.heap.size := by assumption
    have HK1 : Hid (Blk12 w8 w.heap.size) := (blk12_new _ _ _ (by simp)).below hb
    have HB8 : Hid (Below w.heap.size w w8) := by show Below _ _ _; (repeat' (first | (with_reducible exact Below.refl _ _) | (with_reducible assumption) | (with_reducible refine Below.alloc ?_ ?_ _) | (with_reducible refine below_drewN ?_ _) | (with_reducible refine Below.drew ?_) | (with_reducible refine Below.setCell ?_ ?_ _) | (with_reducible refine below_via (by assumption) ?_ ?_) | (with_reducible refine below_via (later_below _) ?_ ?_) | (with_reducible exact Nat.le_refl _) | omega | (simp; omega) | (simp; done)))
    clear hb hc hf fr0
    go_loopw [8, 9, 10, 11, 12] (fun i _ _ _ _ wr => ∃ (j : Nat) (P Q : Int), 1 ≤ j ∧ (j = 1 ∨ j ≤ n) ∧ i = .int .i64 j ∧ Hid (extR f num (j - 1) = .inl (P, Q)) ∧ Hid (-9223372036854775808 ≤ P ∧ P ≤ 9223372036854775807) ∧ Hid (Blk12 wr w.heap.size) ∧ Hid (Blk2 wr w8.heap.size (.int .i64 P) (.int .i64 Q)) ∧ Hid (Below w.heap.size w wr)) (fun i _ _ _ _ _ => n + 1 - (intOf i).toNat)
    case atStart => exact ⟨1, P1, Q1, Nat.le_refl _, .inl rfl, rfl, H1.out, HBD.out 1 _ H1.out, (HK1.out.alloc _).alloc _, (blk2_new _ _ _ _).alloc _, by have hbel := HB8.out; have hs8 := hbel.size; show Below _ _ _; (repeat' (first | (with_reducible exact Below.refl _ _) | (with_reducible assumption) | (with_reducible refine Below.alloc ?_ ?_ _) | (with_reducible refine below_drewN ?_ _) | (with_reducible refine Below.drew ?_) | (with_reducible refine Below.setCell ?_ ?_ _) | (with_reducible refine below_via (by assumption) ?_ ?_) | (with_reducible refine below_via (later_below _) ?_ ?_) | (with_reducible exact Nat.le_refl _) | omega | (simp; omega) | (simp; done)))⟩
    case round =>
      obtain ⟨j, P, Q, hj2, hjn, rfl, HE, HPB, HB1, HB2, HBL⟩ := hrel
      obtain ⟨hP1, hP2⟩ := HPB.out
      obtain ⟨s1, c1, f1⟩ := HB1.out
      obtain ⟨s2, c20, c21, f2⟩ := HB2.out
      have hsz := HBL.out.size
      by_cases hlt : j < n
      · have hnj := HNUM.out j (by omega)
        have hj3 : j - 1 + 2 = j + 1 := by omega
        cases hx : num (j + 1) with
        | inr m =>
          rw [hx] at hnj
          have HNJ : Hid (RNumBad w NM a n cap j m) := hnj
          obtain rfl : R = .inr m := by
            rw [← HR.out, show n - 1 = (j - 1 + 1) + (n - 1 - j) by omega]
            exact extR_stay (extR_fail HE.out (by rw [hj3]; exact hx)) _
          clear hnj hx
          go_wp2_with (first | (go_at_call 46; (with_reducible refine (HNJ.out _ HBL.out).mono ?_); rintro e w9 ⟨⟨g, cp, rfl, hg, hcl⟩, hb⟩; (refine mem hb ?_; intro N hN hz hc hf; (try simp at hN); subst hN)))
          ((try simp only [Exit.inBlock, Exit.then]); refine bodyPost_ret (by first | (simp [results, Tryz.results40, go_sem, *]; done) | (simp [results, Tryz.results40, go_sem, *]; rfl) | (simp [results, Tryz.results40, go_sem, ↓IntWalk.iteOmega, *]; try rfl)) rfl ?_)
          have hg3 : w.heap.size + 1 ≤ g := up_e1 hz8 (Nat.le_of_lt s2) hg
          obtain ⟨g1, g2⟩ := up1 hg3
          refine ⟨act_set2 (hK := rfl) (hL := rfl) g2 g1 (hcl.below ?_), ?_⟩
          · (repeat' (first | (with_reducible exact Below.refl _ _) | (with_reducible assumption) | (with_reducible refine Below.alloc ?_ ?_ _) | (with_reducible refine below_drewN ?_ _) | (with_reducible refine Below.drew ?_) | (with_reducible refine Below.setCell ?_ ?_ _) | (with_reducible refine below_via (by assumption) ?_ ?_) | (with_reducible refine below_via (later_below _) ?_ ?_) | (with_reducible exact Nat.le_refl _) | omega | (simp; omega) | (simp; done)))
          · have hbel := HBL.out
            (repeat' (first | (with_reducible exact Below.refl _ _) | (with_reducible assumption) | (with_reducible refine Below.alloc ?_ ?_ _) | (with_reducible refine below_drewN ?_ _) | (with_reducible refine Below.drew ?_) | (with_reducible refine Below.setCell ?_ ?_ _) | (with_reducible refine below_via (by assumption) ?_ ?_) | (with_reducible refine below_via (later_below _) ?_ ?_) | (with_reducible exact Nat.le_refl _) | omega | (simp; omega) | (simp; done)))
        | inl v =>
          obtain ⟨p, q⟩ := v
          rw [hx] at hnj
          have HNJ : Hid (RNumOk w NM a n cap j p q) := hnj
          obtain ⟨hp1, hp2⟩ := HBD.out (j + 1) _ hx
          dsimp only at hp1 hp2
          have hnext := extR_next HE.out (a := (p, q)) (by rw [hj3]; exact hx)
          dsimp only at hnext
          have HC : Hid (∀ w', Calls Tryz.prog 71 #[.agg #[.int .i64 p, .int .i64 q], .agg #[.int .i64 P, .int .i64 Q]] w' fun e w'' => e = .returned (.int .i64 (cmpT p q P Q)) ∧ Below w'.heap.size w' w'') := fun w' => rcmp_any p q P Q w' hp1 hp2 hP1 hP2
          obtain ⟨X, hX⟩ : ∃ X, cmpT p q P Q = X := ⟨_, rfl⟩
          rw [hX] at hnext HC
          clear hX hnj hx
          by_cases ht : (f = 6 ∧ 0 < X) ∨ (f = 7 ∧ X < 0)
          · rw [bestN_yes ht] at hnext
            have HX := Lib.hid hnext
            clear hnext
            rcases ht with ⟨rfl, ht⟩ | ⟨rfl, ht⟩
            case' inl =>
              obtain ⟨u1, u2⟩ := H6.out rfl
              have d1 : decide (0 < X) = true := by simpa using ht
            case' inr =>
              obtain ⟨u1, u2⟩ := H7.out rfl
              have d1 : decide (X < 0) = true := by simpa using ht
            all_goals
              go_wp2_with (first | (go_at_call 46; (with_reducible refine (HNJ.out _ HBL.out).mono ?_); rintro e w9 ⟨rfl, hb⟩; (refine mem hb ?_; intro N hN hz hc hf; (try simp at hN); subst hN)) | (go_at_call 71; (with_reducible refine (HC.out _).mono ?_); rintro e w10 ⟨rfl, hb⟩; (refine mem hb ?_; intro N hN hz hc hf; (try simp at hN); subst hN)))
              have hgo : Below wr.heap.size wr w10 := by (repeat' (first | (with_reducible exact Below.refl _ _) | (with_reducible assumption) | (with_reducible refine Below.alloc ?_ ?_ _) | (with_reducible refine below_drewN ?_ _) | (with_reducible refine Below.drew ?_) | (with_reducible refine Below.setCell ?_ ?_ _) | (with_reducible refine below_via (by assumption) ?_ ?_) | (with_reducible refine below_via (later_below _) ?_ ?_) | (with_reducible exact Nat.le_refl _) | omega | (simp; omega) | (simp; done)))
              refine ⟨⟨j + 1, p, q, by omega, by omega, by go_num, ?_, ⟨hp1, hp2⟩, (HB1.out.below hgo).other _ _ (by omega), (HB2.out.below hgo).set _ _, ?_⟩, by simp [intOf]; omega⟩
              · rw [show j + 1 - 1 = j - 1 + 1 by omega]
                exact HX.out
              · have hbel := HBL.out
                show Below _ _ _
                (repeat' (first | (with_reducible exact Below.refl _ _) | (with_reducible assumption) | (with_reducible refine Below.alloc ?_ ?_ _) | (with_reducible refine below_drewN ?_ _) | (with_reducible refine Below.drew ?_) | (with_reducible refine Below.setCell ?_ ?_ _) | (with_reducible refine below_via (by assumption) ?_ ?_) | (with_reducible refine below_via (later_below _) ?_ ?_) | (with_reducible exact Nat.le_refl _) | omega | (simp; omega) | (simp; done)))
          · rw [bestN_no ht] at hnext
            have HX := Lib.hid hnext
            have hcs : (f = 6 ∧ ¬ 0 < X) ∨ (f = 7 ∧ ¬ X < 0) := by have := HF.out; omega
            clear hnext ht
            rcases hcs with ⟨rfl, ht⟩ | ⟨rfl, ht⟩
            case' inl =>
              obtain ⟨u1, u2⟩ := H6.out rfl
              have d1 : decide (0 < X) = false := by simpa using ht
            case' inr =>
              obtain ⟨u1, u2⟩ := H7.out rfl
              have d1 : decide (X < 0) = false := by simpa using ht
            all_goals
              go_wp2_with (first | (go_at_call 46; (with_reducible refine (HNJ.out _ HBL.out).mono ?_); rintro e w9 ⟨rfl, hb⟩; (refine mem hb ?_; intro N hN hz hc hf; (try simp at hN); subst hN)) | (go_at_call 71; (with_reducible refine (HC.out _).mono ?_); rintro e w10 ⟨rfl, hb⟩; (refine mem hb ?_; intro N hN hz hc hf; (try simp at hN); subst hN)))
              have hgo : Below wr.heap.size wr w10 := by (repeat' (first | (with_reducible exact Below.refl _ _) | (with_reducible assumption) | (with_reducible refine Below.alloc ?_ ?_ _) | (with_reducible refine below_drewN ?_ _) | (with_reducible refine Below.drew ?_) | (with_reducible refine Below.setCell ?_ ?_ _) | (with_reducible refine below_via (by assumption) ?_ ?_) | (with_reducible refine below_via (later_below _) ?_ ?_) | (with_reducible exact Nat.le_refl _) | omega | (simp; omega) | (simp; done)))
              refine ⟨⟨j + 1, P, Q, by omega, by omega, by go_num, ?_, ⟨hP1, hP2⟩, HB1.out.below hgo, HB2.out.below hgo, ?_⟩, by simp [intOf]; omega⟩
              · rw [show j + 1 - 1 = j - 1 + 1 by omega]
                exact HX.out
              · have hbel := HBL.out
                show Below _ _ _
                (repeat' (first | (with_reducible exact Below.refl _ _) | (with_reducible assumption) | (with_reducible refine Below.alloc ?_ ?_ _) | (with_reducible refine below_drewN ?_ _) | (with_reducible refine Below.drew ?_) | (with_reducible refine Below.setCell ?_ ?_ _) | (with_reducible refine below_via (by assumption) ?_ ?_) | (with_reducible refine below_via (later_below _) ?_ ?_) | (with_reducible exact Nat.le_refl _) | omega | (simp; omega) | (simp; done)))
      · obtain rfl : R = .inl (P, Q) := by
          rw [← HR.out, show n - 1 = j - 1 by omega]
          exact HE.out
        obtain ⟨k, p, q, s, r, hv⟩ := ofNumV_is P Q
        have HVV : Hid (∀ w', Calls Tryz.prog 72 #[.agg #[.int .i64 P, .int .i64 Q]] w' fun e w'' => e = .returned (vV k p q s r) ∧ Below w'.heap.size w' w'') := fun w' => by have h := rofnum_v P Q w' hP1 hP2; rw [hv] at h; exact h
        have HRS := Lib.hid (rreturn_says k p q s r)
        have HV := Lib.hid hv
        clear hv
        go_wp2_with (first | (go_at_call 72; (with_reducible refine (HVV.out _).mono ?_); rintro e w7 ⟨rfl, hb⟩; (refine mem hb ?_; intro N hN hz hc hf; (try simp at hN); subst hN)) | (go_at_call 44; refine (HRS.out _ _ _ (cells5_at _ _ _ _ _ _ _ _ ?_)).mono ?_; (focus (simp; done)); rintro e w9 ⟨⟨g, cp, rfl, hg, hcl⟩, hb⟩; (refine mem hb ?_; intro N hN hz hc hf; (try simp at hN); subst hN)))
        ((try simp only [Exit.inBlock, Exit.then]); refine bodyPost_ret (by first | (simp [results, Tryz.results40, go_sem, *]; done) | (simp [results, Tryz.results40, go_sem, *]; rfl) | (simp [results, Tryz.results40, go_sem, ↓IntWalk.iteOmega, *]; try rfl)) rfl ?_)
        have hg4 : w7.heap.size + 1 ≤ g := by simpa using hg
        have hw7 : wr.heap.size ≤ w7.heap.size := by assumption
        have hg3 : w.heap.size + 1 ≤ g := up_e1 hz8 (Nat.le_of_lt s2) (upj 1 hw7 hg4)
        obtain ⟨g1, g2⟩ := up1 hg3
        refine ⟨⟨k, p, q, s, r, HV.out, act_set2 (hK := rfl) (hL := rfl) g2 g1 hcl⟩, ?_⟩
        have hbel := HBL.out
        (repeat' (first | (with_reducible exact Below.refl _ _) | (with_reducible assumption) | (with_reducible refine Below.alloc ?_ ?_ _) | (with_reducible refine below_drewN ?_ _) | (with_reducible refine Below.drew ?_) | (with_reducible refine Below.setCell ?_ ?_ _) | (with_reducible refine below_via (by assumption) ?_ ?_) | (with_reducible refine below_via (later_below _) ?_ ?_) | (with_reducible exact Nat.le_refl _) | omega | (simp; omega) | (simp; done)))

theorem rext_at {W : World} {a : Option Addr} {n cap : Nat} {l : List VV} (E : Env W a n cap l) (hS : ∀ i, (argV l i).s.size ≤ 4200) {NM word : ByteArray} (h : NmW NM word) (f : Int) (hf : f = 6 ∨ f = 7) (h6 : f = 6 → (NM.toList == [110, 117, 109, 98, 101, 114, 46, 109, 97, 120]) = true ∧ (NM.toList == [110, 117, 109, 98, 101, 114, 46, 109, 105, 110]) = false) (h7 : f = 7 → (NM.toList == [110, 117, 109, 98, 101, 114, 46, 109, 97, 120]) = false ∧ (NM.toList == [110, 117, 109, 98, 101, 114, 46, 109, 105, 110]) = true) :
    Calls Tryz.prog 40 #[.string NM, .slice a n cap] W fun e w' => ActV W.heap.size (extA f word l) e w' ∧ Below W.heap.size W w' := by
  have hfew := E.few
  have h := rextreme_v f hf NM h6 h7 a n cap hfew (numA word l) W (fun i hi => rnum_at E hS h i (by omega)) (fun i v hv => by obtain ⟨b1, b2, b3, b4⟩ := vld_bd (numA_vld hv); omega)
  unfold extA
  rw [E.len]
  refine h.mono ?_
  rintro e w' ⟨h1, h2⟩
  refine ⟨?_, h2⟩
  cases hx : extR f (numA word l) (n - 1) with
  | inr m => rw [hx] at h1; exact h1
  | inl v =>
    rw [hx] at h1
    obtain ⟨k, p, q, s, r, h3, h4⟩ := h1
    rw [ofNum_vv] at h3
    simp only [Value.agg.injEq, Array.mk.injEq, List.cons.injEq, Value.int.injEq, Value.string.injEq, true_and, and_true] at h3
    obtain ⟨e1, e2, e3, e4, e5⟩ := h3
    show ActIs _ 1 0 (numVV v.1 v.2).k (numVV v.1 v.2).p (numVV v.1 v.2).q (numVV v.1 v.2).s (numVV v.1 v.2).r e w'
    rw [e1, e2, e3, e4, e5]
    exact h4

end Go.Proofs.YtfclmnglckikbaaGreatDoor

/- The reference's Names, known and Begin: what each call returns. -/
namespace Go.Proofs.YtfclmnglckikbaaGreatDoor
open Go.RowKit Go.Instr
set_option linter.unusedVariables false

/-- The cells of the reference's names. -/
def rnmCells : Array Value := #[.string ⟨#[110, 117, 109, 98, 101, 114, 46, 97, 98, 115]⟩, .string ⟨#[110, 117, 109, 98, 101, 114, 46, 98, 97, 115, 101]⟩, .string ⟨#[110, 117, 109, 98, 101, 114, 46, 99, 101, 105, 108]⟩, .string ⟨#[110, 117, 109, 98, 101, 114, 46, 100, 101, 110]⟩, .string ⟨#[110, 117, 109, 98, 101, 114, 46, 102, 105, 120, 101, 100]⟩, .string ⟨#[110, 117, 109, 98, 101, 114, 46, 102, 108, 111, 111, 114]⟩, .string ⟨#[110, 117, 109, 98, 101, 114, 46, 109, 97, 120]⟩, .string ⟨#[110, 117, 109, 98, 101, 114, 46, 109, 105, 110]⟩, .string ⟨#[110, 117, 109, 98, 101, 114, 46, 110, 117, 109]⟩, .string ⟨#[110, 117, 109, 98, 101, 114, 46, 115, 105, 103, 110]⟩, .string ⟨#[110, 117, 109, 98, 101, 114, 46, 116, 121, 112, 101]⟩]
theorem rnm_cell (w : World) (t : TypeId) (j : Nat) (hj : j < 11) : (w.alloc (.cells rnmCells t)).cell? ⟨w.heap.size, j, none⟩ = some (.string (nmN j)) := by
  refine (World.cell?_alloc_at rnmCells t _ j rfl).trans ?_
  match j, hj with
  | 0, _ => rfl
  | 1, _ => rfl
  | 2, _ => rfl
  | 3, _ => rfl
  | 4, _ => rfl
  | 5, _ => rfl
  | 6, _ => rfl
  | 7, _ => rfl
  | 8, _ => rfl
  | 9, _ => rfl
  | 10, _ => rfl
/-- The eleven names in a block. -/
def NamC (w : World) (g : Nat) : Prop := ∀ j, j < 11 → w.cell? ⟨g, j, none⟩ = some (.string (nmN j))
set_option maxHeartbeats 1600000 in
set_option maxRecDepth 100000 in
theorem rnm_all (w : World) : Calls Tryz.prog 11 #[] w fun e w' => (∃ g : Nat, e = .returned (.slice (some ⟨g, 0, none⟩) 11 11) ∧ w.heap.size ≤ g ∧ NamC w' g) ∧ Below w.heap.size w w' := by
  go_enter Tryz.func11, Tryz.ntmps11
  go_wp2_with fail
  go_returns
  refine ⟨⟨w.heap.size, rfl, Nat.le_refl _, fun j hj => rnm_cell w _ j hj⟩, ?_⟩
  (repeat' (first | (with_reducible exact Below.refl _ _) | (with_reducible assumption) | (with_reducible refine Below.alloc ?_ ?_ _) | (with_reducible refine below_drewN ?_ _) | (with_reducible refine Below.drew ?_) | (with_reducible refine Below.setCell ?_ ?_ _) | (with_reducible refine below_via (by assumption) ?_ ?_) | (with_reducible refine below_via (later_below _) ?_ ?_) | (with_reducible exact Nat.le_refl _) | omega | (simp; omega) | (simp; done)))
theorem nmN_few (j : Nat) (hj : j < 11) : (nmN j).size ≤ 20 := by
  have := wordN_size j hj
  unfold nmN
  rw [ByteArray.size_append]
  have h1 : (⟨#[110, 117, 109, 98, 101, 114, 46]⟩ : ByteArray).size = 7 := rfl
  omega
theorem nm_w (j : Nat) (hj : j < 11) : NmW (nmN j) (wordN j) := by
  refine ⟨?_, ?_, by have := nmN_few j hj; omega, by have := wordN_size j hj; omega⟩
  · match j, hj with
    | 0, _ => exact of_decide_eq_true (by kernel_rfl) 
    | 1, _ => exact of_decide_eq_true (by kernel_rfl) 
    | 2, _ => exact of_decide_eq_true (by kernel_rfl) 
    | 3, _ => exact of_decide_eq_true (by kernel_rfl) 
    | 4, _ => exact of_decide_eq_true (by kernel_rfl) 
    | 5, _ => exact of_decide_eq_true (by kernel_rfl) 
    | 6, _ => exact of_decide_eq_true (by kernel_rfl) 
    | 7, _ => exact of_decide_eq_true (by kernel_rfl) 
    | 8, _ => exact of_decide_eq_true (by kernel_rfl) 
    | 9, _ => exact of_decide_eq_true (by kernel_rfl) 
    | 10, _ => exact of_decide_eq_true (by kernel_rfl) 
  · match j, hj with
    | 0, _ => exact of_decide_eq_true (by kernel_rfl)
    | 1, _ => exact of_decide_eq_true (by kernel_rfl)
    | 2, _ => exact of_decide_eq_true (by kernel_rfl)
    | 3, _ => exact of_decide_eq_true (by kernel_rfl)
    | 4, _ => exact of_decide_eq_true (by kernel_rfl)
    | 5, _ => exact of_decide_eq_true (by kernel_rfl)
    | 6, _ => exact of_decide_eq_true (by kernel_rfl)
    | 7, _ => exact of_decide_eq_true (by kernel_rfl)
    | 8, _ => exact of_decide_eq_true (by kernel_rfl)
    | 9, _ => exact of_decide_eq_true (by kernel_rfl)
    | 10, _ => exact of_decide_eq_true (by kernel_rfl)
theorem nm_dec : ∀ i j : Fin 11, ((nmN i.val).data.toList == (nmN j.val).data.toList) = decide (i = j) := by decide +kernel
theorem nm_ne {i j : Nat} (hi : i < 11) (hj : j < 11) (h : i ≠ j) : ((nmN i).toList == (nmN j).toList) = false := by
  rw [Lib.toList_data, Lib.toList_data, nm_dec ⟨i, hi⟩ ⟨j, hj⟩]
  simpa using h
theorem nm_lit (j i : Nat) (hj : j < 11) (hi : i < 11) (L : List UInt8) (h : (nmN i).data.toList = L) : ((nmN j).toList == L) = decide (j = i) := by
  rw [Lib.toList_data, ← h, nm_dec ⟨j, hj⟩ ⟨i, hi⟩]
  simp
set_option maxHeartbeats 1600000 in
set_option maxRecDepth 100000 in
theorem rknown_at (j : Nat) (hj : j < 11) (w : World) : Calls Tryz.prog 38 #[.string (nmN j)] w fun e w' => e = .returned (.bool true) ∧ Below w.heap.size w w' := by
  have HNE : Hid (∀ i, i < j → ((nmN i).toList == (nmN j).toList) = false) := fun i hi => nm_ne (by omega) hj (by omega)
  obtain ⟨NM, hNM⟩ : ∃ NM, nmN j = NM := ⟨_, rfl⟩
  rw [hNM] at HNE ⊢
  have HNM := Lib.hid hNM
  clear hNM
  go_enter Tryz.func38, Tryz.ntmps38
  go_wp2_with (first | (go_at_call 11; refine (rnm_all _).mono ?_; rintro e w8 ⟨⟨g, rfl, hg, hcl⟩, hb⟩))
  have HCL := Lib.hid hcl
  have HB8 := Lib.hid hb
  clear hcl hb
  go_loop [4] (fun u => ∃ i : Nat, i ≤ j ∧ u = .int .i64 i) (fun u => j + 1 - (intOf u).toNat)
  case atStart => exact ⟨0, Nat.zero_le _, rfl⟩
  case round =>
    obtain ⟨i, hi, rfl⟩ := hrel
    have hcj := HCL.out i (by omega)
    have hsz := nmN_few i (by omega)
    by_cases hlt : i < j
    · have hn := HNE.out i hlt
      obtain ⟨Wd, hW⟩ : ∃ Wd, nmN i = Wd := ⟨_, rfl⟩
      rw [hW] at hcj hn hsz
      clear hW
      go_wp2
      refine ⟨⟨i + 1, by omega, by go_num⟩, by simp [intOf]; omega⟩
    · obtain rfl : i = j := by omega
      rw [HNM.out] at hcj hsz
      go_wp2
      go_returns
      exact ⟨rfl, HB8.out⟩

set_option maxHeartbeats 3200000 in
set_option maxRecDepth 100000 in
theorem rbegin_max (NM : ByteArray) (a : Option Addr) (n cap : Nat) (kind level : Nat) (k p q : Int) (s : ByteArray) (r : Int) (w : World) (t6 : (NM.toList == [110, 117, 109, 98, 101, 114, 46, 109, 97, 120]) = true) (hkn : ∀ w', Calls Tryz.prog 38 #[.string NM] w' fun e w'' => e = .returned (.bool true) ∧ Below w'.heap.size w' w'') (hm : ∀ w', Below w.heap.size w w' → Calls Tryz.prog 40 #[.string NM, .slice a n cap] w' fun e w'' => ActIs w'.heap.size kind level k p q s r e w'' ∧ Below w'.heap.size w' w'') :
    Calls Tryz.prog 17 #[.pointer none, .string NM, .slice a n cap] w fun e w' => ActIs w.heap.size kind level k p q s r e w' ∧ Below w.heap.size w w' := by
  have HK := Lib.hid hkn
  have HM := Lib.hid hm
  clear hm
  clear hkn
  have fr0 := fun i => frozen_out w (w.heap.size) i (by omega)
  go_enter Tryz.func17, Tryz.ntmps17
  go_wp2_with (first | (go_at_call 38; (with_reducible refine (HK.out _).mono ?_); rintro e w1 ⟨rfl, hb⟩; (refine mem hb ?_; intro N hN hz hc hf; (try simp at hN); subst hN)) | (go_at_call 40; (with_reducible refine (HM.out _ ?_).mono ?_); (focus ((repeat' (first | (with_reducible exact Below.refl _ _) | (with_reducible assumption) | (with_reducible refine Below.alloc ?_ ?_ _) | (with_reducible refine below_drewN ?_ _) | (with_reducible refine Below.drew ?_) | (with_reducible refine Below.setCell ?_ ?_ _) | (with_reducible refine below_via (by assumption) ?_ ?_) | (with_reducible refine below_via (later_below _) ?_ ?_) | (with_reducible exact Nat.le_refl _) | omega | (simp; omega) | (simp; done))))); rintro e w9 ⟨⟨g, cp, rfl, hg, hcl⟩, hb⟩; (refine mem hb ?_; intro N hN hz hc hf; (try simp at hN); subst hN)))
  ((try simp only [Exit.inBlock, Exit.then]); refine bodyPost_ret (by first | (simp [results, Tryz.results17, go_sem, *]; done) | (simp [results, Tryz.results17, go_sem, *]; rfl) | (simp [results, Tryz.results17, go_sem, ↓IntWalk.iteOmega, *]; try rfl)) rfl ?_)
  have s0 : w.heap.size + 1 ≤ w1.heap.size := by assumption
  have s1 : w1.heap.size ≤ g := by simpa using hg
  have hg3 : w.heap.size + 1 ≤ g := (Nat.le_trans s0 s1)
  obtain ⟨g1, g2, g3⟩ := ups1 hg3
  refine ⟨act_set2 (hK := rfl) (hL := rfl) g2 g1 hcl, ?_⟩
  (repeat' (first | (with_reducible exact Below.refl _ _) | (with_reducible assumption) | (with_reducible refine Below.alloc ?_ ?_ _) | (with_reducible refine below_drewN ?_ _) | (with_reducible refine Below.drew ?_) | (with_reducible refine Below.setCell ?_ ?_ _) | (with_reducible refine below_via (by assumption) ?_ ?_) | (with_reducible refine below_via (later_below _) ?_ ?_) | (with_reducible exact Nat.le_refl _) | omega | (simp; omega) | (simp; done)))

set_option maxHeartbeats 3200000 in
set_option maxRecDepth 100000 in
theorem rbegin_min (NM : ByteArray) (a : Option Addr) (n cap : Nat) (kind level : Nat) (k p q : Int) (s : ByteArray) (r : Int) (w : World) (t6 : (NM.toList == [110, 117, 109, 98, 101, 114, 46, 109, 97, 120]) = false) (t7 : (NM.toList == [110, 117, 109, 98, 101, 114, 46, 109, 105, 110]) = true) (hkn : ∀ w', Calls Tryz.prog 38 #[.string NM] w' fun e w'' => e = .returned (.bool true) ∧ Below w'.heap.size w' w'') (hm : ∀ w', Below w.heap.size w w' → Calls Tryz.prog 40 #[.string NM, .slice a n cap] w' fun e w'' => ActIs w'.heap.size kind level k p q s r e w'' ∧ Below w'.heap.size w' w'') :
    Calls Tryz.prog 17 #[.pointer none, .string NM, .slice a n cap] w fun e w' => ActIs w.heap.size kind level k p q s r e w' ∧ Below w.heap.size w w' := by
  have HK := Lib.hid hkn
  have HM := Lib.hid hm
  clear hm
  clear hkn
  have fr0 := fun i => frozen_out w (w.heap.size) i (by omega)
  go_enter Tryz.func17, Tryz.ntmps17
  go_wp2_with (first | (go_at_call 38; (with_reducible refine (HK.out _).mono ?_); rintro e w1 ⟨rfl, hb⟩; (refine mem hb ?_; intro N hN hz hc hf; (try simp at hN); subst hN)) | (go_at_call 40; (with_reducible refine (HM.out _ ?_).mono ?_); (focus ((repeat' (first | (with_reducible exact Below.refl _ _) | (with_reducible assumption) | (with_reducible refine Below.alloc ?_ ?_ _) | (with_reducible refine below_drewN ?_ _) | (with_reducible refine Below.drew ?_) | (with_reducible refine Below.setCell ?_ ?_ _) | (with_reducible refine below_via (by assumption) ?_ ?_) | (with_reducible refine below_via (later_below _) ?_ ?_) | (with_reducible exact Nat.le_refl _) | omega | (simp; omega) | (simp; done))))); rintro e w9 ⟨⟨g, cp, rfl, hg, hcl⟩, hb⟩; (refine mem hb ?_; intro N hN hz hc hf; (try simp at hN); subst hN)))
  ((try simp only [Exit.inBlock, Exit.then]); refine bodyPost_ret (by first | (simp [results, Tryz.results17, go_sem, *]; done) | (simp [results, Tryz.results17, go_sem, *]; rfl) | (simp [results, Tryz.results17, go_sem, ↓IntWalk.iteOmega, *]; try rfl)) rfl ?_)
  have s0 : w.heap.size + 1 ≤ w1.heap.size := by assumption
  have s1 : w1.heap.size ≤ g := by simpa using hg
  have hg3 : w.heap.size + 1 ≤ g := (Nat.le_trans s0 s1)
  obtain ⟨g1, g2, g3⟩ := ups1 hg3
  refine ⟨act_set2 (hK := rfl) (hL := rfl) g2 g1 hcl, ?_⟩
  (repeat' (first | (with_reducible exact Below.refl _ _) | (with_reducible assumption) | (with_reducible refine Below.alloc ?_ ?_ _) | (with_reducible refine below_drewN ?_ _) | (with_reducible refine Below.drew ?_) | (with_reducible refine Below.setCell ?_ ?_ _) | (with_reducible refine below_via (by assumption) ?_ ?_) | (with_reducible refine below_via (later_below _) ?_ ?_) | (with_reducible exact Nat.le_refl _) | omega | (simp; omega) | (simp; done)))

set_option maxHeartbeats 3200000 in
set_option maxRecDepth 100000 in
theorem rbegin_fixed (NM : ByteArray) (a : Option Addr) (n cap : Nat) (kind level : Nat) (k p q : Int) (s : ByteArray) (r : Int) (w : World) (t6 : (NM.toList == [110, 117, 109, 98, 101, 114, 46, 109, 97, 120]) = false) (t7 : (NM.toList == [110, 117, 109, 98, 101, 114, 46, 109, 105, 110]) = false) (t4 : (NM.toList == [110, 117, 109, 98, 101, 114, 46, 102, 105, 120, 101, 100]) = true) (hkn : ∀ w', Calls Tryz.prog 38 #[.string NM] w' fun e w'' => e = .returned (.bool true) ∧ Below w'.heap.size w' w'') (hm : ∀ w', Below w.heap.size w w' → Calls Tryz.prog 41 #[.string NM, .slice a n cap] w' fun e w'' => ActIs w'.heap.size kind level k p q s r e w'' ∧ Below w'.heap.size w' w'') :
    Calls Tryz.prog 17 #[.pointer none, .string NM, .slice a n cap] w fun e w' => ActIs w.heap.size kind level k p q s r e w' ∧ Below w.heap.size w w' := by
  have HK := Lib.hid hkn
  have HM := Lib.hid hm
  clear hm
  clear hkn
  have fr0 := fun i => frozen_out w (w.heap.size) i (by omega)
  go_enter Tryz.func17, Tryz.ntmps17
  go_wp2_with (first | (go_at_call 38; (with_reducible refine (HK.out _).mono ?_); rintro e w1 ⟨rfl, hb⟩; (refine mem hb ?_; intro N hN hz hc hf; (try simp at hN); subst hN)) | (go_at_call 41; (with_reducible refine (HM.out _ ?_).mono ?_); (focus ((repeat' (first | (with_reducible exact Below.refl _ _) | (with_reducible assumption) | (with_reducible refine Below.alloc ?_ ?_ _) | (with_reducible refine below_drewN ?_ _) | (with_reducible refine Below.drew ?_) | (with_reducible refine Below.setCell ?_ ?_ _) | (with_reducible refine below_via (by assumption) ?_ ?_) | (with_reducible refine below_via (later_below _) ?_ ?_) | (with_reducible exact Nat.le_refl _) | omega | (simp; omega) | (simp; done))))); rintro e w9 ⟨⟨g, cp, rfl, hg, hcl⟩, hb⟩; (refine mem hb ?_; intro N hN hz hc hf; (try simp at hN); subst hN)))
  ((try simp only [Exit.inBlock, Exit.then]); refine bodyPost_ret (by first | (simp [results, Tryz.results17, go_sem, *]; done) | (simp [results, Tryz.results17, go_sem, *]; rfl) | (simp [results, Tryz.results17, go_sem, ↓IntWalk.iteOmega, *]; try rfl)) rfl ?_)
  have s0 : w.heap.size + 1 ≤ w1.heap.size := by assumption
  have s1 : w1.heap.size ≤ g := by simpa using hg
  have hg3 : w.heap.size + 1 ≤ g := (Nat.le_trans s0 s1)
  obtain ⟨g1, g2, g3⟩ := ups1 hg3
  refine ⟨act_set2 (hK := rfl) (hL := rfl) g2 g1 hcl, ?_⟩
  (repeat' (first | (with_reducible exact Below.refl _ _) | (with_reducible assumption) | (with_reducible refine Below.alloc ?_ ?_ _) | (with_reducible refine below_drewN ?_ _) | (with_reducible refine Below.drew ?_) | (with_reducible refine Below.setCell ?_ ?_ _) | (with_reducible refine below_via (by assumption) ?_ ?_) | (with_reducible refine below_via (later_below _) ?_ ?_) | (with_reducible exact Nat.le_refl _) | omega | (simp; omega) | (simp; done)))

set_option maxHeartbeats 3200000 in
set_option maxRecDepth 100000 in
theorem rbegin_base (NM : ByteArray) (a : Option Addr) (n cap : Nat) (kind level : Nat) (k p q : Int) (s : ByteArray) (r : Int) (w : World) (t6 : (NM.toList == [110, 117, 109, 98, 101, 114, 46, 109, 97, 120]) = false) (t7 : (NM.toList == [110, 117, 109, 98, 101, 114, 46, 109, 105, 110]) = false) (t4 : (NM.toList == [110, 117, 109, 98, 101, 114, 46, 102, 105, 120, 101, 100]) = false) (t1 : (NM.toList == [110, 117, 109, 98, 101, 114, 46, 98, 97, 115, 101]) = true) (hkn : ∀ w', Calls Tryz.prog 38 #[.string NM] w' fun e w'' => e = .returned (.bool true) ∧ Below w'.heap.size w' w'') (hm : ∀ w', Below w.heap.size w w' → Calls Tryz.prog 42 #[.string NM, .slice a n cap] w' fun e w'' => ActIs w'.heap.size kind level k p q s r e w'' ∧ Below w'.heap.size w' w'') :
    Calls Tryz.prog 17 #[.pointer none, .string NM, .slice a n cap] w fun e w' => ActIs w.heap.size kind level k p q s r e w' ∧ Below w.heap.size w w' := by
  have HK := Lib.hid hkn
  have HM := Lib.hid hm
  clear hm
  clear hkn
  have fr0 := fun i => frozen_out w (w.heap.size) i (by omega)
  go_enter Tryz.func17, Tryz.ntmps17
  go_wp2_with (first | (go_at_call 38; (with_reducible refine (HK.out _).mono ?_); rintro e w1 ⟨rfl, hb⟩; (refine mem hb ?_; intro N hN hz hc hf; (try simp at hN); subst hN)) | (go_at_call 42; (with_reducible refine (HM.out _ ?_).mono ?_); (focus ((repeat' (first | (with_reducible exact Below.refl _ _) | (with_reducible assumption) | (with_reducible refine Below.alloc ?_ ?_ _) | (with_reducible refine below_drewN ?_ _) | (with_reducible refine Below.drew ?_) | (with_reducible refine Below.setCell ?_ ?_ _) | (with_reducible refine below_via (by assumption) ?_ ?_) | (with_reducible refine below_via (later_below _) ?_ ?_) | (with_reducible exact Nat.le_refl _) | omega | (simp; omega) | (simp; done))))); rintro e w9 ⟨⟨g, cp, rfl, hg, hcl⟩, hb⟩; (refine mem hb ?_; intro N hN hz hc hf; (try simp at hN); subst hN)))
  ((try simp only [Exit.inBlock, Exit.then]); refine bodyPost_ret (by first | (simp [results, Tryz.results17, go_sem, *]; done) | (simp [results, Tryz.results17, go_sem, *]; rfl) | (simp [results, Tryz.results17, go_sem, ↓IntWalk.iteOmega, *]; try rfl)) rfl ?_)
  have s0 : w.heap.size + 1 ≤ w1.heap.size := by assumption
  have s1 : w1.heap.size ≤ g := by simpa using hg
  have hg3 : w.heap.size + 1 ≤ g := (Nat.le_trans s0 s1)
  obtain ⟨g1, g2, g3⟩ := ups1 hg3
  refine ⟨act_set2 (hK := rfl) (hL := rfl) g2 g1 hcl, ?_⟩
  (repeat' (first | (with_reducible exact Below.refl _ _) | (with_reducible assumption) | (with_reducible refine Below.alloc ?_ ?_ _) | (with_reducible refine below_drewN ?_ _) | (with_reducible refine Below.drew ?_) | (with_reducible refine Below.setCell ?_ ?_ _) | (with_reducible refine below_via (by assumption) ?_ ?_) | (with_reducible refine below_via (later_below _) ?_ ?_) | (with_reducible exact Nat.le_refl _) | omega | (simp; omega) | (simp; done)))

set_option maxHeartbeats 3200000 in
set_option maxRecDepth 100000 in
theorem rbegin_one_bad (NM : ByteArray) (a : Option Addr) (n cap : Nat) (m : ByteArray) (w : World) (t6 : (NM.toList == [110, 117, 109, 98, 101, 114, 46, 109, 97, 120]) = false) (t7 : (NM.toList == [110, 117, 109, 98, 101, 114, 46, 109, 105, 110]) = false) (t4 : (NM.toList == [110, 117, 109, 98, 101, 114, 46, 102, 105, 120, 101, 100]) = false) (t1 : (NM.toList == [110, 117, 109, 98, 101, 114, 46, 98, 97, 115, 101]) = false) (t10 : (NM.toList == [110, 117, 109, 98, 101, 114, 46, 116, 121, 112, 101]) = false) (hkn : ∀ w', Calls Tryz.prog 38 #[.string NM] w' fun e w'' => e = .returned (.bool true) ∧ Below w'.heap.size w' w'') (hn : RNumBad w NM a n cap 0 m) :
    Calls Tryz.prog 17 #[.pointer none, .string NM, .slice a n cap] w fun e w' => ActIs w.heap.size 2 1 3 0 0 m 0 e w' ∧ Below w.heap.size w w' := by
  have HK := Lib.hid hkn
  have HN := Lib.hid hn
  clear hn
  clear hkn
  have fr0 := fun i => frozen_out w (w.heap.size) i (by omega)
  go_enter Tryz.func17, Tryz.ntmps17
  go_wp2_with (first | (go_at_call 38; (with_reducible refine (HK.out _).mono ?_); rintro e w1 ⟨rfl, hb⟩; (refine mem hb ?_; intro N hN hz hc hf; (try simp at hN); subst hN)) | (go_at_call 46; (with_reducible refine (HN.out _ ?_).mono ?_); (focus ((repeat' (first | (with_reducible exact Below.refl _ _) | (with_reducible assumption) | (with_reducible refine Below.alloc ?_ ?_ _) | (with_reducible refine below_drewN ?_ _) | (with_reducible refine Below.drew ?_) | (with_reducible refine Below.setCell ?_ ?_ _) | (with_reducible refine below_via (by assumption) ?_ ?_) | (with_reducible refine below_via (later_below _) ?_ ?_) | (with_reducible exact Nat.le_refl _) | omega | (simp; omega) | (simp; done))))); rintro e w8 ⟨⟨g, cp, rfl, hg, hcl⟩, hb⟩; (refine mem hb ?_; intro N hN hz hc hf; (try simp at hN); subst hN)))
  ((try simp only [Exit.inBlock, Exit.then]); refine bodyPost_ret (by first | (simp [results, Tryz.results17, go_sem, *]; done) | (simp [results, Tryz.results17, go_sem, *]; rfl) | (simp [results, Tryz.results17, go_sem, ↓IntWalk.iteOmega, *]; try rfl)) rfl ?_)
  have s0 : w.heap.size + 1 ≤ w1.heap.size := by assumption
  have s1 : w1.heap.size ≤ g := by simpa using hg
  have hg3 : w.heap.size + 1 ≤ g := (Nat.le_trans s0 s1)
  obtain ⟨g1, g2, g3⟩ := ups1 hg3
  refine ⟨act_set2 (hK := rfl) (hL := rfl) g2 g1 (hcl.below ?_), ?_⟩
  · (repeat' (first | (with_reducible exact Below.refl _ _) | (with_reducible assumption) | (with_reducible refine Below.alloc ?_ ?_ _) | (with_reducible refine below_drewN ?_ _) | (with_reducible refine Below.drew ?_) | (with_reducible refine Below.setCell ?_ ?_ _) | (with_reducible refine below_via (by assumption) ?_ ?_) | (with_reducible refine below_via (later_below _) ?_ ?_) | (with_reducible exact Nat.le_refl _) | omega | (simp; omega) | (simp; done)))
  · (repeat' (first | (with_reducible exact Below.refl _ _) | (with_reducible assumption) | (with_reducible refine Below.alloc ?_ ?_ _) | (with_reducible refine below_drewN ?_ _) | (with_reducible refine Below.drew ?_) | (with_reducible refine Below.setCell ?_ ?_ _) | (with_reducible refine below_via (by assumption) ?_ ?_) | (with_reducible refine below_via (later_below _) ?_ ?_) | (with_reducible exact Nat.le_refl _) | omega | (simp; omega) | (simp; done)))

set_option maxHeartbeats 3200000 in
set_option maxRecDepth 100000 in
theorem rbegin_one_ok (NM : ByteArray) (a : Option Addr) (n cap : Nat) (P Q k p q : Int) (s : ByteArray) (r : Int) (w : World) (t6 : (NM.toList == [110, 117, 109, 98, 101, 114, 46, 109, 97, 120]) = false) (t7 : (NM.toList == [110, 117, 109, 98, 101, 114, 46, 109, 105, 110]) = false) (t4 : (NM.toList == [110, 117, 109, 98, 101, 114, 46, 102, 105, 120, 101, 100]) = false) (t1 : (NM.toList == [110, 117, 109, 98, 101, 114, 46, 98, 97, 115, 101]) = false) (t10 : (NM.toList == [110, 117, 109, 98, 101, 114, 46, 116, 121, 112, 101]) = false) (hkn : ∀ w', Calls Tryz.prog 38 #[.string NM] w' fun e w'' => e = .returned (.bool true) ∧ Below w'.heap.size w' w'') (hn : RNumOk w NM a n cap 0 P Q) (ho : ∀ w', Calls Tryz.prog 47 #[.string NM, .agg #[.int .i64 P, .int .i64 Q]] w' fun e w'' => ActIs w'.heap.size 1 0 k p q s r e w'' ∧ Below w'.heap.size w' w'') :
    Calls Tryz.prog 17 #[.pointer none, .string NM, .slice a n cap] w fun e w' => ActIs w.heap.size 1 0 k p q s r e w' ∧ Below w.heap.size w w' := by
  have HK := Lib.hid hkn
  have HN := Lib.hid hn
  have HO := Lib.hid ho
  clear hn ho
  clear hkn
  have fr0 := fun i => frozen_out w (w.heap.size) i (by omega)
  go_enter Tryz.func17, Tryz.ntmps17
  go_wp2_with (first | (go_at_call 38; (with_reducible refine (HK.out _).mono ?_); rintro e w1 ⟨rfl, hb⟩; (refine mem hb ?_; intro N hN hz hc hf; (try simp at hN); subst hN)) | (go_at_call 46; (with_reducible refine (HN.out _ ?_).mono ?_); (focus ((repeat' (first | (with_reducible exact Below.refl _ _) | (with_reducible assumption) | (with_reducible refine Below.alloc ?_ ?_ _) | (with_reducible refine below_drewN ?_ _) | (with_reducible refine Below.drew ?_) | (with_reducible refine Below.setCell ?_ ?_ _) | (with_reducible refine below_via (by assumption) ?_ ?_) | (with_reducible refine below_via (later_below _) ?_ ?_) | (with_reducible exact Nat.le_refl _) | omega | (simp; omega) | (simp; done))))); rintro e w8 ⟨rfl, hb⟩; (refine mem hb ?_; intro N hN hz hc hf; (try simp at hN); subst hN)) | (go_at_call 47; (with_reducible refine (HO.out _).mono ?_); rintro e w9 ⟨⟨g, cp, rfl, hg, hcl⟩, hb⟩; (refine mem hb ?_; intro N hN hz hc hf; (try simp at hN); subst hN)))
  ((try simp only [Exit.inBlock, Exit.then]); refine bodyPost_ret (by first | (simp [results, Tryz.results17, go_sem, *]; done) | (simp [results, Tryz.results17, go_sem, *]; rfl) | (simp [results, Tryz.results17, go_sem, ↓IntWalk.iteOmega, *]; try rfl)) rfl ?_)
  have s0 : w.heap.size + 1 ≤ w1.heap.size := by assumption
  have s1 : w1.heap.size ≤ w8.heap.size := by assumption
  have s2 : w8.heap.size + 2 ≤ g := by simpa using hg
  have hg3 : w.heap.size + 1 ≤ g := (upj 2 (Nat.le_trans s0 s1) s2)
  obtain ⟨g1, g2, g3⟩ := ups1 hg3
  refine ⟨act_set2 (hK := rfl) (hL := rfl) g2 g1 hcl, ?_⟩
  (repeat' (first | (with_reducible exact Below.refl _ _) | (with_reducible assumption) | (with_reducible refine Below.alloc ?_ ?_ _) | (with_reducible refine below_drewN ?_ _) | (with_reducible refine Below.drew ?_) | (with_reducible refine Below.setCell ?_ ?_ _) | (with_reducible refine below_via (by assumption) ?_ ?_) | (with_reducible refine below_via (later_below _) ?_ ?_) | (with_reducible exact Nat.le_refl _) | omega | (simp; omega) | (simp; done)))

set_option maxHeartbeats 3200000 in
set_option maxRecDepth 100000 in
theorem rbegin_kind_no (NM : ByteArray) (a : Option Addr) (n cap : Nat) (k p q : Int) (s : ByteArray) (r : Int) (w : World) (t6 : (NM.toList == [110, 117, 109, 98, 101, 114, 46, 109, 97, 120]) = false) (t7 : (NM.toList == [110, 117, 109, 98, 101, 114, 46, 109, 105, 110]) = false) (t4 : (NM.toList == [110, 117, 109, 98, 101, 114, 46, 102, 105, 120, 101, 100]) = false) (t1 : (NM.toList == [110, 117, 109, 98, 101, 114, 46, 98, 97, 115, 101]) = false) (t10 : (NM.toList == [110, 117, 109, 98, 101, 114, 46, 116, 121, 112, 101]) = true) (hkn : ∀ w', Calls Tryz.prog 38 #[.string NM] w' fun e w'' => e = .returned (.bool true) ∧ Below w'.heap.size w' w'') (ha : RArgSays w a n cap 0 k p q s r) (hk : ¬ k = 2) :
    Calls Tryz.prog 17 #[.pointer none, .string NM, .slice a n cap] w fun e w' => ActIs w.heap.size 1 0 0 0 0 ⟨#[]⟩ 0 e w' ∧ Below w.heap.size w w' := by
  have HK := Lib.hid hkn
  have HA := Lib.hid ha
  have HR := Lib.hid (rreturn_says 0 0 0 ⟨#[]⟩ 0)
  have hk2 : (k != 2) = true := by simpa using hk
  clear ha hk
  clear hkn
  have fr0 := fun i => frozen_out w (w.heap.size) i (by omega)
  go_enter Tryz.func17, Tryz.ntmps17
  go_wp2_with (first | (go_at_call 38; (with_reducible refine (HK.out _).mono ?_); rintro e w1 ⟨rfl, hb⟩; (refine mem hb ?_; intro N hN hz hc hf; (try simp at hN); subst hN)) | (go_at_call 43; (with_reducible refine (HA.out _ ?_).mono ?_); (focus ((repeat' (first | (with_reducible exact Below.refl _ _) | (with_reducible assumption) | (with_reducible refine Below.alloc ?_ ?_ _) | (with_reducible refine below_drewN ?_ _) | (with_reducible refine Below.drew ?_) | (with_reducible refine Below.setCell ?_ ?_ _) | (with_reducible refine below_via (by assumption) ?_ ?_) | (with_reducible refine below_via (later_below _) ?_ ?_) | (with_reducible exact Nat.le_refl _) | omega | (simp; omega) | (simp; done))))); rintro e w8 ⟨rfl, hb⟩; (refine mem hb ?_; intro N hN hz hc hf; (try simp at hN); subst hN)) | (go_at_call 44; refine (HR.out _ _ _ (cells5_at _ _ _ _ _ _ _ _ ?_)).mono ?_; (focus (simp; done)); rintro e w9 ⟨⟨g, cp, rfl, hg, hcl⟩, hb⟩; (refine mem hb ?_; intro N hN hz hc hf; (try simp at hN); subst hN)))
  ((try simp only [Exit.inBlock, Exit.then]); refine bodyPost_ret (by first | (simp [results, Tryz.results17, go_sem, *]; done) | (simp [results, Tryz.results17, go_sem, *]; rfl) | (simp [results, Tryz.results17, go_sem, ↓IntWalk.iteOmega, *]; try rfl)) rfl ?_)
  have s0 : w.heap.size + 1 ≤ w1.heap.size := by assumption
  have s1 : w1.heap.size ≤ w8.heap.size := by assumption
  have s2 : w8.heap.size + 2 ≤ g := by simpa using hg
  have hg3 : w.heap.size + 1 ≤ g := (upj 2 (Nat.le_trans s0 s1) s2)
  obtain ⟨g1, g2, g3⟩ := ups1 hg3
  refine ⟨act_set2 (hK := rfl) (hL := rfl) g2 g1 hcl, ?_⟩
  (repeat' (first | (with_reducible exact Below.refl _ _) | (with_reducible assumption) | (with_reducible refine Below.alloc ?_ ?_ _) | (with_reducible refine below_drewN ?_ _) | (with_reducible refine Below.drew ?_) | (with_reducible refine Below.setCell ?_ ?_ _) | (with_reducible refine below_via (by assumption) ?_ ?_) | (with_reducible refine below_via (later_below _) ?_ ?_) | (with_reducible exact Nat.le_refl _) | omega | (simp; omega) | (simp; done)))

set_option maxHeartbeats 3200000 in
set_option maxRecDepth 100000 in
theorem rbegin_kind_int (NM : ByteArray) (a : Option Addr) (n cap : Nat) (p : Int) (s : ByteArray) (r : Int) (w : World) (t6 : (NM.toList == [110, 117, 109, 98, 101, 114, 46, 109, 97, 120]) = false) (t7 : (NM.toList == [110, 117, 109, 98, 101, 114, 46, 109, 105, 110]) = false) (t4 : (NM.toList == [110, 117, 109, 98, 101, 114, 46, 102, 105, 120, 101, 100]) = false) (t1 : (NM.toList == [110, 117, 109, 98, 101, 114, 46, 98, 97, 115, 101]) = false) (t10 : (NM.toList == [110, 117, 109, 98, 101, 114, 46, 116, 121, 112, 101]) = true) (hkn : ∀ w', Calls Tryz.prog 38 #[.string NM] w' fun e w'' => e = .returned (.bool true) ∧ Below w'.heap.size w' w'') (ha : RArgSays w a n cap 0 2 p 1 s r) :
    Calls Tryz.prog 17 #[.pointer none, .string NM, .slice a n cap] w fun e w' => ActIs w.heap.size 1 0 3 0 0 ⟨#[105, 110, 116, 101, 103, 101, 114]⟩ 0 e w' ∧ Below w.heap.size w w' := by
  have HK := Lib.hid hkn
  have HA := Lib.hid ha
  have HR := Lib.hid (rreturn_says 3 0 0 ⟨#[105, 110, 116, 101, 103, 101, 114]⟩ 0)
  have HS : Hid (∀ s w', Calls Tryz.prog 45 #[.string s] w' fun e w'' => e = .returned (vV 3 0 0 s 0) ∧ Below w'.heap.size w' w'') := fun s w' => rofstr_v s w'
  clear ha
  clear hkn
  have fr0 := fun i => frozen_out w (w.heap.size) i (by omega)
  go_enter Tryz.func17, Tryz.ntmps17
  go_wp2_with (first | (go_at_call 38; (with_reducible refine (HK.out _).mono ?_); rintro e w1 ⟨rfl, hb⟩; (refine mem hb ?_; intro N hN hz hc hf; (try simp at hN); subst hN)) | (go_at_call 43; (with_reducible refine (HA.out _ ?_).mono ?_); (focus ((repeat' (first | (with_reducible exact Below.refl _ _) | (with_reducible assumption) | (with_reducible refine Below.alloc ?_ ?_ _) | (with_reducible refine below_drewN ?_ _) | (with_reducible refine Below.drew ?_) | (with_reducible refine Below.setCell ?_ ?_ _) | (with_reducible refine below_via (by assumption) ?_ ?_) | (with_reducible refine below_via (later_below _) ?_ ?_) | (with_reducible exact Nat.le_refl _) | omega | (simp; omega) | (simp; done))))); rintro e w8 ⟨rfl, hb⟩; (refine mem hb ?_; intro N hN hz hc hf; (try simp at hN); subst hN)) | (go_at_call 45; (with_reducible refine (HS.out _ _).mono ?_); rintro e w5 ⟨rfl, hb⟩; (refine mem hb ?_; intro N hN hz hc hf; (try simp at hN); subst hN)) | (go_at_call 44; refine (HR.out _ _ _ (cells5_at _ _ _ _ _ _ _ _ ?_)).mono ?_; (focus (simp; done)); rintro e w9 ⟨⟨g, cp, rfl, hg, hcl⟩, hb⟩; (refine mem hb ?_; intro N hN hz hc hf; (try simp at hN); subst hN)))
  ((try simp only [Exit.inBlock, Exit.then]); refine bodyPost_ret (by first | (simp [results, Tryz.results17, go_sem, *]; done) | (simp [results, Tryz.results17, go_sem, *]; rfl) | (simp [results, Tryz.results17, go_sem, ↓IntWalk.iteOmega, *]; try rfl)) rfl ?_)
  have s0 : w.heap.size + 1 ≤ w1.heap.size := by assumption
  have s1 : w1.heap.size ≤ w8.heap.size := by assumption
  have s2 : w8.heap.size + 1 ≤ w5.heap.size := by assumption
  have s3 : w5.heap.size + 1 ≤ g := by simpa using hg
  have hg3 : w.heap.size + 1 ≤ g := (upj 1 (upj 1 (Nat.le_trans s0 s1) s2) s3)
  obtain ⟨g1, g2, g3⟩ := ups1 hg3
  refine ⟨act_set2 (hK := rfl) (hL := rfl) g2 g1 hcl, ?_⟩
  (repeat' (first | (with_reducible exact Below.refl _ _) | (with_reducible assumption) | (with_reducible refine Below.alloc ?_ ?_ _) | (with_reducible refine below_drewN ?_ _) | (with_reducible refine Below.drew ?_) | (with_reducible refine Below.setCell ?_ ?_ _) | (with_reducible refine below_via (by assumption) ?_ ?_) | (with_reducible refine below_via (later_below _) ?_ ?_) | (with_reducible exact Nat.le_refl _) | omega | (simp; omega) | (simp; done)))

set_option maxHeartbeats 3200000 in
set_option maxRecDepth 100000 in
theorem rbegin_kind_frac (NM : ByteArray) (a : Option Addr) (n cap : Nat) (p q : Int) (s : ByteArray) (r : Int) (w : World) (t6 : (NM.toList == [110, 117, 109, 98, 101, 114, 46, 109, 97, 120]) = false) (t7 : (NM.toList == [110, 117, 109, 98, 101, 114, 46, 109, 105, 110]) = false) (t4 : (NM.toList == [110, 117, 109, 98, 101, 114, 46, 102, 105, 120, 101, 100]) = false) (t1 : (NM.toList == [110, 117, 109, 98, 101, 114, 46, 98, 97, 115, 101]) = false) (t10 : (NM.toList == [110, 117, 109, 98, 101, 114, 46, 116, 121, 112, 101]) = true) (hkn : ∀ w', Calls Tryz.prog 38 #[.string NM] w' fun e w'' => e = .returned (.bool true) ∧ Below w'.heap.size w' w'') (ha : RArgSays w a n cap 0 2 p q s r) (hq : ¬ q = 1) :
    Calls Tryz.prog 17 #[.pointer none, .string NM, .slice a n cap] w fun e w' => ActIs w.heap.size 1 0 3 0 0 ⟨#[102, 114, 97, 99, 116, 105, 111, 110]⟩ 0 e w' ∧ Below w.heap.size w w' := by
  have HK := Lib.hid hkn
  have HA := Lib.hid ha
  have HR := Lib.hid (rreturn_says 3 0 0 ⟨#[102, 114, 97, 99, 116, 105, 111, 110]⟩ 0)
  have HS : Hid (∀ s w', Calls Tryz.prog 45 #[.string s] w' fun e w'' => e = .returned (vV 3 0 0 s 0) ∧ Below w'.heap.size w' w'') := fun s w' => rofstr_v s w'
  have hq2 : (q == 1) = false := by simpa using hq
  clear ha
  clear hq
  clear hkn
  have fr0 := fun i => frozen_out w (w.heap.size) i (by omega)
  go_enter Tryz.func17, Tryz.ntmps17
  go_wp2_with (first | (go_at_call 38; (with_reducible refine (HK.out _).mono ?_); rintro e w1 ⟨rfl, hb⟩; (refine mem hb ?_; intro N hN hz hc hf; (try simp at hN); subst hN)) | (go_at_call 43; (with_reducible refine (HA.out _ ?_).mono ?_); (focus ((repeat' (first | (with_reducible exact Below.refl _ _) | (with_reducible assumption) | (with_reducible refine Below.alloc ?_ ?_ _) | (with_reducible refine below_drewN ?_ _) | (with_reducible refine Below.drew ?_) | (with_reducible refine Below.setCell ?_ ?_ _) | (with_reducible refine below_via (by assumption) ?_ ?_) | (with_reducible refine below_via (later_below _) ?_ ?_) | (with_reducible exact Nat.le_refl _) | omega | (simp; omega) | (simp; done))))); rintro e w8 ⟨rfl, hb⟩; (refine mem hb ?_; intro N hN hz hc hf; (try simp at hN); subst hN)) | (go_at_call 45; (with_reducible refine (HS.out _ _).mono ?_); rintro e w5 ⟨rfl, hb⟩; (refine mem hb ?_; intro N hN hz hc hf; (try simp at hN); subst hN)) | (go_at_call 44; refine (HR.out _ _ _ (cells5_at _ _ _ _ _ _ _ _ ?_)).mono ?_; (focus (simp; done)); rintro e w9 ⟨⟨g, cp, rfl, hg, hcl⟩, hb⟩; (refine mem hb ?_; intro N hN hz hc hf; (try simp at hN); subst hN)))
  ((try simp only [Exit.inBlock, Exit.then]); refine bodyPost_ret (by first | (simp [results, Tryz.results17, go_sem, *]; done) | (simp [results, Tryz.results17, go_sem, *]; rfl) | (simp [results, Tryz.results17, go_sem, ↓IntWalk.iteOmega, *]; try rfl)) rfl ?_)
  have s0 : w.heap.size + 1 ≤ w1.heap.size := by assumption
  have s1 : w1.heap.size ≤ w8.heap.size := by assumption
  have s2 : w8.heap.size + 1 ≤ w5.heap.size := by assumption
  have s3 : w5.heap.size + 1 ≤ g := by simpa using hg
  have hg3 : w.heap.size + 1 ≤ g := (upj 1 (upj 1 (Nat.le_trans s0 s1) s2) s3)
  obtain ⟨g1, g2, g3⟩ := ups1 hg3
  refine ⟨act_set2 (hK := rfl) (hL := rfl) g2 g1 hcl, ?_⟩
  (repeat' (first | (with_reducible exact Below.refl _ _) | (with_reducible assumption) | (with_reducible refine Below.alloc ?_ ?_ _) | (with_reducible refine below_drewN ?_ _) | (with_reducible refine Below.drew ?_) | (with_reducible refine Below.setCell ?_ ?_ _) | (with_reducible refine below_via (by assumption) ?_ ?_) | (with_reducible refine below_via (later_below _) ?_ ?_) | (with_reducible exact Nat.le_refl _) | omega | (simp; omega) | (simp; done)))

end Go.Proofs.YtfclmnglckikbaaGreatDoor

/- The reference's Begin at each name: what each call returns, by a plain function. -/
namespace Go.Proofs.YtfclmnglckikbaaGreatDoor
open Go.RowKit Go.Instr
set_option linter.unusedVariables false

theorem valid_few {k p q : Int} {s : ByteArray} {r : Int} (h : validV k p q s r = true) : s.size ≤ 4200 := by
  unfold validV at h
  have nil : s.toList.isEmpty = true → s.size ≤ 4200 := fun e => by have := size_nil.1 (List.isEmpty_iff.1 e); omega
  split at h
  · simp only [Bool.and_eq_true] at h; exact nil h.2.2.1
  · split at h
    · simp only [Bool.and_eq_true] at h; exact nil h.2.2.1
    · split at h
      · simp only [Bool.and_eq_true] at h; exact nil h.2.1
      · split at h
        · simp only [Bool.and_eq_true, decide_eq_true_eq] at h; omega
        · split at h
          · simp only [Bool.and_eq_true, decide_eq_true_eq] at h; omega
          · split at h
            · simp only [Bool.and_eq_true] at h; exact nil h.2.2.1
            · cases h

section
variable {W : World} {a : Option Addr} {n cap : Nat} {l : List VV} (E : Env W a n cap l) (hS : ∀ i, (argV l i).s.size ≤ 4200)
include E hS

theorem rbv_6 : Calls Tryz.prog 17 #[.pointer none, .string (nmN 6), .slice a n cap] W fun e w' => ActV W.heap.size (extA 6 (wordN 6) l) e w' ∧ Below W.heap.size W w' := by
  have hm := fun w' (hb : Below W.heap.size W w') => rext_at (E.later hb) hS (nm_w 6 (by omega)) 6 (.inl rfl) (fun _ => ⟨by have h := nm_lit 6 6 (by omega) (by omega) [110, 117, 109, 98, 101, 114, 46, 109, 97, 120] rfl; simpa using h, by have h := nm_lit 6 7 (by omega) (by omega) [110, 117, 109, 98, 101, 114, 46, 109, 105, 110] rfl; simpa using h⟩) (fun h => by omega)
  generalize extA 6 (wordN 6) l = X at hm ⊢
  cases X with
  | inl v => exact rbegin_max _ a n cap 1 0 v.k v.p v.q v.s v.r W (by have h := nm_lit 6 6 (by omega) (by omega) [110, 117, 109, 98, 101, 114, 46, 109, 97, 120] rfl; simpa using h) (rknown_at 6 (by omega)) hm
  | inr m => exact rbegin_max _ a n cap 2 1 3 0 0 m 0 W (by have h := nm_lit 6 6 (by omega) (by omega) [110, 117, 109, 98, 101, 114, 46, 109, 97, 120] rfl; simpa using h) (rknown_at 6 (by omega)) hm

theorem rbv_7 : Calls Tryz.prog 17 #[.pointer none, .string (nmN 7), .slice a n cap] W fun e w' => ActV W.heap.size (extA 7 (wordN 7) l) e w' ∧ Below W.heap.size W w' := by
  have hm := fun w' (hb : Below W.heap.size W w') => rext_at (E.later hb) hS (nm_w 7 (by omega)) 7 (.inr rfl) (fun h => by omega) (fun _ => ⟨by have h := nm_lit 7 6 (by omega) (by omega) [110, 117, 109, 98, 101, 114, 46, 109, 97, 120] rfl; simpa using h, by have h := nm_lit 7 7 (by omega) (by omega) [110, 117, 109, 98, 101, 114, 46, 109, 105, 110] rfl; simpa using h⟩)
  generalize extA 7 (wordN 7) l = X at hm ⊢
  cases X with
  | inl v => exact rbegin_min _ a n cap 1 0 v.k v.p v.q v.s v.r W (by have h := nm_lit 7 6 (by omega) (by omega) [110, 117, 109, 98, 101, 114, 46, 109, 97, 120] rfl; simpa using h) (by have h := nm_lit 7 7 (by omega) (by omega) [110, 117, 109, 98, 101, 114, 46, 109, 105, 110] rfl; simpa using h) (rknown_at 7 (by omega)) hm
  | inr m => exact rbegin_min _ a n cap 2 1 3 0 0 m 0 W (by have h := nm_lit 7 6 (by omega) (by omega) [110, 117, 109, 98, 101, 114, 46, 109, 97, 120] rfl; simpa using h) (by have h := nm_lit 7 7 (by omega) (by omega) [110, 117, 109, 98, 101, 114, 46, 109, 105, 110] rfl; simpa using h) (rknown_at 7 (by omega)) hm

theorem rbv_4 : Calls Tryz.prog 17 #[.pointer none, .string (nmN 4), .slice a n cap] W fun e w' => ActV W.heap.size (placesA (wordN 4) l) e w' ∧ Below W.heap.size W w' := by
  have hm := fun w' (hb : Below W.heap.size W w') => rplaces_at (E.later hb) hS (nm_w 4 (by omega))
  generalize placesA (wordN 4) l = X at hm ⊢
  cases X with
  | inl v => exact rbegin_fixed _ a n cap 1 0 v.k v.p v.q v.s v.r W (by have h := nm_lit 4 6 (by omega) (by omega) [110, 117, 109, 98, 101, 114, 46, 109, 97, 120] rfl; simpa using h) (by have h := nm_lit 4 7 (by omega) (by omega) [110, 117, 109, 98, 101, 114, 46, 109, 105, 110] rfl; simpa using h) (by have h := nm_lit 4 4 (by omega) (by omega) [110, 117, 109, 98, 101, 114, 46, 102, 105, 120, 101, 100] rfl; simpa using h) (rknown_at 4 (by omega)) hm
  | inr m => exact rbegin_fixed _ a n cap 2 1 3 0 0 m 0 W (by have h := nm_lit 4 6 (by omega) (by omega) [110, 117, 109, 98, 101, 114, 46, 109, 97, 120] rfl; simpa using h) (by have h := nm_lit 4 7 (by omega) (by omega) [110, 117, 109, 98, 101, 114, 46, 109, 105, 110] rfl; simpa using h) (by have h := nm_lit 4 4 (by omega) (by omega) [110, 117, 109, 98, 101, 114, 46, 102, 105, 120, 101, 100] rfl; simpa using h) (rknown_at 4 (by omega)) hm

theorem rbv_1 : Calls Tryz.prog 17 #[.pointer none, .string (nmN 1), .slice a n cap] W fun e w' => ActV W.heap.size (digitsA (wordN 1) l) e w' ∧ Below W.heap.size W w' := by
  have hm := fun w' (hb : Below W.heap.size W w') => rdigits_at (E.later hb) hS (nm_w 1 (by omega))
  generalize digitsA (wordN 1) l = X at hm ⊢
  cases X with
  | inl v => exact rbegin_base _ a n cap 1 0 v.k v.p v.q v.s v.r W (by have h := nm_lit 1 6 (by omega) (by omega) [110, 117, 109, 98, 101, 114, 46, 109, 97, 120] rfl; simpa using h) (by have h := nm_lit 1 7 (by omega) (by omega) [110, 117, 109, 98, 101, 114, 46, 109, 105, 110] rfl; simpa using h) (by have h := nm_lit 1 4 (by omega) (by omega) [110, 117, 109, 98, 101, 114, 46, 102, 105, 120, 101, 100] rfl; simpa using h) (by have h := nm_lit 1 1 (by omega) (by omega) [110, 117, 109, 98, 101, 114, 46, 98, 97, 115, 101] rfl; simpa using h) (rknown_at 1 (by omega)) hm
  | inr m => exact rbegin_base _ a n cap 2 1 3 0 0 m 0 W (by have h := nm_lit 1 6 (by omega) (by omega) [110, 117, 109, 98, 101, 114, 46, 109, 97, 120] rfl; simpa using h) (by have h := nm_lit 1 7 (by omega) (by omega) [110, 117, 109, 98, 101, 114, 46, 109, 105, 110] rfl; simpa using h) (by have h := nm_lit 1 4 (by omega) (by omega) [110, 117, 109, 98, 101, 114, 46, 102, 105, 120, 101, 100] rfl; simpa using h) (by have h := nm_lit 1 1 (by omega) (by omega) [110, 117, 109, 98, 101, 114, 46, 98, 97, 115, 101] rfl; simpa using h) (rknown_at 1 (by omega)) hm

theorem rbv_10 : Calls Tryz.prog 17 #[.pointer none, .string (nmN 10), .slice a n cap] W fun e w' => ActV W.heap.size (.inl (kindA (argV l 0))) e w' ∧ Below W.heap.size W w' := by
  have hfew := E.few
  have hS2 := hS 0
  have hs : RArgSays W a n cap 0 (argV l 0).k (argV l 0).p (argV l 0).q (argV l 0).s (argV l 0).r := rarg_is (E.arg 0) cap (by omega)
  unfold kindA
  by_cases hk : (argV l 0).k = 2
  · rw [if_pos hk]
    rw [hk] at hs
    by_cases hq : (argV l 0).q = 1
    · rw [if_pos hq]
      rw [hq] at hs
      exact rbegin_kind_int _ a n cap _ _ _ W (by have h := nm_lit 10 6 (by omega) (by omega) [110, 117, 109, 98, 101, 114, 46, 109, 97, 120] rfl; simpa using h) (by have h := nm_lit 10 7 (by omega) (by omega) [110, 117, 109, 98, 101, 114, 46, 109, 105, 110] rfl; simpa using h) (by have h := nm_lit 10 4 (by omega) (by omega) [110, 117, 109, 98, 101, 114, 46, 102, 105, 120, 101, 100] rfl; simpa using h) (by have h := nm_lit 10 1 (by omega) (by omega) [110, 117, 109, 98, 101, 114, 46, 98, 97, 115, 101] rfl; simpa using h) (by have h := nm_lit 10 10 (by omega) (by omega) [110, 117, 109, 98, 101, 114, 46, 116, 121, 112, 101] rfl; simpa using h) (rknown_at 10 (by omega)) hs
    · rw [if_neg hq]
      exact rbegin_kind_frac _ a n cap _ _ _ _ W (by have h := nm_lit 10 6 (by omega) (by omega) [110, 117, 109, 98, 101, 114, 46, 109, 97, 120] rfl; simpa using h) (by have h := nm_lit 10 7 (by omega) (by omega) [110, 117, 109, 98, 101, 114, 46, 109, 105, 110] rfl; simpa using h) (by have h := nm_lit 10 4 (by omega) (by omega) [110, 117, 109, 98, 101, 114, 46, 102, 105, 120, 101, 100] rfl; simpa using h) (by have h := nm_lit 10 1 (by omega) (by omega) [110, 117, 109, 98, 101, 114, 46, 98, 97, 115, 101] rfl; simpa using h) (by have h := nm_lit 10 10 (by omega) (by omega) [110, 117, 109, 98, 101, 114, 46, 116, 121, 112, 101] rfl; simpa using h) (rknown_at 10 (by omega)) hs hq
  · rw [if_neg hk]
    exact rbegin_kind_no _ a n cap _ _ _ _ _ W (by have h := nm_lit 10 6 (by omega) (by omega) [110, 117, 109, 98, 101, 114, 46, 109, 97, 120] rfl; simpa using h) (by have h := nm_lit 10 7 (by omega) (by omega) [110, 117, 109, 98, 101, 114, 46, 109, 105, 110] rfl; simpa using h) (by have h := nm_lit 10 4 (by omega) (by omega) [110, 117, 109, 98, 101, 114, 46, 102, 105, 120, 101, 100] rfl; simpa using h) (by have h := nm_lit 10 1 (by omega) (by omega) [110, 117, 109, 98, 101, 114, 46, 98, 97, 115, 101] rfl; simpa using h) (by have h := nm_lit 10 10 (by omega) (by omega) [110, 117, 109, 98, 101, 114, 46, 116, 121, 112, 101] rfl; simpa using h) (rknown_at 10 (by omega)) hs hk

theorem rbv_0 : Calls Tryz.prog 17 #[.pointer none, .string (nmN 0), .slice a n cap] W fun e w' => ActV W.heap.size (oneA 0 (wordN 0) l) e w' ∧ Below W.heap.size W w' := by
  have hn := rnum_at E hS (nm_w 0 (by omega)) 0 (by omega)
  unfold oneA
  cases hx : numA (wordN 0) l 1 with
  | inr m =>
    rw [hx] at hn
    exact rbegin_one_bad _ a n cap m W (by have h := nm_lit 0 6 (by omega) (by omega) [110, 117, 109, 98, 101, 114, 46, 109, 97, 120] rfl; simpa using h) (by have h := nm_lit 0 7 (by omega) (by omega) [110, 117, 109, 98, 101, 114, 46, 109, 105, 110] rfl; simpa using h) (by have h := nm_lit 0 4 (by omega) (by omega) [110, 117, 109, 98, 101, 114, 46, 102, 105, 120, 101, 100] rfl; simpa using h) (by have h := nm_lit 0 1 (by omega) (by omega) [110, 117, 109, 98, 101, 114, 46, 98, 97, 115, 101] rfl; simpa using h) (by have h := nm_lit 0 10 (by omega) (by omega) [110, 117, 109, 98, 101, 114, 46, 116, 121, 112, 101] rfl; simpa using h) (rknown_at 0 (by omega)) hn
  | inl v =>
    obtain ⟨P, Q⟩ := v
    have hv := numA_vld hx
    obtain ⟨b1, b2, b3, b4⟩ := vld_bd hv
    rw [hx] at hn
    dsimp only at b1 b2 b3 b4 hv ⊢
    obtain ⟨V, hV, ho⟩ : ∃ V, oneV 0 P Q = V ∧ ∀ w', Calls Tryz.prog 47 #[.string (nmN 0), .agg #[.int .i64 P, .int .i64 Q]] w' fun e w'' => ActIs w'.heap.size 1 0 V.k V.p V.q V.s V.r e w'' ∧ Below w'.heap.size w' w'' := by
      by_cases h0 : P < 0
      · have := fun w' => rone_abs_neg _ P Q _ _ _ _ _ w' (by have h := nm_lit 0 0 (by omega) (by omega) [110, 117, 109, 98, 101, 114, 46, 97, 98, 115] rfl; simpa using h) (by omega) (by omega) h0 (ofNum_vv _ _)
        exact ⟨_, rfl, by unfold oneV; rw [if_pos rfl, if_pos h0]; exact this⟩
      · have := fun w' => rone_abs _ P Q _ _ _ _ _ w' (by have h := nm_lit 0 0 (by omega) (by omega) [110, 117, 109, 98, 101, 114, 46, 97, 98, 115] rfl; simpa using h) (by omega) (by omega) (by omega) (ofNum_vv _ _)
        exact ⟨_, rfl, by unfold oneV; rw [if_pos rfl, if_neg h0]; exact this⟩
    rw [hV]
    exact rbegin_one_ok _ a n cap P Q V.k V.p V.q V.s V.r W (by have h := nm_lit 0 6 (by omega) (by omega) [110, 117, 109, 98, 101, 114, 46, 109, 97, 120] rfl; simpa using h) (by have h := nm_lit 0 7 (by omega) (by omega) [110, 117, 109, 98, 101, 114, 46, 109, 105, 110] rfl; simpa using h) (by have h := nm_lit 0 4 (by omega) (by omega) [110, 117, 109, 98, 101, 114, 46, 102, 105, 120, 101, 100] rfl; simpa using h) (by have h := nm_lit 0 1 (by omega) (by omega) [110, 117, 109, 98, 101, 114, 46, 98, 97, 115, 101] rfl; simpa using h) (by have h := nm_lit 0 10 (by omega) (by omega) [110, 117, 109, 98, 101, 114, 46, 116, 121, 112, 101] rfl; simpa using h) (rknown_at 0 (by omega)) hn ho

theorem rbv_2 : Calls Tryz.prog 17 #[.pointer none, .string (nmN 2), .slice a n cap] W fun e w' => ActV W.heap.size (oneA 2 (wordN 2) l) e w' ∧ Below W.heap.size W w' := by
  have hn := rnum_at E hS (nm_w 2 (by omega)) 0 (by omega)
  unfold oneA
  cases hx : numA (wordN 2) l 1 with
  | inr m =>
    rw [hx] at hn
    exact rbegin_one_bad _ a n cap m W (by have h := nm_lit 2 6 (by omega) (by omega) [110, 117, 109, 98, 101, 114, 46, 109, 97, 120] rfl; simpa using h) (by have h := nm_lit 2 7 (by omega) (by omega) [110, 117, 109, 98, 101, 114, 46, 109, 105, 110] rfl; simpa using h) (by have h := nm_lit 2 4 (by omega) (by omega) [110, 117, 109, 98, 101, 114, 46, 102, 105, 120, 101, 100] rfl; simpa using h) (by have h := nm_lit 2 1 (by omega) (by omega) [110, 117, 109, 98, 101, 114, 46, 98, 97, 115, 101] rfl; simpa using h) (by have h := nm_lit 2 10 (by omega) (by omega) [110, 117, 109, 98, 101, 114, 46, 116, 121, 112, 101] rfl; simpa using h) (rknown_at 2 (by omega)) hn
  | inl v =>
    obtain ⟨P, Q⟩ := v
    have hv := numA_vld hx
    obtain ⟨b1, b2, b3, b4⟩ := vld_bd hv
    rw [hx] at hn
    dsimp only at b1 b2 b3 b4 hv ⊢
    obtain ⟨V, hV, ho⟩ : ∃ V, oneV 2 P Q = V ∧ ∀ w', Calls Tryz.prog 47 #[.string (nmN 2), .agg #[.int .i64 P, .int .i64 Q]] w' fun e w'' => ActIs w'.heap.size 1 0 V.k V.p V.q V.s V.r e w'' ∧ Below w'.heap.size w' w'' := by
      obtain ⟨hc, hcv, _⟩ := ceil_T hv
      have hcb := vld_bd hcv
      have h1 : (ceilT P Q).1 = -((-P).fdiv Q) := by rw [hc]
      exact ⟨_, rfl, fun w' => rone_ceil _ P Q _ _ _ _ _ w' (by have h := nm_lit 2 0 (by omega) (by omega) [110, 117, 109, 98, 101, 114, 46, 97, 98, 115] rfl; simpa using h) (by have h := nm_lit 2 2 (by omega) (by omega) [110, 117, 109, 98, 101, 114, 46, 99, 101, 105, 108] rfl; simpa using h) (by omega) (by omega) (by rw [h1]; omega) (by rw [h1]; omega) (ofNum_vv _ _)⟩
    rw [hV]
    exact rbegin_one_ok _ a n cap P Q V.k V.p V.q V.s V.r W (by have h := nm_lit 2 6 (by omega) (by omega) [110, 117, 109, 98, 101, 114, 46, 109, 97, 120] rfl; simpa using h) (by have h := nm_lit 2 7 (by omega) (by omega) [110, 117, 109, 98, 101, 114, 46, 109, 105, 110] rfl; simpa using h) (by have h := nm_lit 2 4 (by omega) (by omega) [110, 117, 109, 98, 101, 114, 46, 102, 105, 120, 101, 100] rfl; simpa using h) (by have h := nm_lit 2 1 (by omega) (by omega) [110, 117, 109, 98, 101, 114, 46, 98, 97, 115, 101] rfl; simpa using h) (by have h := nm_lit 2 10 (by omega) (by omega) [110, 117, 109, 98, 101, 114, 46, 116, 121, 112, 101] rfl; simpa using h) (rknown_at 2 (by omega)) hn ho

theorem rbv_3 : Calls Tryz.prog 17 #[.pointer none, .string (nmN 3), .slice a n cap] W fun e w' => ActV W.heap.size (oneA 3 (wordN 3) l) e w' ∧ Below W.heap.size W w' := by
  have hn := rnum_at E hS (nm_w 3 (by omega)) 0 (by omega)
  unfold oneA
  cases hx : numA (wordN 3) l 1 with
  | inr m =>
    rw [hx] at hn
    exact rbegin_one_bad _ a n cap m W (by have h := nm_lit 3 6 (by omega) (by omega) [110, 117, 109, 98, 101, 114, 46, 109, 97, 120] rfl; simpa using h) (by have h := nm_lit 3 7 (by omega) (by omega) [110, 117, 109, 98, 101, 114, 46, 109, 105, 110] rfl; simpa using h) (by have h := nm_lit 3 4 (by omega) (by omega) [110, 117, 109, 98, 101, 114, 46, 102, 105, 120, 101, 100] rfl; simpa using h) (by have h := nm_lit 3 1 (by omega) (by omega) [110, 117, 109, 98, 101, 114, 46, 98, 97, 115, 101] rfl; simpa using h) (by have h := nm_lit 3 10 (by omega) (by omega) [110, 117, 109, 98, 101, 114, 46, 116, 121, 112, 101] rfl; simpa using h) (rknown_at 3 (by omega)) hn
  | inl v =>
    obtain ⟨P, Q⟩ := v
    have hv := numA_vld hx
    obtain ⟨b1, b2, b3, b4⟩ := vld_bd hv
    rw [hx] at hn
    dsimp only at b1 b2 b3 b4 hv ⊢
    obtain ⟨V, hV, ho⟩ : ∃ V, oneV 3 P Q = V ∧ ∀ w', Calls Tryz.prog 47 #[.string (nmN 3), .agg #[.int .i64 P, .int .i64 Q]] w' fun e w'' => ActIs w'.heap.size 1 0 V.k V.p V.q V.s V.r e w'' ∧ Below w'.heap.size w' w'' := by
      exact ⟨_, rfl, fun w' => rone_den _ P Q _ _ _ _ _ w' (by have h := nm_lit 3 0 (by omega) (by omega) [110, 117, 109, 98, 101, 114, 46, 97, 98, 115] rfl; simpa using h) (by have h := nm_lit 3 2 (by omega) (by omega) [110, 117, 109, 98, 101, 114, 46, 99, 101, 105, 108] rfl; simpa using h) (by have h := nm_lit 3 5 (by omega) (by omega) [110, 117, 109, 98, 101, 114, 46, 102, 108, 111, 111, 114] rfl; simpa using h) (by have h := nm_lit 3 8 (by omega) (by omega) [110, 117, 109, 98, 101, 114, 46, 110, 117, 109] rfl; simpa using h) (by have h := nm_lit 3 3 (by omega) (by omega) [110, 117, 109, 98, 101, 114, 46, 100, 101, 110] rfl; simpa using h) (ofInt_vv _)⟩
    rw [hV]
    exact rbegin_one_ok _ a n cap P Q V.k V.p V.q V.s V.r W (by have h := nm_lit 3 6 (by omega) (by omega) [110, 117, 109, 98, 101, 114, 46, 109, 97, 120] rfl; simpa using h) (by have h := nm_lit 3 7 (by omega) (by omega) [110, 117, 109, 98, 101, 114, 46, 109, 105, 110] rfl; simpa using h) (by have h := nm_lit 3 4 (by omega) (by omega) [110, 117, 109, 98, 101, 114, 46, 102, 105, 120, 101, 100] rfl; simpa using h) (by have h := nm_lit 3 1 (by omega) (by omega) [110, 117, 109, 98, 101, 114, 46, 98, 97, 115, 101] rfl; simpa using h) (by have h := nm_lit 3 10 (by omega) (by omega) [110, 117, 109, 98, 101, 114, 46, 116, 121, 112, 101] rfl; simpa using h) (rknown_at 3 (by omega)) hn ho

theorem rbv_5 : Calls Tryz.prog 17 #[.pointer none, .string (nmN 5), .slice a n cap] W fun e w' => ActV W.heap.size (oneA 5 (wordN 5) l) e w' ∧ Below W.heap.size W w' := by
  have hn := rnum_at E hS (nm_w 5 (by omega)) 0 (by omega)
  unfold oneA
  cases hx : numA (wordN 5) l 1 with
  | inr m =>
    rw [hx] at hn
    exact rbegin_one_bad _ a n cap m W (by have h := nm_lit 5 6 (by omega) (by omega) [110, 117, 109, 98, 101, 114, 46, 109, 97, 120] rfl; simpa using h) (by have h := nm_lit 5 7 (by omega) (by omega) [110, 117, 109, 98, 101, 114, 46, 109, 105, 110] rfl; simpa using h) (by have h := nm_lit 5 4 (by omega) (by omega) [110, 117, 109, 98, 101, 114, 46, 102, 105, 120, 101, 100] rfl; simpa using h) (by have h := nm_lit 5 1 (by omega) (by omega) [110, 117, 109, 98, 101, 114, 46, 98, 97, 115, 101] rfl; simpa using h) (by have h := nm_lit 5 10 (by omega) (by omega) [110, 117, 109, 98, 101, 114, 46, 116, 121, 112, 101] rfl; simpa using h) (rknown_at 5 (by omega)) hn
  | inl v =>
    obtain ⟨P, Q⟩ := v
    have hv := numA_vld hx
    obtain ⟨b1, b2, b3, b4⟩ := vld_bd hv
    rw [hx] at hn
    dsimp only at b1 b2 b3 b4 hv ⊢
    obtain ⟨V, hV, ho⟩ : ∃ V, oneV 5 P Q = V ∧ ∀ w', Calls Tryz.prog 47 #[.string (nmN 5), .agg #[.int .i64 P, .int .i64 Q]] w' fun e w'' => ActIs w'.heap.size 1 0 V.k V.p V.q V.s V.r e w'' ∧ Below w'.heap.size w' w'' := by
      obtain ⟨hc, hcv, _⟩ := floor_T hv
      have hcb := vld_bd hcv
      have h1 : (floorT P Q).1 = P.fdiv Q := by rw [hc]
      exact ⟨_, rfl, fun w' => rone_floor _ P Q _ _ _ _ _ w' (by have h := nm_lit 5 0 (by omega) (by omega) [110, 117, 109, 98, 101, 114, 46, 97, 98, 115] rfl; simpa using h) (by have h := nm_lit 5 2 (by omega) (by omega) [110, 117, 109, 98, 101, 114, 46, 99, 101, 105, 108] rfl; simpa using h) (by have h := nm_lit 5 5 (by omega) (by omega) [110, 117, 109, 98, 101, 114, 46, 102, 108, 111, 111, 114] rfl; simpa using h) (by omega) (by omega) (by rw [h1]; omega) (by rw [h1]; omega) (ofNum_vv _ _)⟩
    rw [hV]
    exact rbegin_one_ok _ a n cap P Q V.k V.p V.q V.s V.r W (by have h := nm_lit 5 6 (by omega) (by omega) [110, 117, 109, 98, 101, 114, 46, 109, 97, 120] rfl; simpa using h) (by have h := nm_lit 5 7 (by omega) (by omega) [110, 117, 109, 98, 101, 114, 46, 109, 105, 110] rfl; simpa using h) (by have h := nm_lit 5 4 (by omega) (by omega) [110, 117, 109, 98, 101, 114, 46, 102, 105, 120, 101, 100] rfl; simpa using h) (by have h := nm_lit 5 1 (by omega) (by omega) [110, 117, 109, 98, 101, 114, 46, 98, 97, 115, 101] rfl; simpa using h) (by have h := nm_lit 5 10 (by omega) (by omega) [110, 117, 109, 98, 101, 114, 46, 116, 121, 112, 101] rfl; simpa using h) (rknown_at 5 (by omega)) hn ho

theorem rbv_8 : Calls Tryz.prog 17 #[.pointer none, .string (nmN 8), .slice a n cap] W fun e w' => ActV W.heap.size (oneA 8 (wordN 8) l) e w' ∧ Below W.heap.size W w' := by
  have hn := rnum_at E hS (nm_w 8 (by omega)) 0 (by omega)
  unfold oneA
  cases hx : numA (wordN 8) l 1 with
  | inr m =>
    rw [hx] at hn
    exact rbegin_one_bad _ a n cap m W (by have h := nm_lit 8 6 (by omega) (by omega) [110, 117, 109, 98, 101, 114, 46, 109, 97, 120] rfl; simpa using h) (by have h := nm_lit 8 7 (by omega) (by omega) [110, 117, 109, 98, 101, 114, 46, 109, 105, 110] rfl; simpa using h) (by have h := nm_lit 8 4 (by omega) (by omega) [110, 117, 109, 98, 101, 114, 46, 102, 105, 120, 101, 100] rfl; simpa using h) (by have h := nm_lit 8 1 (by omega) (by omega) [110, 117, 109, 98, 101, 114, 46, 98, 97, 115, 101] rfl; simpa using h) (by have h := nm_lit 8 10 (by omega) (by omega) [110, 117, 109, 98, 101, 114, 46, 116, 121, 112, 101] rfl; simpa using h) (rknown_at 8 (by omega)) hn
  | inl v =>
    obtain ⟨P, Q⟩ := v
    have hv := numA_vld hx
    obtain ⟨b1, b2, b3, b4⟩ := vld_bd hv
    rw [hx] at hn
    dsimp only at b1 b2 b3 b4 hv ⊢
    obtain ⟨V, hV, ho⟩ : ∃ V, oneV 8 P Q = V ∧ ∀ w', Calls Tryz.prog 47 #[.string (nmN 8), .agg #[.int .i64 P, .int .i64 Q]] w' fun e w'' => ActIs w'.heap.size 1 0 V.k V.p V.q V.s V.r e w'' ∧ Below w'.heap.size w' w'' := by
      exact ⟨_, rfl, fun w' => rone_num _ P Q _ _ _ _ _ w' (by have h := nm_lit 8 0 (by omega) (by omega) [110, 117, 109, 98, 101, 114, 46, 97, 98, 115] rfl; simpa using h) (by have h := nm_lit 8 2 (by omega) (by omega) [110, 117, 109, 98, 101, 114, 46, 99, 101, 105, 108] rfl; simpa using h) (by have h := nm_lit 8 5 (by omega) (by omega) [110, 117, 109, 98, 101, 114, 46, 102, 108, 111, 111, 114] rfl; simpa using h) (by have h := nm_lit 8 8 (by omega) (by omega) [110, 117, 109, 98, 101, 114, 46, 110, 117, 109] rfl; simpa using h) (ofInt_vv _)⟩
    rw [hV]
    exact rbegin_one_ok _ a n cap P Q V.k V.p V.q V.s V.r W (by have h := nm_lit 8 6 (by omega) (by omega) [110, 117, 109, 98, 101, 114, 46, 109, 97, 120] rfl; simpa using h) (by have h := nm_lit 8 7 (by omega) (by omega) [110, 117, 109, 98, 101, 114, 46, 109, 105, 110] rfl; simpa using h) (by have h := nm_lit 8 4 (by omega) (by omega) [110, 117, 109, 98, 101, 114, 46, 102, 105, 120, 101, 100] rfl; simpa using h) (by have h := nm_lit 8 1 (by omega) (by omega) [110, 117, 109, 98, 101, 114, 46, 98, 97, 115, 101] rfl; simpa using h) (by have h := nm_lit 8 10 (by omega) (by omega) [110, 117, 109, 98, 101, 114, 46, 116, 121, 112, 101] rfl; simpa using h) (rknown_at 8 (by omega)) hn ho

theorem rbv_9 : Calls Tryz.prog 17 #[.pointer none, .string (nmN 9), .slice a n cap] W fun e w' => ActV W.heap.size (oneA 9 (wordN 9) l) e w' ∧ Below W.heap.size W w' := by
  have hn := rnum_at E hS (nm_w 9 (by omega)) 0 (by omega)
  unfold oneA
  cases hx : numA (wordN 9) l 1 with
  | inr m =>
    rw [hx] at hn
    exact rbegin_one_bad _ a n cap m W (by have h := nm_lit 9 6 (by omega) (by omega) [110, 117, 109, 98, 101, 114, 46, 109, 97, 120] rfl; simpa using h) (by have h := nm_lit 9 7 (by omega) (by omega) [110, 117, 109, 98, 101, 114, 46, 109, 105, 110] rfl; simpa using h) (by have h := nm_lit 9 4 (by omega) (by omega) [110, 117, 109, 98, 101, 114, 46, 102, 105, 120, 101, 100] rfl; simpa using h) (by have h := nm_lit 9 1 (by omega) (by omega) [110, 117, 109, 98, 101, 114, 46, 98, 97, 115, 101] rfl; simpa using h) (by have h := nm_lit 9 10 (by omega) (by omega) [110, 117, 109, 98, 101, 114, 46, 116, 121, 112, 101] rfl; simpa using h) (rknown_at 9 (by omega)) hn
  | inl v =>
    obtain ⟨P, Q⟩ := v
    have hv := numA_vld hx
    obtain ⟨b1, b2, b3, b4⟩ := vld_bd hv
    rw [hx] at hn
    dsimp only at b1 b2 b3 b4 hv ⊢
    obtain ⟨V, hV, ho⟩ : ∃ V, oneV 9 P Q = V ∧ ∀ w', Calls Tryz.prog 47 #[.string (nmN 9), .agg #[.int .i64 P, .int .i64 Q]] w' fun e w'' => ActIs w'.heap.size 1 0 V.k V.p V.q V.s V.r e w'' ∧ Below w'.heap.size w' w'' := by
      exact ⟨_, rfl, fun w' => rone_sign _ P Q _ _ _ _ _ w' (by have h := nm_lit 9 0 (by omega) (by omega) [110, 117, 109, 98, 101, 114, 46, 97, 98, 115] rfl; simpa using h) (by have h := nm_lit 9 2 (by omega) (by omega) [110, 117, 109, 98, 101, 114, 46, 99, 101, 105, 108] rfl; simpa using h) (by have h := nm_lit 9 5 (by omega) (by omega) [110, 117, 109, 98, 101, 114, 46, 102, 108, 111, 111, 114] rfl; simpa using h) (by have h := nm_lit 9 8 (by omega) (by omega) [110, 117, 109, 98, 101, 114, 46, 110, 117, 109] rfl; simpa using h) (by have h := nm_lit 9 3 (by omega) (by omega) [110, 117, 109, 98, 101, 114, 46, 100, 101, 110] rfl; simpa using h) (by have h := nm_lit 9 9 (by omega) (by omega) [110, 117, 109, 98, 101, 114, 46, 115, 105, 103, 110] rfl; simpa using h) (by omega) (by omega) (ofInt_vv _)⟩
    rw [hV]
    exact rbegin_one_ok _ a n cap P Q V.k V.p V.q V.s V.r W (by have h := nm_lit 9 6 (by omega) (by omega) [110, 117, 109, 98, 101, 114, 46, 109, 97, 120] rfl; simpa using h) (by have h := nm_lit 9 7 (by omega) (by omega) [110, 117, 109, 98, 101, 114, 46, 109, 105, 110] rfl; simpa using h) (by have h := nm_lit 9 4 (by omega) (by omega) [110, 117, 109, 98, 101, 114, 46, 102, 105, 120, 101, 100] rfl; simpa using h) (by have h := nm_lit 9 1 (by omega) (by omega) [110, 117, 109, 98, 101, 114, 46, 98, 97, 115, 101] rfl; simpa using h) (by have h := nm_lit 9 10 (by omega) (by omega) [110, 117, 109, 98, 101, 114, 46, 116, 121, 112, 101] rfl; simpa using h) (rknown_at 9 (by omega)) hn ho

theorem rbegin_at (j : Nat) (hj : j < 11) : Calls Tryz.prog 17 #[.pointer none, .string (nmN j), .slice a n cap] W fun e w' => ActV W.heap.size (beginA j l) e w' ∧ Below W.heap.size W w' := by
  match j, hj with
  | 0, _ => exact rbv_0 E hS
  | 1, _ => exact rbv_1 E hS
  | 2, _ => exact rbv_2 E hS
  | 3, _ => exact rbv_3 E hS
  | 4, _ => exact rbv_4 E hS
  | 5, _ => exact rbv_5 E hS
  | 6, _ => exact rbv_6 E hS
  | 7, _ => exact rbv_7 E hS
  | 8, _ => exact rbv_8 E hS
  | 9, _ => exact rbv_9 E hS
  | 10, _ => exact rbv_10 E hS
end

end Go.Proofs.YtfclmnglckikbaaGreatDoor
