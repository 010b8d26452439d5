/- Numlib's one: what each call returns, where number's contract is given. -/
import Derived.Test.YtfclmnglckikbaaGreatDoorMNlC
namespace Go.Proofs.YtfclmnglckikbaaGreatDoor
open Go.RowKit Go.Instr
set_option linter.unusedVariables false

theorem up_22 {a b g : Nat} (h8 : a + 2 ≤ b) (h9 : b + 2 ≤ g) : a + 2 ≤ g := by omega
theorem up_221 {a b c g : Nat} (h8 : a + 2 ≤ b) (h7 : b + 2 ≤ c) (h9 : c + 1 ≤ g) : a + 2 ≤ g := by omega
theorem up_220 {a b c g : Nat} (h8 : a + 2 ≤ b) (h7 : b + 2 ≤ c) (h9 : c ≤ g) : a + 2 ≤ g := by omega
theorem act_set2 {w : World} {b base kind level g cp : Nat} {k p q : Int} {s : ByteArray} {r : Int} {v0 v1 v2 v3 v4 v5 v6 v7 v8 v9 v10 v11 : Value} {K L : Int} {hK : K = kind} {hL : L = level} (hne : b ≠ g) (h1 : base ≤ g) (h : Cells5 w g k p q s r) :
    ActIs base kind level k p q s r (.returned (.agg #[.int .i64 K, .int .i64 0, .int .i64 0, .int .i64 0, .int .i64 0, .string ⟨#[]⟩, .int .i64 0, .slice (some ⟨g, 0, none⟩) 1 cp, .string ⟨#[]⟩, .int .i64 L, .int .i64 0, .slice none 0 0])) ((((((((((((w.setCell ⟨b, 0, none⟩ v0).setCell ⟨b, 1, none⟩ v1).setCell ⟨b, 2, none⟩ v2).setCell ⟨b, 3, none⟩ v3).setCell ⟨b, 4, none⟩ v4).setCell ⟨b, 5, none⟩ v5).setCell ⟨b, 6, none⟩ v6).setCell ⟨b, 7, none⟩ v7).setCell ⟨b, 8, none⟩ v8).setCell ⟨b, 9, none⟩ v9).setCell ⟨b, 10, none⟩ v10).setCell ⟨b, 11, none⟩ v11) := by
  subst hK hL
  exact ⟨g, cp, rfl, h1, Cells5.set hne (Cells5.set hne (Cells5.set hne (Cells5.set hne (Cells5.set hne (Cells5.set hne (Cells5.set hne (Cells5.set hne (Cells5.set hne (Cells5.set hne (Cells5.set hne (Cells5.set hne h)))))))))))⟩
abbrev NumOk (W : World) (word : ByteArray) (a : Option Addr) (n cap : Nat) (i P Q : Int) : Prop := ∀ w, Below W.heap.size W w → Calls Tryz.prog 59 #[.agg #[.string word, .slice a n cap], .int .i64 i] w fun e w' => e = .returned (.tuple #[.agg #[.int .i64 P, .int .i64 Q], act0, .bool true]) ∧ Below w.heap.size w w'
abbrev NumBad (W : World) (word : ByteArray) (a : Option Addr) (n cap : Nat) (i : Int) (m : ByteArray) : Prop := ∀ w, Below W.heap.size W w → Calls Tryz.prog 59 #[.agg #[.string word, .slice a n cap], .int .i64 i] w fun e w' => (∃ g cp : Nat, e = .returned (.tuple #[.agg #[.int .i64 0, .int .i64 0], actV 2 g cp 1, .bool false]) ∧ w.heap.size ≤ g ∧ Cells5 w' g 3 0 0 m 0) ∧ Below w.heap.size w w'


set_option maxHeartbeats 3200000 in
set_option maxRecDepth 100000 in
theorem one_num (word : ByteArray) (a : Option Addr) (n cap : Nat) (P Q k p q : Int) (s : ByteArray) (r : Int) (w : World) (hn : NumOk w word a n cap 1 P Q) (he : ofInt P = vV k p q s r) :
    Calls Tryz.prog 36 #[.agg #[.string word, .slice a n cap], .int .i64 8] w fun e w' => ActIs w.heap.size 1 0 k p q s r e w' ∧ Below w.heap.size w w' := by
  have HN := Lib.hid hn
  have HI : Hid (∀ w', Calls Tryz.prog 68 #[.int .i64 P] w' fun e w'' => ActIs w'.heap.size 1 0 k p q s r e w'' ∧ Below w'.heap.size w' w'') := fun w' => integral_v P k p q s r w' he
  clear he
  clear hn
  have fr0 := fun i => frozen_out w (w.heap.size) i (by omega)
  have fr1 := fun i => frozen_out w (w.heap.size + 1) i (by omega)
  go_enter Tryz.func36, Tryz.ntmps36
  go_wp2_with (first | (go_at_call 59; refine (HN.out _ ?_).mono ?_; (focus ((repeat' (first | (with_reducible exact Below.refl _ _) | (with_reducible assumption) | (with_reducible refine Below.alloc ?_ ?_ _) | (with_reducible refine below_drewN ?_ _) | (with_reducible refine Below.drew ?_) | (with_reducible refine Below.setCell ?_ ?_ _) | (with_reducible refine below_via (by assumption) ?_ ?_) | (with_reducible refine below_via (later_below _) ?_ ?_) | (with_reducible exact Nat.le_refl _) | omega | (simp; omega) | (simp; done))))); rintro e w8 ⟨rfl, hb⟩; (refine mem hb ?_; intro N hN hz hc hf; (try simp at hN); subst hN)) | (go_at_call 68; refine (HI.out _).mono ?_; rintro e w9 ⟨⟨g, cp, rfl, hg, hcl⟩, hb⟩; (refine mem hb ?_; intro N hN hz hc hf; (try simp at hN); subst hN)))
  ((try simp only [Exit.inBlock, Exit.then]); refine bodyPost_ret (by first | (simp [results, Tryz.results36, go_sem, *]; done) | (simp [results, Tryz.results36, go_sem, *]; rfl) | (simp [results, Tryz.results36, go_sem, ↓IntWalk.iteOmega, *]; try rfl)) rfl ?_)
  have h8 : w.heap.size + 2 ≤ w8.heap.size := by assumption
  have hg3 : w.heap.size + 2 ≤ g := by
    have h9 : w8.heap.size + 2 ≤ g := by simpa using hg
    exact up_22 h8 h9
  obtain ⟨g1, g2⟩ := up2 hg3
  refine ⟨act_set2 (hK := rfl) (hL := rfl) g2 g1 hcl, ?_⟩
  (repeat' (first | (with_reducible exact Below.refl _ _) | (with_reducible assumption) | (with_reducible refine Below.alloc ?_ ?_ _) | (with_reducible refine below_drewN ?_ _) | (with_reducible refine Below.drew ?_) | (with_reducible refine Below.setCell ?_ ?_ _) | (with_reducible refine below_via (by assumption) ?_ ?_) | (with_reducible refine below_via (later_below _) ?_ ?_) | (with_reducible exact Nat.le_refl _) | omega | (simp; omega) | (simp; done)))


set_option maxHeartbeats 3200000 in
set_option maxRecDepth 100000 in
theorem one_den (word : ByteArray) (a : Option Addr) (n cap : Nat) (P Q k p q : Int) (s : ByteArray) (r : Int) (w : World) (hn : NumOk w word a n cap 1 P Q) (he : ofInt Q = vV k p q s r) :
    Calls Tryz.prog 36 #[.agg #[.string word, .slice a n cap], .int .i64 3] w fun e w' => ActIs w.heap.size 1 0 k p q s r e w' ∧ Below w.heap.size w w' := by
  have HN := Lib.hid hn
  have HI : Hid (∀ w', Calls Tryz.prog 68 #[.int .i64 Q] w' fun e w'' => ActIs w'.heap.size 1 0 k p q s r e w'' ∧ Below w'.heap.size w' w'') := fun w' => integral_v Q k p q s r w' he
  clear he
  clear hn
  have fr0 := fun i => frozen_out w (w.heap.size) i (by omega)
  have fr1 := fun i => frozen_out w (w.heap.size + 1) i (by omega)
  go_enter Tryz.func36, Tryz.ntmps36
  go_wp2_with (first | (go_at_call 59; refine (HN.out _ ?_).mono ?_; (focus ((repeat' (first | (with_reducible exact Below.refl _ _) | (with_reducible assumption) | (with_reducible refine Below.alloc ?_ ?_ _) | (with_reducible refine below_drewN ?_ _) | (with_reducible refine Below.drew ?_) | (with_reducible refine Below.setCell ?_ ?_ _) | (with_reducible refine below_via (by assumption) ?_ ?_) | (with_reducible refine below_via (later_below _) ?_ ?_) | (with_reducible exact Nat.le_refl _) | omega | (simp; omega) | (simp; done))))); rintro e w8 ⟨rfl, hb⟩; (refine mem hb ?_; intro N hN hz hc hf; (try simp at hN); subst hN)) | (go_at_call 68; refine (HI.out _).mono ?_; rintro e w9 ⟨⟨g, cp, rfl, hg, hcl⟩, hb⟩; (refine mem hb ?_; intro N hN hz hc hf; (try simp at hN); subst hN)))
  ((try simp only [Exit.inBlock, Exit.then]); refine bodyPost_ret (by first | (simp [results, Tryz.results36, go_sem, *]; done) | (simp [results, Tryz.results36, go_sem, *]; rfl) | (simp [results, Tryz.results36, go_sem, ↓IntWalk.iteOmega, *]; try rfl)) rfl ?_)
  have h8 : w.heap.size + 2 ≤ w8.heap.size := by assumption
  have hg3 : w.heap.size + 2 ≤ g := by
    have h9 : w8.heap.size + 2 ≤ g := by simpa using hg
    exact up_22 h8 h9
  obtain ⟨g1, g2⟩ := up2 hg3
  refine ⟨act_set2 (hK := rfl) (hL := rfl) g2 g1 hcl, ?_⟩
  (repeat' (first | (with_reducible exact Below.refl _ _) | (with_reducible assumption) | (with_reducible refine Below.alloc ?_ ?_ _) | (with_reducible refine below_drewN ?_ _) | (with_reducible refine Below.drew ?_) | (with_reducible refine Below.setCell ?_ ?_ _) | (with_reducible refine below_via (by assumption) ?_ ?_) | (with_reducible refine below_via (later_below _) ?_ ?_) | (with_reducible exact Nat.le_refl _) | omega | (simp; omega) | (simp; done)))


set_option maxHeartbeats 3200000 in
set_option maxRecDepth 100000 in
theorem one_floor (word : ByteArray) (a : Option Addr) (n cap : Nat) (P Q k p q : Int) (s : ByteArray) (r : Int) (w : World) (hp : -9223372036854775808 ≤ P) (hp' : P ≤ 9223372036854775807) (hn : NumOk w word a n cap 1 P Q) (hb1 : -9223372036854775808 ≤ (floorT P Q).1) (hb2 : (floorT P Q).1 ≤ 9223372036854775807) (he : ofNumV (floorT P Q).1 (floorT P Q).2.1 = vV k p q s r) :
    Calls Tryz.prog 36 #[.agg #[.string word, .slice a n cap], .int .i64 5] w fun e w' => ActIs w.heap.size 1 0 k p q s r e w' ∧ Below w.heap.size w w' := by
  have HN := Lib.hid hn
  have HF : Hid (∀ w', Calls Tryz.prog 67 #[.agg #[.int .i64 P, .int .i64 Q]] w' fun e w'' => e = .returned (.tuple #[.agg #[.int .i64 (floorT P Q).1, .int .i64 (floorT P Q).2.1], .int .i64 (floorT P Q).2.2]) ∧ Below w'.heap.size w' w'') := fun w' => flr_any P Q w' hp hp'
  have HI : Hid (∀ w', Calls Tryz.prog 60 #[.agg #[.int .i64 (floorT P Q).1, .int .i64 (floorT P Q).2.1]] w' fun e w'' => ActIs w'.heap.size 1 0 k p q s r e w'' ∧ Below w'.heap.size w' w'') := fun w' => result_v _ _ k p q s r w' hb1 hb2 he
  clear he hb1 hb2
  generalize (floorT P Q).1 = F1 at HF HI
  generalize (floorT P Q).2.1 = F2 at HF HI
  generalize (floorT P Q).2.2 = F3 at HF
  clear hn
  have fr0 := fun i => frozen_out w (w.heap.size) i (by omega)
  have fr1 := fun i => frozen_out w (w.heap.size + 1) i (by omega)
  go_enter Tryz.func36, Tryz.ntmps36
  go_wp2_with (first | (go_at_call 59; refine (HN.out _ ?_).mono ?_; (focus ((repeat' (first | (with_reducible exact Below.refl _ _) | (with_reducible assumption) | (with_reducible refine Below.alloc ?_ ?_ _) | (with_reducible refine below_drewN ?_ _) | (with_reducible refine Below.drew ?_) | (with_reducible refine Below.setCell ?_ ?_ _) | (with_reducible refine below_via (by assumption) ?_ ?_) | (with_reducible refine below_via (later_below _) ?_ ?_) | (with_reducible exact Nat.le_refl _) | omega | (simp; omega) | (simp; done))))); rintro e w8 ⟨rfl, hb⟩; (refine mem hb ?_; intro N hN hz hc hf; (try simp at hN); subst hN)) | (go_at_call 67; refine (HF.out _).mono ?_; rintro e w7 ⟨rfl, hb⟩; (refine mem hb ?_; intro N hN hz hc hf; (try simp at hN); subst hN)) | (go_at_call 60; refine (HI.out _).mono ?_; rintro e w9 ⟨⟨g, cp, rfl, hg, hcl⟩, hb⟩; (refine mem hb ?_; intro N hN hz hc hf; (try simp at hN); subst hN)))
  ((try simp only [Exit.inBlock, Exit.then]); refine bodyPost_ret (by first | (simp [results, Tryz.results36, go_sem, *]; done) | (simp [results, Tryz.results36, go_sem, *]; rfl) | (simp [results, Tryz.results36, go_sem, ↓IntWalk.iteOmega, *]; try rfl)) rfl ?_)
  have h8 : w.heap.size + 2 ≤ w8.heap.size := by assumption
  have hg3 : w.heap.size + 2 ≤ g := by
    have h7 : w8.heap.size + 2 ≤ w7.heap.size := by assumption
    have h9 : w7.heap.size + 1 ≤ g := by simpa using hg
    exact up_221 h8 h7 h9
  obtain ⟨g1, g2⟩ := up2 hg3
  refine ⟨act_set2 (hK := rfl) (hL := rfl) g2 g1 hcl, ?_⟩
  (repeat' (first | (with_reducible exact Below.refl _ _) | (with_reducible assumption) | (with_reducible refine Below.alloc ?_ ?_ _) | (with_reducible refine below_drewN ?_ _) | (with_reducible refine Below.drew ?_) | (with_reducible refine Below.setCell ?_ ?_ _) | (with_reducible refine below_via (by assumption) ?_ ?_) | (with_reducible refine below_via (later_below _) ?_ ?_) | (with_reducible exact Nat.le_refl _) | omega | (simp; omega) | (simp; done)))


set_option maxHeartbeats 3200000 in
set_option maxRecDepth 100000 in
theorem one_ceil (word : ByteArray) (a : Option Addr) (n cap : Nat) (P Q k p q : Int) (s : ByteArray) (r : Int) (w : World) (hp : -9223372036854775808 ≤ P) (hp' : P ≤ 9223372036854775807) (hn : NumOk w word a n cap 1 P Q) (hb1 : -9223372036854775808 ≤ (ceilT P Q).1) (hb2 : (ceilT P Q).1 ≤ 9223372036854775807) (he : ofNumV (ceilT P Q).1 (ceilT P Q).2.1 = vV k p q s r) :
    Calls Tryz.prog 36 #[.agg #[.string word, .slice a n cap], .int .i64 2] w fun e w' => ActIs w.heap.size 1 0 k p q s r e w' ∧ Below w.heap.size w w' := by
  have HN := Lib.hid hn
  have HF : Hid (∀ w', Calls Tryz.prog 66 #[.agg #[.int .i64 P, .int .i64 Q]] w' fun e w'' => e = .returned (.tuple #[.agg #[.int .i64 (ceilT P Q).1, .int .i64 (ceilT P Q).2.1], .int .i64 (ceilT P Q).2.2]) ∧ Below w'.heap.size w' w'') := fun w' => ceil_any P Q w' hp hp'
  have HI : Hid (∀ w', Calls Tryz.prog 60 #[.agg #[.int .i64 (ceilT P Q).1, .int .i64 (ceilT P Q).2.1]] w' fun e w'' => ActIs w'.heap.size 1 0 k p q s r e w'' ∧ Below w'.heap.size w' w'') := fun w' => result_v _ _ k p q s r w' hb1 hb2 he
  clear he hb1 hb2
  generalize (ceilT P Q).1 = F1 at HF HI
  generalize (ceilT P Q).2.1 = F2 at HF HI
  generalize (ceilT P Q).2.2 = F3 at HF
  clear hn
  have fr0 := fun i => frozen_out w (w.heap.size) i (by omega)
  have fr1 := fun i => frozen_out w (w.heap.size + 1) i (by omega)
  go_enter Tryz.func36, Tryz.ntmps36
  go_wp2_with (first | (go_at_call 59; refine (HN.out _ ?_).mono ?_; (focus ((repeat' (first | (with_reducible exact Below.refl _ _) | (with_reducible assumption) | (with_reducible refine Below.alloc ?_ ?_ _) | (with_reducible refine below_drewN ?_ _) | (with_reducible refine Below.drew ?_) | (with_reducible refine Below.setCell ?_ ?_ _) | (with_reducible refine below_via (by assumption) ?_ ?_) | (with_reducible refine below_via (later_below _) ?_ ?_) | (with_reducible exact Nat.le_refl _) | omega | (simp; omega) | (simp; done))))); rintro e w8 ⟨rfl, hb⟩; (refine mem hb ?_; intro N hN hz hc hf; (try simp at hN); subst hN)) | (go_at_call 66; refine (HF.out _).mono ?_; rintro e w7 ⟨rfl, hb⟩; (refine mem hb ?_; intro N hN hz hc hf; (try simp at hN); subst hN)) | (go_at_call 60; refine (HI.out _).mono ?_; rintro e w9 ⟨⟨g, cp, rfl, hg, hcl⟩, hb⟩; (refine mem hb ?_; intro N hN hz hc hf; (try simp at hN); subst hN)))
  ((try simp only [Exit.inBlock, Exit.then]); refine bodyPost_ret (by first | (simp [results, Tryz.results36, go_sem, *]; done) | (simp [results, Tryz.results36, go_sem, *]; rfl) | (simp [results, Tryz.results36, go_sem, ↓IntWalk.iteOmega, *]; try rfl)) rfl ?_)
  have h8 : w.heap.size + 2 ≤ w8.heap.size := by assumption
  have hg3 : w.heap.size + 2 ≤ g := by
    have h7 : w8.heap.size + 2 ≤ w7.heap.size := by assumption
    have h9 : w7.heap.size + 1 ≤ g := by simpa using hg
    exact up_221 h8 h7 h9
  obtain ⟨g1, g2⟩ := up2 hg3
  refine ⟨act_set2 (hK := rfl) (hL := rfl) g2 g1 hcl, ?_⟩
  (repeat' (first | (with_reducible exact Below.refl _ _) | (with_reducible assumption) | (with_reducible refine Below.alloc ?_ ?_ _) | (with_reducible refine below_drewN ?_ _) | (with_reducible refine Below.drew ?_) | (with_reducible refine Below.setCell ?_ ?_ _) | (with_reducible refine below_via (by assumption) ?_ ?_) | (with_reducible refine below_via (later_below _) ?_ ?_) | (with_reducible exact Nat.le_refl _) | omega | (simp; omega) | (simp; done)))


set_option maxHeartbeats 3200000 in
set_option maxRecDepth 100000 in
theorem one_sign (word : ByteArray) (a : Option Addr) (n cap : Nat) (P Q k p q : Int) (s : ByteArray) (r : Int) (w : World) (hp : -9223372036854775808 ≤ P) (hp' : P ≤ 9223372036854775807) (hn : NumOk w word a n cap 1 P Q) (he : ofInt (cmpT P Q 0 1) = vV k p q s r) :
    Calls Tryz.prog 36 #[.agg #[.string word, .slice a n cap], .int .i64 9] w fun e w' => ActIs w.heap.size 1 0 k p q s r e w' ∧ Below w.heap.size w w' := by
  have HN := Lib.hid hn
  have HF : Hid (∀ w', Calls Tryz.prog 21 #[.agg #[.int .i64 P, .int .i64 Q], .agg #[.int .i64 0, .int .i64 1]] w' fun e w'' => e = .returned (.int .i64 (cmpT P Q 0 1)) ∧ Below w'.heap.size w' w'') := fun w' => cmp_any P Q 0 1 w' hp hp' (by omega) (by omega)
  have HI : Hid (∀ w', Calls Tryz.prog 68 #[.int .i64 (cmpT P Q 0 1)] w' fun e w'' => ActIs w'.heap.size 1 0 k p q s r e w'' ∧ Below w'.heap.size w' w'') := fun w' => integral_v _ k p q s r w' he
  clear he
  generalize cmpT P Q 0 1 = C at HF HI
  clear hn
  have fr0 := fun i => frozen_out w (w.heap.size) i (by omega)
  have fr1 := fun i => frozen_out w (w.heap.size + 1) i (by omega)
  go_enter Tryz.func36, Tryz.ntmps36
  go_wp2_with (first | (go_at_call 59; refine (HN.out _ ?_).mono ?_; (focus ((repeat' (first | (with_reducible exact Below.refl _ _) | (with_reducible assumption) | (with_reducible refine Below.alloc ?_ ?_ _) | (with_reducible refine below_drewN ?_ _) | (with_reducible refine Below.drew ?_) | (with_reducible refine Below.setCell ?_ ?_ _) | (with_reducible refine below_via (by assumption) ?_ ?_) | (with_reducible refine below_via (later_below _) ?_ ?_) | (with_reducible exact Nat.le_refl _) | omega | (simp; omega) | (simp; done))))); rintro e w8 ⟨rfl, hb⟩; (refine mem hb ?_; intro N hN hz hc hf; (try simp at hN); subst hN)) | (go_at_call 21; refine (HF.out _).mono ?_; rintro e w7 ⟨rfl, hb⟩; (refine mem hb ?_; intro N hN hz hc hf; (try simp at hN); subst hN)) | (go_at_call 68; refine (HI.out _).mono ?_; rintro e w9 ⟨⟨g, cp, rfl, hg, hcl⟩, hb⟩; (refine mem hb ?_; intro N hN hz hc hf; (try simp at hN); subst hN)))
  ((try simp only [Exit.inBlock, Exit.then]); refine bodyPost_ret (by first | (simp [results, Tryz.results36, go_sem, *]; done) | (simp [results, Tryz.results36, go_sem, *]; rfl) | (simp [results, Tryz.results36, go_sem, ↓IntWalk.iteOmega, *]; try rfl)) rfl ?_)
  have h8 : w.heap.size + 2 ≤ w8.heap.size := by assumption
  have hg3 : w.heap.size + 2 ≤ g := by
    have h7 : w8.heap.size + 2 ≤ w7.heap.size := by assumption
    have h9 : w7.heap.size ≤ g := by simpa using hg
    exact up_220 h8 h7 h9
  obtain ⟨g1, g2⟩ := up2 hg3
  refine ⟨act_set2 (hK := rfl) (hL := rfl) g2 g1 hcl, ?_⟩
  (repeat' (first | (with_reducible exact Below.refl _ _) | (with_reducible assumption) | (with_reducible refine Below.alloc ?_ ?_ _) | (with_reducible refine below_drewN ?_ _) | (with_reducible refine Below.drew ?_) | (with_reducible refine Below.setCell ?_ ?_ _) | (with_reducible refine below_via (by assumption) ?_ ?_) | (with_reducible refine below_via (later_below _) ?_ ?_) | (with_reducible exact Nat.le_refl _) | omega | (simp; omega) | (simp; done)))


set_option maxHeartbeats 3200000 in
set_option maxRecDepth 100000 in
theorem one_abs (word : ByteArray) (a : Option Addr) (n cap : Nat) (P Q k p q : Int) (s : ByteArray) (r : Int) (w : World) (hp : -9223372036854775807 ≤ P) (hp' : P ≤ 9223372036854775807) (h0 : 0 ≤ P) (hn : NumOk w word a n cap 1 P Q) (he : ofNumV P Q = vV k p q s r) :
    Calls Tryz.prog 36 #[.agg #[.string word, .slice a n cap], .int .i64 0] w fun e w' => ActIs w.heap.size 1 0 k p q s r e w' ∧ Below w.heap.size w w' := by
  have HN := Lib.hid hn
  have HI : Hid (∀ w', Calls Tryz.prog 60 #[.agg #[.int .i64 P, .int .i64 Q]] w' fun e w'' => ActIs w'.heap.size 1 0 k p q s r e w'' ∧ Below w'.heap.size w' w'') := fun w' => result_v _ _ k p q s r w' (by omega) (by omega) he
  clear he
  have hmx : max P (-P) = P := by omega
  clear hn
  have fr0 := fun i => frozen_out w (w.heap.size) i (by omega)
  have fr1 := fun i => frozen_out w (w.heap.size + 1) i (by omega)
  go_enter Tryz.func36, Tryz.ntmps36
  go_wp2_with (first | (go_at_call 59; refine (HN.out _ ?_).mono ?_; (focus ((repeat' (first | (with_reducible exact Below.refl _ _) | (with_reducible assumption) | (with_reducible refine Below.alloc ?_ ?_ _) | (with_reducible refine below_drewN ?_ _) | (with_reducible refine Below.drew ?_) | (with_reducible refine Below.setCell ?_ ?_ _) | (with_reducible refine below_via (by assumption) ?_ ?_) | (with_reducible refine below_via (later_below _) ?_ ?_) | (with_reducible exact Nat.le_refl _) | omega | (simp; omega) | (simp; done))))); rintro e w8 ⟨rfl, hb⟩; (refine mem hb ?_; intro N hN hz hc hf; (try simp at hN); subst hN)) | (go_at_call 60; refine (HI.out _).mono ?_; rintro e w9 ⟨⟨g, cp, rfl, hg, hcl⟩, hb⟩; (refine mem hb ?_; intro N hN hz hc hf; (try simp at hN); subst hN)))
  ((try simp only [Exit.inBlock, Exit.then]); refine bodyPost_ret (by first | (simp [results, Tryz.results36, go_sem, *]; done) | (simp [results, Tryz.results36, go_sem, *]; rfl) | (simp [results, Tryz.results36, go_sem, ↓IntWalk.iteOmega, *]; try rfl)) rfl ?_)
  have h8 : w.heap.size + 2 ≤ w8.heap.size := by assumption
  have hg3 : w.heap.size + 2 ≤ g := by
    have h9 : w8.heap.size + 2 ≤ g := by simpa using hg
    exact up_22 h8 h9
  obtain ⟨g1, g2⟩ := up2 hg3
  refine ⟨act_set2 (hK := rfl) (hL := rfl) g2 g1 hcl, ?_⟩
  (repeat' (first | (with_reducible exact Below.refl _ _) | (with_reducible assumption) | (with_reducible refine Below.alloc ?_ ?_ _) | (with_reducible refine below_drewN ?_ _) | (with_reducible refine Below.drew ?_) | (with_reducible refine Below.setCell ?_ ?_ _) | (with_reducible refine below_via (by assumption) ?_ ?_) | (with_reducible refine below_via (later_below _) ?_ ?_) | (with_reducible exact Nat.le_refl _) | omega | (simp; omega) | (simp; done)))


set_option maxHeartbeats 3200000 in
set_option maxRecDepth 100000 in
theorem one_abs_neg (word : ByteArray) (a : Option Addr) (n cap : Nat) (P Q k p q : Int) (s : ByteArray) (r : Int) (w : World) (hp : -9223372036854775807 ≤ P) (hp' : P ≤ 9223372036854775807) (h0 : P < 0) (hn : NumOk w word a n cap 1 P Q) (he : ofNumV (-P) Q = vV k p q s r) :
    Calls Tryz.prog 36 #[.agg #[.string word, .slice a n cap], .int .i64 0] w fun e w' => ActIs w.heap.size 1 0 k p q s r e w' ∧ Below w.heap.size w w' := by
  have HN := Lib.hid hn
  have HI : Hid (∀ w', Calls Tryz.prog 60 #[.agg #[.int .i64 (-P), .int .i64 Q]] w' fun e w'' => ActIs w'.heap.size 1 0 k p q s r e w'' ∧ Below w'.heap.size w' w'') := fun w' => result_v _ _ k p q s r w' (by omega) (by omega) he
  clear he
  have hmx : max P (-P) = (-P) := by omega
  clear hn
  have fr0 := fun i => frozen_out w (w.heap.size) i (by omega)
  have fr1 := fun i => frozen_out w (w.heap.size + 1) i (by omega)
  go_enter Tryz.func36, Tryz.ntmps36
  go_wp2_with (first | (go_at_call 59; refine (HN.out _ ?_).mono ?_; (focus ((repeat' (first | (with_reducible exact Below.refl _ _) | (with_reducible assumption) | (with_reducible refine Below.alloc ?_ ?_ _) | (with_reducible refine below_drewN ?_ _) | (with_reducible refine Below.drew ?_) | (with_reducible refine Below.setCell ?_ ?_ _) | (with_reducible refine below_via (by assumption) ?_ ?_) | (with_reducible refine below_via (later_below _) ?_ ?_) | (with_reducible exact Nat.le_refl _) | omega | (simp; omega) | (simp; done))))); rintro e w8 ⟨rfl, hb⟩; (refine mem hb ?_; intro N hN hz hc hf; (try simp at hN); subst hN)) | (go_at_call 60; refine (HI.out _).mono ?_; rintro e w9 ⟨⟨g, cp, rfl, hg, hcl⟩, hb⟩; (refine mem hb ?_; intro N hN hz hc hf; (try simp at hN); subst hN)))
  ((try simp only [Exit.inBlock, Exit.then]); refine bodyPost_ret (by first | (simp [results, Tryz.results36, go_sem, *]; done) | (simp [results, Tryz.results36, go_sem, *]; rfl) | (simp [results, Tryz.results36, go_sem, ↓IntWalk.iteOmega, *]; try rfl)) rfl ?_)
  have h8 : w.heap.size + 2 ≤ w8.heap.size := by assumption
  have hg3 : w.heap.size + 2 ≤ g := by
    have h9 : w8.heap.size + 2 ≤ g := by simpa using hg
    exact up_22 h8 h9
  obtain ⟨g1, g2⟩ := up2 hg3
  refine ⟨act_set2 (hK := rfl) (hL := rfl) g2 g1 hcl, ?_⟩
  (repeat' (first | (with_reducible exact Below.refl _ _) | (with_reducible assumption) | (with_reducible refine Below.alloc ?_ ?_ _) | (with_reducible refine below_drewN ?_ _) | (with_reducible refine Below.drew ?_) | (with_reducible refine Below.setCell ?_ ?_ _) | (with_reducible refine below_via (by assumption) ?_ ?_) | (with_reducible refine below_via (later_below _) ?_ ?_) | (with_reducible exact Nat.le_refl _) | omega | (simp; omega) | (simp; done)))

end Go.Proofs.YtfclmnglckikbaaGreatDoor

/- Numlib's one where its argument is no number: what each call returns. -/
namespace Go.Proofs.YtfclmnglckikbaaGreatDoor
open Go.RowKit Go.Instr
set_option linter.unusedVariables false

set_option maxHeartbeats 3200000 in
set_option maxRecDepth 100000 in
theorem one_bad (word : ByteArray) (a : Option Addr) (n cap : Nat) (f : Int) (m : ByteArray) (w : World) (hn : NumBad w word a n cap 1 m) :
    Calls Tryz.prog 36 #[.agg #[.string word, .slice a n cap], .int .i64 f] w fun e w' => ActIs w.heap.size 2 1 3 0 0 m 0 e w' ∧ Below w.heap.size w w' := by
  have HN := Lib.hid hn
  clear hn
  have fr0 := fun i => frozen_out w (w.heap.size) i (by omega)
  have fr1 := fun i => frozen_out w (w.heap.size + 1) i (by omega)
  go_enter Tryz.func36, Tryz.ntmps36
  go_wp2_with (first | (go_at_call 59; refine (HN.out _ ?_).mono ?_; (focus ((repeat' (first | (with_reducible exact Below.refl _ _) | (with_reducible assumption) | (with_reducible refine Below.alloc ?_ ?_ _) | (with_reducible refine below_drewN ?_ _) | (with_reducible refine Below.drew ?_) | (with_reducible refine Below.setCell ?_ ?_ _) | (with_reducible refine below_via (by assumption) ?_ ?_) | (with_reducible refine below_via (later_below _) ?_ ?_) | (with_reducible exact Nat.le_refl _) | omega | (simp; omega) | (simp; done))))); rintro e w8 ⟨⟨g, cp, rfl, hg, hcl⟩, hb⟩; (refine mem hb ?_; intro N hN hz hc hf; (try simp at hN); subst hN)))
  ((try simp only [Exit.inBlock, Exit.then]); refine bodyPost_ret (by first | (simp [results, Tryz.results36, go_sem, *]; done) | (simp [results, Tryz.results36, go_sem, *]; rfl) | (simp [results, Tryz.results36, go_sem, ↓IntWalk.iteOmega, *]; try rfl)) rfl ?_)
  have hg3 : w.heap.size + 2 ≤ g := by simpa using hg
  obtain ⟨g1, g2⟩ := up2 hg3
  refine ⟨act_set2 (hK := rfl) (hL := rfl) g2 g1 (hcl.below ?_), ?_⟩
  · (repeat' (first | (with_reducible exact Below.refl _ _) | (with_reducible assumption) | (with_reducible refine Below.alloc ?_ ?_ _) | (with_reducible refine below_drewN ?_ _) | (with_reducible refine Below.drew ?_) | (with_reducible refine Below.setCell ?_ ?_ _) | (with_reducible refine below_via (by assumption) ?_ ?_) | (with_reducible refine below_via (later_below _) ?_ ?_) | (with_reducible exact Nat.le_refl _) | omega | (simp; omega) | (simp; done)))
  · (repeat' (first | (with_reducible exact Below.refl _ _) | (with_reducible assumption) | (with_reducible refine Below.alloc ?_ ?_ _) | (with_reducible refine below_drewN ?_ _) | (with_reducible refine Below.drew ?_) | (with_reducible refine Below.setCell ?_ ?_ _) | (with_reducible refine below_via (by assumption) ?_ ?_) | (with_reducible refine below_via (later_below _) ?_ ?_) | (with_reducible exact Nat.le_refl _) | omega | (simp; omega) | (simp; done)))
end Go.Proofs.YtfclmnglckikbaaGreatDoor
