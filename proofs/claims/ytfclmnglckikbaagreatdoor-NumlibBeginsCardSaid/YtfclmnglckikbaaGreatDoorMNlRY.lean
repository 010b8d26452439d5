/- The reference's Number: what each call returns. -/
import Derived.Test.YtfclmnglckikbaaGreatDoorMNlRX
import Derived.Test.YtfclmnglckikbaaGreatDoorMRefB
import Derived.Test.YtfclmnglckikbaaGreatDoorMRefA
import Derived.Test.YtfclmnglckikbaaGreatDoorMNlG
import Derived.RegionTactic
namespace Go.Proofs.YtfclmnglckikbaaGreatDoor
open Go.RowKit Go.Instr
set_option linter.unusedVariables false

abbrev RParseSays (s : ByteArray) (P Q E : Int) : Prop := ∀ w, Calls Tryz.prog 99 #[.string s] w fun e w' => e = .returned (.tuple #[.agg #[.int .i64 P, .int .i64 Q], .int .i64 E]) ∧ Below w.heap.size w w'
abbrev RNumSays (k p q : Int) (s : ByteArray) (r P Q E : Int) : Prop := ∀ w, Calls Tryz.prog 78 #[vV k p q s r] w fun e w' => e = .returned (.tuple #[.agg #[.int .i64 P, .int .i64 Q], .int .i64 E]) ∧ Below w.heap.size w w'

set_option maxHeartbeats 1000000 in
set_option maxRecDepth 100000 in
theorem rnum_num (p q : Int) (s : ByteArray) (r : Int) (hp : -9223372036854775808 ≤ p) (hp' : p ≤ 9223372036854775807) (hv : vldB p q = true) : RNumSays 2 p q s r p q 0 := by
  intro w
  go_enter Tryz.func78, Tryz.ntmps78
  go_wp2_with (first | (go_at_call 30; refine (rvalid_any _ _ _ (by omega) (by omega)).mono ?_; rintro e w1 ⟨rfl, hb⟩; (refine mem hb ?_; intro N hN hz hc hf; (try simp at hN); subst hN)))
  ((try simp only [Exit.inBlock, Exit.then]); refine bodyPost_ret (by first | (simp [results, Tryz.results78, go_sem, *]; done) | (simp [results, Tryz.results78, go_sem, *]; rfl) | (simp [results, Tryz.results78, go_sem, ↓IntWalk.iteOmega, *]; try rfl)) rfl ?_)
  refine ⟨rfl, ?_⟩
  (repeat' (first | (with_reducible exact Below.refl _ _) | (with_reducible assumption) | (with_reducible refine Below.alloc ?_ ?_ _) | (with_reducible refine below_drewN ?_ _) | (with_reducible refine Below.drew ?_) | (with_reducible refine Below.setCell ?_ ?_ _) | (with_reducible refine below_via (by assumption) ?_ ?_) | (with_reducible refine below_via (later_below _) ?_ ?_) | (with_reducible exact Nat.le_refl _) | omega | (simp; omega) | (simp; done)))
set_option maxHeartbeats 1000000 in
set_option maxRecDepth 100000 in
theorem rnum_nan (p q : Int) (s : ByteArray) (r : Int) (hp : -9223372036854775808 ≤ p) (hp' : p ≤ 9223372036854775807) (hv : vldB p q = false) : RNumSays 2 p q s r 0 0 8 := by
  intro w
  go_enter Tryz.func78, Tryz.ntmps78
  go_wp2_with (first | (go_at_call 30; refine (rvalid_any _ _ _ (by omega) (by omega)).mono ?_; rintro e w1 ⟨rfl, hb⟩; (refine mem hb ?_; intro N hN hz hc hf; (try simp at hN); subst hN)))
  ((try simp only [Exit.inBlock, Exit.then]); refine bodyPost_ret (by first | (simp [results, Tryz.results78, go_sem, *]; done) | (simp [results, Tryz.results78, go_sem, *]; rfl) | (simp [results, Tryz.results78, go_sem, ↓IntWalk.iteOmega, *]; try rfl)) rfl ?_)
  refine ⟨rfl, ?_⟩
  (repeat' (first | (with_reducible exact Below.refl _ _) | (with_reducible assumption) | (with_reducible refine Below.alloc ?_ ?_ _) | (with_reducible refine below_drewN ?_ _) | (with_reducible refine Below.drew ?_) | (with_reducible refine Below.setCell ?_ ?_ _) | (with_reducible refine below_via (by assumption) ?_ ?_) | (with_reducible refine below_via (later_below _) ?_ ?_) | (with_reducible exact Nat.le_refl _) | omega | (simp; omega) | (simp; done)))
set_option maxHeartbeats 1000000 in
set_option maxRecDepth 100000 in
theorem rnum_str (p q : Int) (s : ByteArray) (r P Q : Int) (h : RParseSays s P Q 0) : RNumSays 3 p q s r P Q 0 := by
  intro w
  have HP := Lib.hid h
  clear h
  go_enter Tryz.func78, Tryz.ntmps78
  go_wp2_with (first | (go_at_call 99; refine (HP.out _).mono ?_; rintro e w1 ⟨rfl, hb⟩; (refine mem hb ?_; intro N hN hz hc hf; (try simp at hN); subst hN)))
  ((try simp only [Exit.inBlock, Exit.then]); refine bodyPost_ret (by first | (simp [results, Tryz.results78, go_sem, *]; done) | (simp [results, Tryz.results78, go_sem, *]; rfl) | (simp [results, Tryz.results78, go_sem, ↓IntWalk.iteOmega, *]; try rfl)) rfl ?_)
  refine ⟨rfl, ?_⟩
  (repeat' (first | (with_reducible exact Below.refl _ _) | (with_reducible assumption) | (with_reducible refine Below.alloc ?_ ?_ _) | (with_reducible refine below_drewN ?_ _) | (with_reducible refine Below.drew ?_) | (with_reducible refine Below.setCell ?_ ?_ _) | (with_reducible refine below_via (by assumption) ?_ ?_) | (with_reducible refine below_via (later_below _) ?_ ?_) | (with_reducible exact Nat.le_refl _) | omega | (simp; omega) | (simp; done)))
set_option maxHeartbeats 1000000 in
set_option maxRecDepth 100000 in
theorem rnum_bad (p q : Int) (s : ByteArray) (r P Q E : Int) (hE : ¬ E = 0) (h : RParseSays s P Q E) : RNumSays 3 p q s r 0 0 8 := by
  intro w
  have HP := Lib.hid h
  have hE2 : (E == 0) = false := by simpa using hE
  clear h
  go_enter Tryz.func78, Tryz.ntmps78
  go_wp2_with (first | (go_at_call 99; refine (HP.out _).mono ?_; rintro e w1 ⟨rfl, hb⟩; (refine mem hb ?_; intro N hN hz hc hf; (try simp at hN); subst hN)))
  ((try simp only [Exit.inBlock, Exit.then]); refine bodyPost_ret (by first | (simp [results, Tryz.results78, go_sem, *]; done) | (simp [results, Tryz.results78, go_sem, *]; rfl) | (simp [results, Tryz.results78, go_sem, ↓IntWalk.iteOmega, *]; try rfl)) rfl ?_)
  refine ⟨rfl, ?_⟩
  (repeat' (first | (with_reducible exact Below.refl _ _) | (with_reducible assumption) | (with_reducible refine Below.alloc ?_ ?_ _) | (with_reducible refine below_drewN ?_ _) | (with_reducible refine Below.drew ?_) | (with_reducible refine Below.setCell ?_ ?_ _) | (with_reducible refine below_via (by assumption) ?_ ?_) | (with_reducible refine below_via (later_below _) ?_ ?_) | (with_reducible exact Nat.le_refl _) | omega | (simp; omega) | (simp; done)))
set_option maxHeartbeats 1000000 in
set_option maxRecDepth 100000 in
theorem rnum_none11 (k p q : Int) (s : ByteArray) (r : Int) (h2 : ¬ k = 2) (h3 : ¬ k = 3) : RNumSays k p q s r 0 0 8 := by
  intro w
  have e2 : (k == 2) = false := by simpa using h2
  have e3 : (k == 3) = false := by simpa using h3
  go_enter Tryz.func78, Tryz.ntmps78
  go_wp2_with fail
  ((try simp only [Exit.inBlock, Exit.then]); refine bodyPost_ret (by first | (simp [results, Tryz.results78, go_sem, *]; done) | (simp [results, Tryz.results78, go_sem, *]; rfl) | (simp [results, Tryz.results78, go_sem, ↓IntWalk.iteOmega, *]; try rfl)) rfl ?_)
  refine ⟨rfl, ?_⟩
  (repeat' (first | (with_reducible exact Below.refl _ _) | (with_reducible assumption) | (with_reducible refine Below.alloc ?_ ?_ _) | (with_reducible refine below_drewN ?_ _) | (with_reducible refine Below.drew ?_) | (with_reducible refine Below.setCell ?_ ?_ _) | (with_reducible refine below_via (by assumption) ?_ ?_) | (with_reducible refine below_via (later_below _) ?_ ?_) | (with_reducible exact Nat.le_refl _) | omega | (simp; omega) | (simp; done)))
theorem rnumber_v (k p q : Int) (s : ByteArray) (r : Int) (hs : s.size ≤ 4200) (hp : -9223372036854775808 ≤ p) (hp' : p ≤ 9223372036854775807) : RNumSays k p q s r (numV3 k p q s).1 (numV3 k p q s).2.1 (numV3 k p q s).2.2 := by
  unfold numV3
  by_cases h2 : k = 2
  · subst h2
    rw [if_pos rfl]
    cases hv : vldB p q
    · exact rnum_nan p q s r hp hp' hv
    · exact rnum_num p q s r hp hp' hv
  · rw [if_neg h2]
    by_cases h3 : k = 3
    · subst h3
      rw [if_pos rfl]
      have c := fun w => rparse_any s hs w
      by_cases he : (parseL s.data.toList).2.2 = 0
      · rw [if_pos he]
        refine rnum_str p q s r _ _ fun w => ?_
        have := c w
        unfold tripV at this
        rw [he] at this
        exact this
      · rw [if_neg he]
        exact rnum_bad p q s r _ _ _ he c
    · rw [if_neg h3]
      exact rnum_none11 k p q s r h2 h3
end Go.Proofs.YtfclmnglckikbaaGreatDoor

/- The reference's bad and number: what each call returns. -/
namespace Go.Proofs.YtfclmnglckikbaaGreatDoor
open Go.RowKit Go.Instr
set_option linter.unusedVariables false

theorem upj {x b g : Nat} (j : Nat) (h : x ≤ b) (h2 : b + j ≤ g) : x ≤ g := by omega
theorem ups1 {a g : Nat} (h : a + 1 ≤ g) : a ≤ g ∧ a ≠ g ∧ a ≠ g := by omega
theorem ups2 {a g : Nat} (h : a + 2 ≤ g) : a ≤ g ∧ a ≠ g ∧ a + 1 ≠ g := by omega
set_option maxHeartbeats 3200000 in
set_option maxRecDepth 100000 in
theorem rbad_one (NM word : ByteArray) (i : Nat) (reason : ByteArray) (w : World) (hx : NM.extract 7 NM.size = word) (h7 : 7 ≤ NM.size) (hn : NM.size ≤ 100) (hw : word.size ≤ 100) (hr : reason.size ≤ 100) (hi : i ≤ 10000) :
    Calls Tryz.prog 75 #[.string NM, .int .i64 i, .string reason] w fun e w' => ActIs w.heap.size 2 1 3 0 0 (badS word ((i : Int) + 1) reason) 0 e w' ∧ Below w.heap.size w w' := by
  have hsz := badS_size word ((i : Int) + 1) reason (by omega) (by omega)
  have HE : Hid (∀ w', Calls Tryz.prog 39 #[.string (badS word ((i : Int) + 1) reason)] w' fun e w'' => ActIs w'.heap.size 2 1 3 0 0 (badS word ((i : Int) + 1) reason) 0 e w'' ∧ Below w'.heap.size w' w'') := fun w' => rerror_one _ w' (by omega)
  have HI : Hid (∀ w', Calls Tryz.prog 97 #[.int .i64 ((i : Int) + 1)] w' fun e w'' => e = .returned (.string (mkS (Lib.itoa ((i : Int) + 1)))) ∧ Below w'.heap.size w' w'') := fun w' => rdec_any _ (by omega) (by omega) w'
  have hI0 := Lib.itoa_length_le ((i : Int) + 1) (by omega) (by omega)
  have hIs : (mkS (Lib.itoa ((i : Int) + 1))).size ≤ 21 := by rw [mkS_size]; exact hI0
  unfold badS at HE ⊢
  obtain ⟨I, hI⟩ : ∃ I, mkS (Lib.itoa ((i : Int) + 1)) = I := ⟨_, rfl⟩
  rw [hI] at HE HI hIs ⊢
  have hwr : IntKind.i64.wrap ((i : Int) + 1) = (i : Int) + 1 := IntWalk.i64_in _ (by omega)
  have z1 : ¬ 9223372036854775807 < 14 + I.size := by omega
  have z2 : ¬ 9223372036854775807 < 14 + I.size + 5 := by omega
  have z3 : ¬ 9223372036854775807 < 14 + I.size + 5 + word.size := by omega
  have z4 : ¬ 9223372036854775807 < 14 + I.size + 5 + word.size + 3 := by omega
  have z5 : ¬ 9223372036854775807 < 14 + I.size + 5 + word.size + 3 + reason.size := by omega
  have z6 : ¬ 9223372036854775807 < 14 + I.size + 5 + word.size + 3 + reason.size + 1 := by omega
  have fr0 := fun i => frozen_out w (w.heap.size) i (by omega)
  have hz7 : (7 : Int) ≤ (NM.size : Int) := by omega
  have hx2 : NM.extract (Int.toNat 7) NM.size = word := hx
  clear hI hI0 hsz
  go_enter Tryz.func75, Tryz.ntmps75
  go_wp2_with fail
  go_region_held3 (fun _ => True) (trivial) (first | (go_at_call 97; (with_reducible refine (HI.out _).mono ?_); rintro e w8 ⟨rfl, hb⟩; (refine mem hb ?_; intro N hN hz hc hf; (try simp at hN); subst hN)) | (go_at_call 39; (with_reducible refine (HE.out _).mono ?_); rintro e w9 ⟨⟨g, cp, rfl, hg, hcl⟩, hb⟩; (refine mem hb ?_; intro N hN hz hc hf; (try simp at hN); subst hN)))
  all_goals
    go_wp2_with fail
    ((try simp only [Exit.inBlock, Exit.then]); refine bodyPost_ret (by first | (simp [results, Tryz.results75, go_sem, *]; done) | (simp [results, Tryz.results75, go_sem, *]; rfl) | (simp [results, Tryz.results75, go_sem, ↓IntWalk.iteOmega, *]; try rfl)) rfl ?_)
    have hg3 : w.heap.size + 1 ≤ g := Nat.le_trans (by assumption) hg
    obtain ⟨g1, g2⟩ := up1 hg3
    refine ⟨act_mk rfl rfl g1 ?_, ?_⟩
    · repeat (with_reducible refine Cells5.set (by exact g2) ?_)
      exact hcl
    · (repeat' (first | (with_reducible exact Below.refl _ _) | (with_reducible assumption) | (with_reducible refine Below.alloc ?_ ?_ _) | (with_reducible refine below_drewN ?_ _) | (with_reducible refine Below.drew ?_) | (with_reducible refine Below.setCell ?_ ?_ _) | (with_reducible refine below_via (by assumption) ?_ ?_) | (with_reducible refine below_via (later_below _) ?_ ?_) | (with_reducible exact Nat.le_refl _) | omega | (simp; omega) | (simp; done)))

abbrev RNumOk (W : World) (NM : ByteArray) (a : Option Addr) (n cap : Nat) (i P Q : Int) : Prop := ∀ w, Below W.heap.size W w → Calls Tryz.prog 46 #[.string NM, .slice a n cap, .int .i64 i] w fun e w' => e = .returned (.tuple #[.agg #[.int .i64 P, .int .i64 Q], act0, .bool true]) ∧ Below w.heap.size w w'
abbrev RNumBad (W : World) (NM : ByteArray) (a : Option Addr) (n cap : Nat) (i : Int) (m : ByteArray) : Prop := ∀ w, Below W.heap.size W w → Calls Tryz.prog 46 #[.string NM, .slice a n cap, .int .i64 i] w fun e w' => (∃ g cp : Nat, e = .returned (.tuple #[.agg #[.int .i64 0, .int .i64 0], actV 2 g cp 1, .bool false]) ∧ w.heap.size ≤ g ∧ Cells5 w' g 3 0 0 m 0) ∧ Below w.heap.size w w'
abbrev RBadSays (W : World) (NM : ByteArray) (i : Int) (reason m : ByteArray) : Prop := ∀ w, Below W.heap.size W w → Calls Tryz.prog 75 #[.string NM, .int .i64 i, .string reason] w fun e w' => ActIs w.heap.size 2 1 3 0 0 m 0 e w' ∧ Below w.heap.size w w'

set_option maxHeartbeats 3200000 in
set_option maxRecDepth 100000 in
theorem rnumber_ok (NM : ByteArray) (a : Option Addr) (n cap : Nat) (i k p q : Int) (s : ByteArray) (r P Q : Int) (w : World) (ha : RArgSays w a n cap i k p q s r) (hv : RNumSays k p q s r P Q 0) :
    Calls Tryz.prog 46 #[.string NM, .slice a n cap, .int .i64 i] w fun e w' => e = .returned (.tuple #[.agg #[.int .i64 P, .int .i64 Q], act0, .bool true]) ∧ Below w.heap.size w w' := by
  have HA := Lib.hid ha
  have HV := Lib.hid hv
  clear ha hv
  have fr0 := fun i => frozen_out w (w.heap.size) i (by omega)
  have fr1 := fun i => frozen_out w (w.heap.size + 1) i (by omega)
  have fr2 := fun i => frozen_out w (w.heap.size + 1 + 1) i (by omega)
  have fr3 := fun i => frozen_out w (w.heap.size + 1 + 1 + 1) i (by omega)
  go_enter Tryz.func46, Tryz.ntmps46
  go_wp2_with (first | (go_at_call 43; (with_reducible refine (HA.out _ ?_).mono ?_); (focus ((repeat' (first | (with_reducible exact Below.refl _ _) | (with_reducible assumption) | (with_reducible refine Below.alloc ?_ ?_ _) | (with_reducible refine below_drewN ?_ _) | (with_reducible refine Below.drew ?_) | (with_reducible refine Below.setCell ?_ ?_ _) | (with_reducible refine below_via (by assumption) ?_ ?_) | (with_reducible refine below_via (later_below _) ?_ ?_) | (with_reducible exact Nat.le_refl _) | omega | (simp; omega) | (simp; done))))); rintro e w8 ⟨rfl, hb⟩; (refine mem hb ?_; intro N hN hz hc hf; (try simp at hN); subst hN)) | (go_at_call 78; (with_reducible refine (HV.out _).mono ?_); rintro e w9 ⟨rfl, hb⟩; (refine mem hb ?_; intro N hN hz hc hf; (try simp at hN); subst hN)))
  ((try simp only [Exit.inBlock, Exit.then]); refine bodyPost_ret (by first | (simp [results, Tryz.results46, go_sem, *]; done) | (simp [results, Tryz.results46, go_sem, *]; rfl) | (simp [results, Tryz.results46, go_sem, ↓IntWalk.iteOmega, *]; try rfl)) rfl ?_)
  refine ⟨rfl, ?_⟩
  (repeat' (first | (with_reducible exact Below.refl _ _) | (with_reducible assumption) | (with_reducible refine Below.alloc ?_ ?_ _) | (with_reducible refine below_drewN ?_ _) | (with_reducible refine Below.drew ?_) | (with_reducible refine Below.setCell ?_ ?_ _) | (with_reducible refine below_via (by assumption) ?_ ?_) | (with_reducible refine below_via (later_below _) ?_ ?_) | (with_reducible exact Nat.le_refl _) | omega | (simp; omega) | (simp; done)))

set_option maxHeartbeats 3200000 in
set_option maxRecDepth 100000 in
theorem rnumber_bad (NM : ByteArray) (a : Option Addr) (n cap : Nat) (i k p q : Int) (s : ByteArray) (r : Int) (m : ByteArray) (w : World) (ha : RArgSays w a n cap i k p q s r) (hv : RNumSays k p q s r 0 0 8) (hB : RBadSays w NM i (gotS k) m) :
    Calls Tryz.prog 46 #[.string NM, .slice a n cap, .int .i64 i] w fun e w' => (∃ g cp : Nat, e = .returned (.tuple #[.agg #[.int .i64 0, .int .i64 0], actV 2 g cp 1, .bool false]) ∧ w.heap.size ≤ g ∧ Cells5 w' g 3 0 0 m 0) ∧ Below w.heap.size w w' := by
  have HA := Lib.hid ha
  have HV := Lib.hid hv
  have HB := Lib.hid hB
  have HY : Hid (∀ w', Calls Tryz.prog 79 #[vV k p q s r] w' fun e w'' => e = .returned (.string (typeN k)) ∧ Below w'.heap.size w' w'') := fun w' => rtype_v k p q s r w'
  have hts := typeN_size k
  unfold gotS at HB
  clear ha hv hB
  generalize typeN k = T at *
  have hcat : ¬ 9223372036854775807 < 21 + T.size := by omega
  have fr0 := fun i => frozen_out w (w.heap.size) i (by omega)
  have fr1 := fun i => frozen_out w (w.heap.size + 1) i (by omega)
  have fr2 := fun i => frozen_out w (w.heap.size + 1 + 1) i (by omega)
  have fr3 := fun i => frozen_out w (w.heap.size + 1 + 1 + 1) i (by omega)
  go_enter Tryz.func46, Tryz.ntmps46
  go_wp2_with (first | (go_at_call 43; (with_reducible refine (HA.out _ ?_).mono ?_); (focus ((repeat' (first | (with_reducible exact Below.refl _ _) | (with_reducible assumption) | (with_reducible refine Below.alloc ?_ ?_ _) | (with_reducible refine below_drewN ?_ _) | (with_reducible refine Below.drew ?_) | (with_reducible refine Below.setCell ?_ ?_ _) | (with_reducible refine below_via (by assumption) ?_ ?_) | (with_reducible refine below_via (later_below _) ?_ ?_) | (with_reducible exact Nat.le_refl _) | omega | (simp; omega) | (simp; done))))); rintro e w8 ⟨rfl, hb⟩; (refine mem hb ?_; intro N hN hz hc hf; (try simp at hN); subst hN)) | (go_at_call 78; (with_reducible refine (HV.out _).mono ?_); rintro e w9 ⟨rfl, hb⟩; (refine mem hb ?_; intro N hN hz hc hf; (try simp at hN); subst hN)) | (go_at_call 79; (with_reducible refine (HY.out _).mono ?_); rintro e w10 ⟨rfl, hb⟩; (refine mem hb ?_; intro N hN hz hc hf; (try simp at hN); subst hN)) | (go_at_call 75; (with_reducible refine (HB.out _ ?_).mono ?_); (focus ((repeat' (first | (with_reducible exact Below.refl _ _) | (with_reducible assumption) | (with_reducible refine Below.alloc ?_ ?_ _) | (with_reducible refine below_drewN ?_ _) | (with_reducible refine Below.drew ?_) | (with_reducible refine Below.setCell ?_ ?_ _) | (with_reducible refine below_via (by assumption) ?_ ?_) | (with_reducible refine below_via (later_below _) ?_ ?_) | (with_reducible exact Nat.le_refl _) | omega | (simp; omega) | (simp; done))))); rintro e w11 ⟨⟨g, cp, rfl, hg, hcl⟩, hb⟩; (refine mem hb ?_; intro N hN hz hc hf; (try simp at hN); subst hN)))
  ((try simp only [Exit.inBlock, Exit.then]); refine bodyPost_ret (by first | (simp [results, Tryz.results46, go_sem, *]; done) | (simp [results, Tryz.results46, go_sem, *]; rfl) | (simp [results, Tryz.results46, go_sem, ↓IntWalk.iteOmega, *]; try rfl)) rfl ?_)
  have s0 : w.heap.size + 2 ≤ w8.heap.size := by assumption
  have s1 : w8.heap.size + 1 ≤ w9.heap.size := by assumption
  have s2 : w9.heap.size + 1 ≤ w10.heap.size := by assumption
  have s3 : w10.heap.size ≤ g := by simpa using hg
  have hg3 : w.heap.size + 2 ≤ g := (Nat.le_trans (upj 1 (upj 1 s0 s1) s2) s3)
  obtain ⟨g1, g2, g3⟩ := ups2 hg3
  refine ⟨⟨g, cp, rfl, g1, ?_⟩, ?_⟩
  · repeat (first | (with_reducible refine Cells5.drew ?_) | (with_reducible refine Cells5.set (by first | exact g2 | exact g3) ?_))
    first | exact hcl | (refine hcl.below ?_; (repeat' (first | (with_reducible exact Below.refl _ _) | (with_reducible assumption) | (with_reducible refine Below.alloc ?_ ?_ _) | (with_reducible refine below_drewN ?_ _) | (with_reducible refine Below.drew ?_) | (with_reducible refine Below.setCell ?_ ?_ _) | (with_reducible refine below_via (by assumption) ?_ ?_) | (with_reducible refine below_via (later_below _) ?_ ?_) | (with_reducible exact Nat.le_refl _) | omega | (simp; omega) | (simp; done))))
  · (repeat' (first | (with_reducible exact Below.refl _ _) | (with_reducible assumption) | (with_reducible refine Below.alloc ?_ ?_ _) | (with_reducible refine below_drewN ?_ _) | (with_reducible refine Below.drew ?_) | (with_reducible refine Below.setCell ?_ ?_ _) | (with_reducible refine below_via (by assumption) ?_ ?_) | (with_reducible refine below_via (later_below _) ?_ ?_) | (with_reducible exact Nat.le_refl _) | omega | (simp; omega) | (simp; done)))

/-- What number answers at argument i, from 0 on. -/
def RNumAt (W : World) (NM : ByteArray) (a : Option Addr) (n cap : Nat) (i : Int) : (Int × Int) ⊕ ByteArray → Prop
  | .inl v => RNumOk W NM a n cap i v.1 v.2
  | .inr m => RNumBad W NM a n cap i m
/-- A function's name, and its word. -/
structure NmW (NM word : ByteArray) : Prop where
  ext : NM.extract 7 NM.size = word
  seven : 7 ≤ NM.size
  few : NM.size ≤ 100
  wfew : word.size ≤ 100
theorem rbad_says {NM word : ByteArray} (h : NmW NM word) (W : World) (i : Nat) (hi : i ≤ 10000) (reason : ByteArray) (hr : reason.size ≤ 100) : RBadSays W NM i reason (badS word ((i + 1 : Nat) : Int) reason) :=
  fun w _ => rbad_one NM word i reason w h.ext h.seven h.few h.wfew hr hi
theorem rnum_at {W : World} {a : Option Addr} {n cap : Nat} {l : List VV} (E : Env W a n cap l) (hS : ∀ i, (argV l i).s.size ≤ 4200) {NM word : ByteArray} (h : NmW NM word) (i : Nat) (hi : i ≤ 5000) : RNumAt W NM a n cap i (numA word l (i + 1)) := by
  have hfew := E.few
  have hv := rnumber_v (argV l i).k (argV l i).p (argV l i).q (argV l i).s (argV l i).r (hS _) (E.low _) (E.high _)
  unfold numA
  rw [Nat.add_sub_cancel]
  by_cases h0 : (numV3 (argV l i).k (argV l i).p (argV l i).q (argV l i).s).2.2 = 0
  · rw [if_pos h0]
    rw [h0] at hv
    intro w hb
    exact rnumber_ok NM a n cap i _ _ _ _ _ _ _ w (rarg_is ((E.later hb).arg i) cap (by omega)) hv
  · rw [if_neg h0]
    rw [numV3_bad h0] at hv
    intro w hb
    have hg := gotS_size (argV l i).k
    exact rnumber_bad NM a n cap i _ _ _ _ _ _ w (rarg_is ((E.later hb).arg i) cap (by omega)) hv (rbad_says h w i (by omega) _ (by omega))
theorem RNumOk.later {W w : World} {NM : ByteArray} {a : Option Addr} {n cap : Nat} {i P Q : Int} (h : RNumOk W NM a n cap i P Q) (hb : Below W.heap.size W w) : RNumOk w NM a n cap i P Q := fun w' hb' => h w' (hb.trans (hb'.mono hb.size))
theorem RNumBad.later {W w : World} {NM : ByteArray} {a : Option Addr} {n cap : Nat} {i : Int} {m : ByteArray} (h : RNumBad W NM a n cap i m) (hb : Below W.heap.size W w) : RNumBad w NM a n cap i m := fun w' hb' => h w' (hb.trans (hb'.mono hb.size))

end Go.Proofs.YtfclmnglckikbaaGreatDoor

/- The reference's whole: what each call returns. -/
namespace Go.Proofs.YtfclmnglckikbaaGreatDoor
open Go.RowKit Go.Instr
set_option linter.unusedVariables false

abbrev RIntOk (W : World) (NM : ByteArray) (a : Option Addr) (n cap : Nat) (i std N : Int) : Prop := ∀ w, Below W.heap.size W w → Calls Tryz.prog 73 #[.string NM, .slice a n cap, .int .i64 i, .int .i64 std] w fun e w' => e = .returned (.tuple #[.int .i64 N, act0, .bool true]) ∧ Below w.heap.size w w'
abbrev RIntBad (W : World) (NM : ByteArray) (a : Option Addr) (n cap : Nat) (i std : Int) (m : ByteArray) : Prop := ∀ w, Below W.heap.size W w → Calls Tryz.prog 73 #[.string NM, .slice a n cap, .int .i64 i, .int .i64 std] w fun e w' => (∃ g cp : Nat, e = .returned (.tuple #[.int .i64 0, actV 2 g cp 1, .bool false]) ∧ w.heap.size ≤ g ∧ Cells5 w' g 3 0 0 m 0) ∧ Below w.heap.size w w'

set_option maxHeartbeats 3200000 in
set_option maxRecDepth 100000 in
theorem rwhole_std (NM : ByteArray) (a : Option Addr) (n cap : Nat) (std p q : Int) (s : ByteArray) (r : Int) (w : World) (ha : RArgSays w a n cap 1 0 p q s r) :
    Calls Tryz.prog 73 #[.string NM, .slice a n cap, .int .i64 1, .int .i64 std] w fun e w' => e = .returned (.tuple #[.int .i64 std, act0, .bool true]) ∧ Below w.heap.size w w' := by
  have HA := Lib.hid ha
  clear ha
  have hfd := fun w' => field_kind 0 p q s r w'
  have fr0 := fun i => frozen_out w (w.heap.size) i (by omega)
  have fr1 := fun i => frozen_out w (w.heap.size + 1) i (by omega)
  go_enter Tryz.func73, Tryz.ntmps73
  go_wp2_with (first | (go_at_call 43; (with_reducible refine (HA.out _ ?_).mono ?_); (focus ((repeat' (first | (with_reducible exact Below.refl _ _) | (with_reducible assumption) | (with_reducible refine Below.alloc ?_ ?_ _) | (with_reducible refine below_drewN ?_ _) | (with_reducible refine Below.drew ?_) | (with_reducible refine Below.setCell ?_ ?_ _) | (with_reducible refine below_via (by assumption) ?_ ?_) | (with_reducible refine below_via (later_below _) ?_ ?_) | (with_reducible exact Nat.le_refl _) | omega | (simp; omega) | (simp; done))))); rintro e w8 ⟨rfl, hb⟩; (refine mem hb ?_; intro N hN hz hc hf; (try simp at hN); subst hN)))
  ((try simp only [Exit.inBlock, Exit.then]); refine bodyPost_ret (by first | (simp [results, Tryz.results73, go_sem, *]; done) | (simp [results, Tryz.results73, go_sem, *]; rfl) | (simp [results, Tryz.results73, go_sem, ↓IntWalk.iteOmega, *]; try rfl)) rfl ?_)
  refine ⟨rfl, ?_⟩
  (repeat' (first | (with_reducible exact Below.refl _ _) | (with_reducible assumption) | (with_reducible refine Below.alloc ?_ ?_ _) | (with_reducible refine below_drewN ?_ _) | (with_reducible refine Below.drew ?_) | (with_reducible refine Below.setCell ?_ ?_ _) | (with_reducible refine below_via (by assumption) ?_ ?_) | (with_reducible refine below_via (later_below _) ?_ ?_) | (with_reducible exact Nat.le_refl _) | omega | (simp; omega) | (simp; done)))

set_option maxHeartbeats 3200000 in
set_option maxRecDepth 100000 in
theorem rwhole_ok0 (NM : ByteArray) (a : Option Addr) (n cap : Nat) (std P : Int) (w : World) (hp : -9223372036854775808 ≤ P) (hp' : P ≤ 9223372036854775807) (hv : vldB P 1 = true) (hn : RNumOk w NM a n cap 0 P 1) :
    Calls Tryz.prog 73 #[.string NM, .slice a n cap, .int .i64 0, .int .i64 std] w fun e w' => e = .returned (.tuple #[.int .i64 P, act0, .bool true]) ∧ Below w.heap.size w w' := by
  have hwb : wholeB P 1 = true := by unfold wholeB; rw [hv]; rfl
  have HW : Hid (∀ w', Calls Tryz.prog 95 #[.agg #[.int .i64 P, .int .i64 1]] w' fun e w'' => e = .returned (.tuple #[.int .i64 P, .bool true]) ∧ Below w'.heap.size w' w'') := fun w' => by have h := rwhole_any P 1 w' hp hp'; unfold wholeV at h; rw [hwb, if_pos rfl] at h; exact h
  have HN := Lib.hid hn
  clear hn hwb hv
  have fr0 := fun i => frozen_out w (w.heap.size) i (by omega)
  have fr1 := fun i => frozen_out w (w.heap.size + 1) i (by omega)
  go_enter Tryz.func73, Tryz.ntmps73
  go_wp2_with (first | (go_at_call 46; (with_reducible refine (HN.out _ ?_).mono ?_); (focus ((repeat' (first | (with_reducible exact Below.refl _ _) | (with_reducible assumption) | (with_reducible refine Below.alloc ?_ ?_ _) | (with_reducible refine below_drewN ?_ _) | (with_reducible refine Below.drew ?_) | (with_reducible refine Below.setCell ?_ ?_ _) | (with_reducible refine below_via (by assumption) ?_ ?_) | (with_reducible refine below_via (later_below _) ?_ ?_) | (with_reducible exact Nat.le_refl _) | omega | (simp; omega) | (simp; done))))); rintro e w9 ⟨rfl, hb⟩; (refine mem hb ?_; intro N hN hz hc hf; (try simp at hN); subst hN)) | (go_at_call 95; (with_reducible refine (HW.out _).mono ?_); rintro e w7 ⟨rfl, hb⟩; (refine mem hb ?_; intro N hN hz hc hf; (try simp at hN); subst hN)))
  ((try simp only [Exit.inBlock, Exit.then]); refine bodyPost_ret (by first | (simp [results, Tryz.results73, go_sem, *]; done) | (simp [results, Tryz.results73, go_sem, *]; rfl) | (simp [results, Tryz.results73, go_sem, ↓IntWalk.iteOmega, *]; try rfl)) rfl ?_)
  refine ⟨rfl, ?_⟩
  (repeat' (first | (with_reducible exact Below.refl _ _) | (with_reducible assumption) | (with_reducible refine Below.alloc ?_ ?_ _) | (with_reducible refine below_drewN ?_ _) | (with_reducible refine Below.drew ?_) | (with_reducible refine Below.setCell ?_ ?_ _) | (with_reducible refine below_via (by assumption) ?_ ?_) | (with_reducible refine below_via (later_below _) ?_ ?_) | (with_reducible exact Nat.le_refl _) | omega | (simp; omega) | (simp; done)))

set_option maxHeartbeats 3200000 in
set_option maxRecDepth 100000 in
theorem rwhole_badnum0 (NM : ByteArray) (a : Option Addr) (n cap : Nat) (std : Int) (m : ByteArray) (w : World) (hn : RNumBad w NM a n cap 0 m) :
    Calls Tryz.prog 73 #[.string NM, .slice a n cap, .int .i64 0, .int .i64 std] w fun e w' => (∃ g cp : Nat, e = .returned (.tuple #[.int .i64 0, actV 2 g cp 1, .bool false]) ∧ w.heap.size ≤ g ∧ Cells5 w' g 3 0 0 m 0) ∧ Below w.heap.size w w' := by
  have HN := Lib.hid hn
  clear hn
  have fr0 := fun i => frozen_out w (w.heap.size) i (by omega)
  have fr1 := fun i => frozen_out w (w.heap.size + 1) i (by omega)
  go_enter Tryz.func73, Tryz.ntmps73
  go_wp2_with (first | (go_at_call 46; (with_reducible refine (HN.out _ ?_).mono ?_); (focus ((repeat' (first | (with_reducible exact Below.refl _ _) | (with_reducible assumption) | (with_reducible refine Below.alloc ?_ ?_ _) | (with_reducible refine below_drewN ?_ _) | (with_reducible refine Below.drew ?_) | (with_reducible refine Below.setCell ?_ ?_ _) | (with_reducible refine below_via (by assumption) ?_ ?_) | (with_reducible refine below_via (later_below _) ?_ ?_) | (with_reducible exact Nat.le_refl _) | omega | (simp; omega) | (simp; done))))); rintro e w9 ⟨⟨g, cp, rfl, hg, hcl⟩, hb⟩; (refine mem hb ?_; intro N hN hz hc hf; (try simp at hN); subst hN)))
  have hne1 : ¬ w.heap.size = w9.heap.size := by omega
  have hne2 : ¬ w.heap.size = w9.heap.size + 1 := by omega
  go_region
  all_goals
    go_wp2_with fail
    ((try simp only [Exit.inBlock, Exit.then]); refine bodyPost_ret (by first | (simp [results, Tryz.results73, go_sem, *]; done) | (simp [results, Tryz.results73, go_sem, *]; rfl) | (simp [results, Tryz.results73, go_sem, ↓IntWalk.iteOmega, *]; try rfl)) rfl ?_)
    have s0 : w.heap.size + 1 ≤ g := by simpa using hg
    have hg3 : w.heap.size + 1 ≤ g := s0
    obtain ⟨g1, g2, g3⟩ := ups1 hg3
    refine ⟨⟨g, cp, rfl, g1, ?_⟩, ?_⟩
    · repeat (first | (with_reducible refine Cells5.drew ?_) | (with_reducible refine Cells5.set (by first | exact g2 | exact g3) ?_))
      first | exact hcl | (refine hcl.below ?_; (repeat' (first | (with_reducible exact Below.refl _ _) | (with_reducible assumption) | (with_reducible refine Below.alloc ?_ ?_ _) | (with_reducible refine below_drewN ?_ _) | (with_reducible refine Below.drew ?_) | (with_reducible refine Below.setCell ?_ ?_ _) | (with_reducible refine below_via (by assumption) ?_ ?_) | (with_reducible refine below_via (later_below _) ?_ ?_) | (with_reducible exact Nat.le_refl _) | omega | (simp; omega) | (simp; done))))
    · (repeat' (first | (with_reducible exact Below.refl _ _) | (with_reducible assumption) | (with_reducible refine Below.alloc ?_ ?_ _) | (with_reducible refine below_drewN ?_ _) | (with_reducible refine Below.drew ?_) | (with_reducible refine Below.setCell ?_ ?_ _) | (with_reducible refine below_via (by assumption) ?_ ?_) | (with_reducible refine below_via (later_below _) ?_ ?_) | (with_reducible exact Nat.le_refl _) | omega | (simp; omega) | (simp; done)))

set_option maxHeartbeats 3200000 in
set_option maxRecDepth 100000 in
theorem rwhole_badwhole0 (NM : ByteArray) (a : Option Addr) (n cap : Nat) (std P Q : Int) (m : ByteArray) (w : World) (hp : -9223372036854775808 ≤ P) (hp' : P ≤ 9223372036854775807) (hv : wholeB P Q = false) (hn : RNumOk w NM a n cap 0 P Q) (hb : RBadSays w NM 0 intS m) :
    Calls Tryz.prog 73 #[.string NM, .slice a n cap, .int .i64 0, .int .i64 std] w fun e w' => (∃ g cp : Nat, e = .returned (.tuple #[.int .i64 0, actV 2 g cp 1, .bool false]) ∧ w.heap.size ≤ g ∧ Cells5 w' g 3 0 0 m 0) ∧ Below w.heap.size w w' := by
  have HW : Hid (∀ w', Calls Tryz.prog 95 #[.agg #[.int .i64 P, .int .i64 Q]] w' fun e w'' => e = .returned (.tuple #[.int .i64 0, .bool false]) ∧ Below w'.heap.size w' w'') := fun w' => by have h := rwhole_any P Q w' hp hp'; unfold wholeV at h; rw [hv, if_neg (by simp)] at h; exact h
  have HN := Lib.hid hn
  have HB := Lib.hid hb
  unfold intS at HB
  clear hn hv hb
  have fr0 := fun i => frozen_out w (w.heap.size) i (by omega)
  have fr1 := fun i => frozen_out w (w.heap.size + 1) i (by omega)
  go_enter Tryz.func73, Tryz.ntmps73
  go_wp2_with (first | (go_at_call 46; (with_reducible refine (HN.out _ ?_).mono ?_); (focus ((repeat' (first | (with_reducible exact Below.refl _ _) | (with_reducible assumption) | (with_reducible refine Below.alloc ?_ ?_ _) | (with_reducible refine below_drewN ?_ _) | (with_reducible refine Below.drew ?_) | (with_reducible refine Below.setCell ?_ ?_ _) | (with_reducible refine below_via (by assumption) ?_ ?_) | (with_reducible refine below_via (later_below _) ?_ ?_) | (with_reducible exact Nat.le_refl _) | omega | (simp; omega) | (simp; done))))); rintro e w9 ⟨rfl, hb⟩; (refine mem hb ?_; intro N hN hz hc hf; (try simp at hN); subst hN)) | (go_at_call 95; (with_reducible refine (HW.out _).mono ?_); rintro e w7 ⟨rfl, hb⟩; (refine mem hb ?_; intro N hN hz hc hf; (try simp at hN); subst hN)) | (go_at_call 75; (with_reducible refine (HB.out _ ?_).mono ?_); (focus ((repeat' (first | (with_reducible exact Below.refl _ _) | (with_reducible assumption) | (with_reducible refine Below.alloc ?_ ?_ _) | (with_reducible refine below_drewN ?_ _) | (with_reducible refine Below.drew ?_) | (with_reducible refine Below.setCell ?_ ?_ _) | (with_reducible refine below_via (by assumption) ?_ ?_) | (with_reducible refine below_via (later_below _) ?_ ?_) | (with_reducible exact Nat.le_refl _) | omega | (simp; omega) | (simp; done))))); rintro e w6 ⟨⟨g, cp, rfl, hg, hcl⟩, hb⟩; (refine mem hb ?_; intro N hN hz hc hf; (try simp at hN); subst hN)))
  ((try simp only [Exit.inBlock, Exit.then]); refine bodyPost_ret (by first | (simp [results, Tryz.results73, go_sem, *]; done) | (simp [results, Tryz.results73, go_sem, *]; rfl) | (simp [results, Tryz.results73, go_sem, ↓IntWalk.iteOmega, *]; try rfl)) rfl ?_)
  have s0 : w.heap.size + 1 ≤ w9.heap.size := by assumption
  have s1 : w9.heap.size + 2 ≤ w7.heap.size := by assumption
  have s2 : w7.heap.size ≤ g := by simpa using hg
  have hg3 : w.heap.size + 1 ≤ g := (Nat.le_trans (upj 2 s0 s1) s2)
  obtain ⟨g1, g2, g3⟩ := ups1 hg3
  refine ⟨⟨g, cp, rfl, g1, ?_⟩, ?_⟩
  · repeat (first | (with_reducible refine Cells5.drew ?_) | (with_reducible refine Cells5.set (by first | exact g2 | exact g3) ?_))
    first | exact hcl | (refine hcl.below ?_; (repeat' (first | (with_reducible exact Below.refl _ _) | (with_reducible assumption) | (with_reducible refine Below.alloc ?_ ?_ _) | (with_reducible refine below_drewN ?_ _) | (with_reducible refine Below.drew ?_) | (with_reducible refine Below.setCell ?_ ?_ _) | (with_reducible refine below_via (by assumption) ?_ ?_) | (with_reducible refine below_via (later_below _) ?_ ?_) | (with_reducible exact Nat.le_refl _) | omega | (simp; omega) | (simp; done))))
  · (repeat' (first | (with_reducible exact Below.refl _ _) | (with_reducible assumption) | (with_reducible refine Below.alloc ?_ ?_ _) | (with_reducible refine below_drewN ?_ _) | (with_reducible refine Below.drew ?_) | (with_reducible refine Below.setCell ?_ ?_ _) | (with_reducible refine below_via (by assumption) ?_ ?_) | (with_reducible refine below_via (later_below _) ?_ ?_) | (with_reducible exact Nat.le_refl _) | omega | (simp; omega) | (simp; done)))

set_option maxHeartbeats 3200000 in
set_option maxRecDepth 100000 in
theorem rwhole_ok1 (NM : ByteArray) (a : Option Addr) (n cap : Nat) (std P : Int) (w : World) (hp : -9223372036854775808 ≤ P) (hp' : P ≤ 9223372036854775807) (hv : vldB P 1 = true) (hn : RNumOk w NM a n cap 1 P 1) (k p q r : Int) (s : ByteArray) (ha : RArgSays w a n cap 1 k p q s r) (hk : ¬ k = 0) :
    Calls Tryz.prog 73 #[.string NM, .slice a n cap, .int .i64 1, .int .i64 std] w fun e w' => e = .returned (.tuple #[.int .i64 P, act0, .bool true]) ∧ Below w.heap.size w w' := by
  have hwb : wholeB P 1 = true := by unfold wholeB; rw [hv]; rfl
  have HW : Hid (∀ w', Calls Tryz.prog 95 #[.agg #[.int .i64 P, .int .i64 1]] w' fun e w'' => e = .returned (.tuple #[.int .i64 P, .bool true]) ∧ Below w'.heap.size w' w'') := fun w' => by have h := rwhole_any P 1 w' hp hp'; unfold wholeV at h; rw [hwb, if_pos rfl] at h; exact h
  have HN := Lib.hid hn
  clear hn hwb hv
  have HA := Lib.hid ha
  have hfd := fun w' => field_kind k p q s r w'
  have hk2 : (k == 0) = false := by simpa using hk
  clear ha hk
  have fr0 := fun i => frozen_out w (w.heap.size) i (by omega)
  have fr1 := fun i => frozen_out w (w.heap.size + 1) i (by omega)
  go_enter Tryz.func73, Tryz.ntmps73
  go_wp2_with (first | (go_at_call 46; (with_reducible refine (HN.out _ ?_).mono ?_); (focus ((repeat' (first | (with_reducible exact Below.refl _ _) | (with_reducible assumption) | (with_reducible refine Below.alloc ?_ ?_ _) | (with_reducible refine below_drewN ?_ _) | (with_reducible refine Below.drew ?_) | (with_reducible refine Below.setCell ?_ ?_ _) | (with_reducible refine below_via (by assumption) ?_ ?_) | (with_reducible refine below_via (later_below _) ?_ ?_) | (with_reducible exact Nat.le_refl _) | omega | (simp; omega) | (simp; done))))); rintro e w9 ⟨rfl, hb⟩; (refine mem hb ?_; intro N hN hz hc hf; (try simp at hN); subst hN)) | (go_at_call 95; (with_reducible refine (HW.out _).mono ?_); rintro e w7 ⟨rfl, hb⟩; (refine mem hb ?_; intro N hN hz hc hf; (try simp at hN); subst hN)) | (go_at_call 43; (with_reducible refine (HA.out _ ?_).mono ?_); (focus ((repeat' (first | (with_reducible exact Below.refl _ _) | (with_reducible assumption) | (with_reducible refine Below.alloc ?_ ?_ _) | (with_reducible refine below_drewN ?_ _) | (with_reducible refine Below.drew ?_) | (with_reducible refine Below.setCell ?_ ?_ _) | (with_reducible refine below_via (by assumption) ?_ ?_) | (with_reducible refine below_via (later_below _) ?_ ?_) | (with_reducible exact Nat.le_refl _) | omega | (simp; omega) | (simp; done))))); rintro e w8 ⟨rfl, hb⟩; (refine mem hb ?_; intro N hN hz hc hf; (try simp at hN); subst hN)))
  ((try simp only [Exit.inBlock, Exit.then]); refine bodyPost_ret (by first | (simp [results, Tryz.results73, go_sem, *]; done) | (simp [results, Tryz.results73, go_sem, *]; rfl) | (simp [results, Tryz.results73, go_sem, ↓IntWalk.iteOmega, *]; try rfl)) rfl ?_)
  refine ⟨rfl, ?_⟩
  (repeat' (first | (with_reducible exact Below.refl _ _) | (with_reducible assumption) | (with_reducible refine Below.alloc ?_ ?_ _) | (with_reducible refine below_drewN ?_ _) | (with_reducible refine Below.drew ?_) | (with_reducible refine Below.setCell ?_ ?_ _) | (with_reducible refine below_via (by assumption) ?_ ?_) | (with_reducible refine below_via (later_below _) ?_ ?_) | (with_reducible exact Nat.le_refl _) | omega | (simp; omega) | (simp; done)))

set_option maxHeartbeats 3200000 in
set_option maxRecDepth 100000 in
theorem rwhole_badnum1 (NM : ByteArray) (a : Option Addr) (n cap : Nat) (std : Int) (m : ByteArray) (w : World) (hn : RNumBad w NM a n cap 1 m) (k p q r : Int) (s : ByteArray) (ha : RArgSays w a n cap 1 k p q s r) (hk : ¬ k = 0) :
    Calls Tryz.prog 73 #[.string NM, .slice a n cap, .int .i64 1, .int .i64 std] w fun e w' => (∃ g cp : Nat, e = .returned (.tuple #[.int .i64 0, actV 2 g cp 1, .bool false]) ∧ w.heap.size ≤ g ∧ Cells5 w' g 3 0 0 m 0) ∧ Below w.heap.size w w' := by
  have HN := Lib.hid hn
  clear hn
  have HA := Lib.hid ha
  have hfd := fun w' => field_kind k p q s r w'
  have hk2 : (k == 0) = false := by simpa using hk
  clear ha hk
  have fr0 := fun i => frozen_out w (w.heap.size) i (by omega)
  have fr1 := fun i => frozen_out w (w.heap.size + 1) i (by omega)
  go_enter Tryz.func73, Tryz.ntmps73
  go_wp2_with (first | (go_at_call 46; (with_reducible refine (HN.out _ ?_).mono ?_); (focus ((repeat' (first | (with_reducible exact Below.refl _ _) | (with_reducible assumption) | (with_reducible refine Below.alloc ?_ ?_ _) | (with_reducible refine below_drewN ?_ _) | (with_reducible refine Below.drew ?_) | (with_reducible refine Below.setCell ?_ ?_ _) | (with_reducible refine below_via (by assumption) ?_ ?_) | (with_reducible refine below_via (later_below _) ?_ ?_) | (with_reducible exact Nat.le_refl _) | omega | (simp; omega) | (simp; done))))); rintro e w9 ⟨⟨g, cp, rfl, hg, hcl⟩, hb⟩; (refine mem hb ?_; intro N hN hz hc hf; (try simp at hN); subst hN)) | (go_at_call 43; (with_reducible refine (HA.out _ ?_).mono ?_); (focus ((repeat' (first | (with_reducible exact Below.refl _ _) | (with_reducible assumption) | (with_reducible refine Below.alloc ?_ ?_ _) | (with_reducible refine below_drewN ?_ _) | (with_reducible refine Below.drew ?_) | (with_reducible refine Below.setCell ?_ ?_ _) | (with_reducible refine below_via (by assumption) ?_ ?_) | (with_reducible refine below_via (later_below _) ?_ ?_) | (with_reducible exact Nat.le_refl _) | omega | (simp; omega) | (simp; done))))); rintro e w8 ⟨rfl, hb⟩; (refine mem hb ?_; intro N hN hz hc hf; (try simp at hN); subst hN)))
  have hne1 : ¬ w.heap.size = w9.heap.size := by omega
  have hne2 : ¬ w.heap.size = w9.heap.size + 1 := by omega
  go_region
  all_goals
    go_wp2_with fail
    ((try simp only [Exit.inBlock, Exit.then]); refine bodyPost_ret (by first | (simp [results, Tryz.results73, go_sem, *]; done) | (simp [results, Tryz.results73, go_sem, *]; rfl) | (simp [results, Tryz.results73, go_sem, ↓IntWalk.iteOmega, *]; try rfl)) rfl ?_)
    have s0 : w.heap.size + 1 ≤ w8.heap.size := by assumption
    have s1 : w8.heap.size ≤ g := by simpa using hg
    have hg3 : w.heap.size + 1 ≤ g := (Nat.le_trans s0 s1)
    obtain ⟨g1, g2, g3⟩ := ups1 hg3
    refine ⟨⟨g, cp, rfl, g1, ?_⟩, ?_⟩
    · repeat (first | (with_reducible refine Cells5.drew ?_) | (with_reducible refine Cells5.set (by first | exact g2 | exact g3) ?_))
      first | exact hcl | (refine hcl.below ?_; (repeat' (first | (with_reducible exact Below.refl _ _) | (with_reducible assumption) | (with_reducible refine Below.alloc ?_ ?_ _) | (with_reducible refine below_drewN ?_ _) | (with_reducible refine Below.drew ?_) | (with_reducible refine Below.setCell ?_ ?_ _) | (with_reducible refine below_via (by assumption) ?_ ?_) | (with_reducible refine below_via (later_below _) ?_ ?_) | (with_reducible exact Nat.le_refl _) | omega | (simp; omega) | (simp; done))))
    · (repeat' (first | (with_reducible exact Below.refl _ _) | (with_reducible assumption) | (with_reducible refine Below.alloc ?_ ?_ _) | (with_reducible refine below_drewN ?_ _) | (with_reducible refine Below.drew ?_) | (with_reducible refine Below.setCell ?_ ?_ _) | (with_reducible refine below_via (by assumption) ?_ ?_) | (with_reducible refine below_via (later_below _) ?_ ?_) | (with_reducible exact Nat.le_refl _) | omega | (simp; omega) | (simp; done)))

set_option maxHeartbeats 3200000 in
set_option maxRecDepth 100000 in
theorem rwhole_badwhole1 (NM : ByteArray) (a : Option Addr) (n cap : Nat) (std P Q : Int) (m : ByteArray) (w : World) (hp : -9223372036854775808 ≤ P) (hp' : P ≤ 9223372036854775807) (hv : wholeB P Q = false) (hn : RNumOk w NM a n cap 1 P Q) (hb : RBadSays w NM 1 intS m) (k p q r : Int) (s : ByteArray) (ha : RArgSays w a n cap 1 k p q s r) (hk : ¬ k = 0) :
    Calls Tryz.prog 73 #[.string NM, .slice a n cap, .int .i64 1, .int .i64 std] w fun e w' => (∃ g cp : Nat, e = .returned (.tuple #[.int .i64 0, actV 2 g cp 1, .bool false]) ∧ w.heap.size ≤ g ∧ Cells5 w' g 3 0 0 m 0) ∧ Below w.heap.size w w' := by
  have HW : Hid (∀ w', Calls Tryz.prog 95 #[.agg #[.int .i64 P, .int .i64 Q]] w' fun e w'' => e = .returned (.tuple #[.int .i64 0, .bool false]) ∧ Below w'.heap.size w' w'') := fun w' => by have h := rwhole_any P Q w' hp hp'; unfold wholeV at h; rw [hv, if_neg (by simp)] at h; exact h
  have HN := Lib.hid hn
  have HB := Lib.hid hb
  unfold intS at HB
  clear hn hv hb
  have HA := Lib.hid ha
  have hfd := fun w' => field_kind k p q s r w'
  have hk2 : (k == 0) = false := by simpa using hk
  clear ha hk
  have fr0 := fun i => frozen_out w (w.heap.size) i (by omega)
  have fr1 := fun i => frozen_out w (w.heap.size + 1) i (by omega)
  go_enter Tryz.func73, Tryz.ntmps73
  go_wp2_with (first | (go_at_call 46; (with_reducible refine (HN.out _ ?_).mono ?_); (focus ((repeat' (first | (with_reducible exact Below.refl _ _) | (with_reducible assumption) | (with_reducible refine Below.alloc ?_ ?_ _) | (with_reducible refine below_drewN ?_ _) | (with_reducible refine Below.drew ?_) | (with_reducible refine Below.setCell ?_ ?_ _) | (with_reducible refine below_via (by assumption) ?_ ?_) | (with_reducible refine below_via (later_below _) ?_ ?_) | (with_reducible exact Nat.le_refl _) | omega | (simp; omega) | (simp; done))))); rintro e w9 ⟨rfl, hb⟩; (refine mem hb ?_; intro N hN hz hc hf; (try simp at hN); subst hN)) | (go_at_call 95; (with_reducible refine (HW.out _).mono ?_); rintro e w7 ⟨rfl, hb⟩; (refine mem hb ?_; intro N hN hz hc hf; (try simp at hN); subst hN)) | (go_at_call 75; (with_reducible refine (HB.out _ ?_).mono ?_); (focus ((repeat' (first | (with_reducible exact Below.refl _ _) | (with_reducible assumption) | (with_reducible refine Below.alloc ?_ ?_ _) | (with_reducible refine below_drewN ?_ _) | (with_reducible refine Below.drew ?_) | (with_reducible refine Below.setCell ?_ ?_ _) | (with_reducible refine below_via (by assumption) ?_ ?_) | (with_reducible refine below_via (later_below _) ?_ ?_) | (with_reducible exact Nat.le_refl _) | omega | (simp; omega) | (simp; done))))); rintro e w6 ⟨⟨g, cp, rfl, hg, hcl⟩, hb⟩; (refine mem hb ?_; intro N hN hz hc hf; (try simp at hN); subst hN)) | (go_at_call 43; (with_reducible refine (HA.out _ ?_).mono ?_); (focus ((repeat' (first | (with_reducible exact Below.refl _ _) | (with_reducible assumption) | (with_reducible refine Below.alloc ?_ ?_ _) | (with_reducible refine below_drewN ?_ _) | (with_reducible refine Below.drew ?_) | (with_reducible refine Below.setCell ?_ ?_ _) | (with_reducible refine below_via (by assumption) ?_ ?_) | (with_reducible refine below_via (later_below _) ?_ ?_) | (with_reducible exact Nat.le_refl _) | omega | (simp; omega) | (simp; done))))); rintro e w8 ⟨rfl, hb⟩; (refine mem hb ?_; intro N hN hz hc hf; (try simp at hN); subst hN)))
  ((try simp only [Exit.inBlock, Exit.then]); refine bodyPost_ret (by first | (simp [results, Tryz.results73, go_sem, *]; done) | (simp [results, Tryz.results73, go_sem, *]; rfl) | (simp [results, Tryz.results73, go_sem, ↓IntWalk.iteOmega, *]; try rfl)) rfl ?_)
  have s0 : w.heap.size + 1 ≤ w8.heap.size := by assumption
  have s1 : w8.heap.size ≤ w9.heap.size := by assumption
  have s2 : w9.heap.size + 2 ≤ w7.heap.size := by assumption
  have s3 : w7.heap.size ≤ g := by simpa using hg
  have hg3 : w.heap.size + 1 ≤ g := (Nat.le_trans (upj 2 (Nat.le_trans s0 s1) s2) s3)
  obtain ⟨g1, g2, g3⟩ := ups1 hg3
  refine ⟨⟨g, cp, rfl, g1, ?_⟩, ?_⟩
  · repeat (first | (with_reducible refine Cells5.drew ?_) | (with_reducible refine Cells5.set (by first | exact g2 | exact g3) ?_))
    first | exact hcl | (refine hcl.below ?_; (repeat' (first | (with_reducible exact Below.refl _ _) | (with_reducible assumption) | (with_reducible refine Below.alloc ?_ ?_ _) | (with_reducible refine below_drewN ?_ _) | (with_reducible refine Below.drew ?_) | (with_reducible refine Below.setCell ?_ ?_ _) | (with_reducible refine below_via (by assumption) ?_ ?_) | (with_reducible refine below_via (later_below _) ?_ ?_) | (with_reducible exact Nat.le_refl _) | omega | (simp; omega) | (simp; done))))
  · (repeat' (first | (with_reducible exact Below.refl _ _) | (with_reducible assumption) | (with_reducible refine Below.alloc ?_ ?_ _) | (with_reducible refine below_drewN ?_ _) | (with_reducible refine Below.drew ?_) | (with_reducible refine Below.setCell ?_ ?_ _) | (with_reducible refine below_via (by assumption) ?_ ?_) | (with_reducible refine below_via (later_below _) ?_ ?_) | (with_reducible exact Nat.le_refl _) | omega | (simp; omega) | (simp; done)))

/-- What whole answers at argument i. -/
def RIntAt (W : World) (NM : ByteArray) (a : Option Addr) (n cap : Nat) (i std : Int) : Int ⊕ ByteArray → Prop
  | .inl N => RIntOk W NM a n cap i std N
  | .inr m => RIntBad W NM a n cap i std m
theorem rint_at0 {W : World} {a : Option Addr} {n cap : Nat} {l : List VV} (E : Env W a n cap l) (hS : ∀ i, (argV l i).s.size ≤ 4200) {NM word : ByteArray} (h : NmW NM word) (std : Int) : RIntAt W NM a n cap 0 std (intA word l 1 std false) := by
  have hn := rnum_at E hS h 0 (by omega)
  unfold intA
  rw [if_neg (by simp)]
  cases hx : numA word l 1 with
  | inr m =>
    rw [hx] at hn
    intro w hb
    exact rwhole_badnum0 NM a n cap std m w (RNumBad.later hn hb)
  | inl v =>
    obtain ⟨P, Q⟩ := v
    have hv := numA_vld hx
    obtain ⟨b1, b2, b3, b4⟩ := vld_bd hv
    rw [hx] at hn
    dsimp only at b1 b2 b3 b4 hv ⊢
    by_cases hwh : wholeB P Q = true
    · rw [if_pos hwh]
      obtain ⟨rfl, hv1⟩ := wholeB_yes hwh
      intro w hb
      exact rwhole_ok0 NM a n cap std P w (by omega) (by omega) hv1 (RNumOk.later hn hb)
    · rw [if_neg hwh]
      intro w hb
      exact rwhole_badwhole0 NM a n cap std P Q _ w (by omega) (by omega) (by simpa using hwh) (RNumOk.later hn hb) (rbad_says h w 0 (by omega) intS (by decide))
theorem rint_at1 {W : World} {a : Option Addr} {n cap : Nat} {l : List VV} (E : Env W a n cap l) (hS : ∀ i, (argV l i).s.size ≤ 4200) {NM word : ByteArray} (h : NmW NM word) (std : Int) : RIntAt W NM a n cap 1 std (intA word l 2 std true) := by
  have hfew := E.few
  have hn := rnum_at E hS h 1 (by omega)
  have hs : ∀ w, Below W.heap.size W w → RArgSays w a n cap 1 (argV l 1).k (argV l 1).p (argV l 1).q (argV l 1).s (argV l 1).r := fun w hb => rarg_is ((E.later hb).arg 1) cap (by omega)
  unfold intA
  by_cases hk : (argV l (2 - 1)).k = 0
  · rw [if_pos ⟨rfl, hk⟩]
    intro w hb
    have hs := hs w hb
    rw [show (argV l 1).k = 0 from hk] at hs
    exact rwhole_std NM a n cap std _ _ _ _ w hs
  · rw [if_neg (fun h => hk h.2)]
    cases hx : numA word l 2 with
    | inr m =>
      rw [hx] at hn
      intro w hb
      exact rwhole_badnum1 NM a n cap std m w (RNumBad.later hn hb) _ _ _ _ _ (hs w hb) hk
    | inl v =>
      obtain ⟨P, Q⟩ := v
      have hv := numA_vld hx
      obtain ⟨b1, b2, b3, b4⟩ := vld_bd hv
      rw [hx] at hn
      dsimp only at b1 b2 b3 b4 hv ⊢
      by_cases hwh : wholeB P Q = true
      · rw [if_pos hwh]
        obtain ⟨rfl, hv1⟩ := wholeB_yes hwh
        intro w hb
        exact rwhole_ok1 NM a n cap std P w (by omega) (by omega) hv1 (RNumOk.later hn hb) _ _ _ _ _ (hs w hb) hk
      · rw [if_neg hwh]
        intro w hb
        exact rwhole_badwhole1 NM a n cap std P Q _ w (by omega) (by omega) (by simpa using hwh) (RNumOk.later hn hb) (rbad_says h w 1 (by omega) intS (by decide)) _ _ _ _ _ (hs w hb) hk

end Go.Proofs.YtfclmnglckikbaaGreatDoor
