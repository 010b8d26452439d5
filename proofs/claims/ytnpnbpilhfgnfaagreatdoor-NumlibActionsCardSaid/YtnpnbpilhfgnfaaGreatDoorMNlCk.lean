/- protocol.Check at the actions that Begin answers: a value, or a message. -/
import Derived.Test.YtnpnbpilhfgnfaaGreatDoorMNlAw
import Derived.Test.YtnpnbpilhfgnfaaGreatDoorMValW2
import Derived.Laws.EntriesVeiled
import Derived.Shelf.Abstract
namespace Go.Proofs.YtnpnbpilhfgnfaaGreatDoor
open Go.RowKit Go.Instr
set_option linter.unusedVariables false

/-- An action of a kind alone. -/
abbrev actK (kind : Int) : Value := .agg #[.int .i64 kind, .int .i64 0, .int .i64 0, .int .i64 0, .int .i64 0, .string ⟨#[]⟩, .int .i64 0, .slice none 0 0, .string ⟨#[]⟩, .int .i64 0, .int .i64 0, .slice none 0 0]
/-- An action of one value, by its numbers. -/
abbrev actI (kind lev : Int) (g cap : Nat) : Value := .agg #[.int .i64 kind, .int .i64 0, .int .i64 0, .int .i64 0, .int .i64 0, .string ⟨#[]⟩, .int .i64 0, .slice (some ⟨g, 0, none⟩) 1 cap, .string ⟨#[]⟩, .int .i64 lev, .int .i64 0, .slice none 0 0]
set_option maxHeartbeats 1600000 in
theorem fields_1 (g cap : Nat) (w : World) : Calls Tryz.prog 49 #[actI 1 0 g cap] w fun e w' => e = .returned (.tuple #[actK 1, .bool true]) ∧ Below w.heap.size w w' := by
  go_enter Tryz.func49, Tryz.ntmps49
  go_wp2_with fail
  ((try simp only [Exit.inBlock, Exit.then]); refine bodyPost_ret (by first | (simp [results, Tryz.results49, go_sem, *]; done) | (simp [results, Tryz.results49, go_sem, *]; rfl) | (simp [results, Tryz.results49, go_sem, ↓IntWalk.iteOmega, *]; try rfl)) rfl ?_)
  exact ⟨rfl, by (repeat' (first | (with_reducible exact Below.refl _ _) | (with_reducible assumption) | (with_reducible refine Below.alloc ?_ ?_ _) | (with_reducible refine below_drewN ?_ _) | (with_reducible refine Below.drew ?_) | (with_reducible refine Below.setCell ?_ ?_ _) | (with_reducible refine below_via (by assumption) ?_ ?_) | (with_reducible refine below_via (later_below _) ?_ ?_) | (with_reducible exact Nat.le_refl _) | omega | (simp; omega) | (simp; done)))⟩
set_option maxHeartbeats 1600000 in
theorem fields_2 (g cap : Nat) (w : World) : Calls Tryz.prog 49 #[actI 2 1 g cap] w fun e w' => e = .returned (.tuple #[actK 2, .bool true]) ∧ Below w.heap.size w w' := by
  go_enter Tryz.func49, Tryz.ntmps49
  go_wp2_with fail
  ((try simp only [Exit.inBlock, Exit.then]); refine bodyPost_ret (by first | (simp [results, Tryz.results49, go_sem, *]; done) | (simp [results, Tryz.results49, go_sem, *]; rfl) | (simp [results, Tryz.results49, go_sem, ↓IntWalk.iteOmega, *]; try rfl)) rfl ?_)
  exact ⟨rfl, by (repeat' (first | (with_reducible exact Below.refl _ _) | (with_reducible assumption) | (with_reducible refine Below.alloc ?_ ?_ _) | (with_reducible refine below_drewN ?_ _) | (with_reducible refine Below.drew ?_) | (with_reducible refine Below.setCell ?_ ?_ _) | (with_reducible refine below_via (by assumption) ?_ ?_) | (with_reducible refine below_via (later_below _) ?_ ?_) | (with_reducible exact Nat.le_refl _) | omega | (simp; omega) | (simp; done)))⟩
theorem equal_none (w : World) : Calls Tryz.prog 83 #[.slice none 0 0, .slice none 0 0] w fun e w' => e = .returned (.bool true) ∧ Below w.heap.size w w' := by
  go_enter Tryz.func83, Tryz.ntmps83
  go_wp2_with fail
  go_loopw [13] (fun i wr => i = .int .i64 0 ∧ wr = w) (fun _ _ => 0)
  case atStart => exact ⟨rfl, rfl⟩
  case round =>
    obtain ⟨rfl, rfl⟩ := hrel
    go_wp2_with fail
    go_returns
    exact ⟨rfl, by (repeat' (first | (with_reducible exact Below.refl _ _) | (with_reducible assumption) | (with_reducible refine Below.alloc ?_ ?_ _) | (with_reducible refine below_drewN ?_ _) | (with_reducible refine Below.drew ?_) | (with_reducible refine Below.setCell ?_ ?_ _) | (with_reducible refine below_via (by assumption) ?_ ?_) | (with_reducible refine below_via (later_below _) ?_ ?_) | (with_reducible exact Nat.le_refl _) | omega | (simp; omega) | (simp; done)))⟩
set_option maxHeartbeats 1600000 in
theorem same_k (k : Int) (w : World) : Calls Tryz.prog 50 #[actK k, actK k] w fun e w' => e = .returned (.bool true) ∧ Below w.heap.size w w' := by
  have tk : (k == k) = true := by simp
  go_enter Tryz.func50, Tryz.ntmps50
  go_wp2_with (go_at_call 83; (with_reducible refine (equal_none _).mono ?_); rintro e w1 ⟨rfl, hb⟩; (refine mem hb ?_; intro N hN hz hc hf; (try simp at hN); subst hN))
  go_returns
  exact ⟨rfl, by (repeat' (first | (with_reducible exact Below.refl _ _) | (with_reducible assumption) | (with_reducible refine Below.alloc ?_ ?_ _) | (with_reducible refine below_drewN ?_ _) | (with_reducible refine Below.drew ?_) | (with_reducible refine Below.setCell ?_ ?_ _) | (with_reducible refine below_via (by assumption) ?_ ?_) | (with_reducible refine below_via (later_below _) ?_ ?_) | (with_reducible exact Nat.le_refl _) | omega | (simp; omega) | (simp; done)))⟩
/-- The test: is a value wrong? -/
theorem wrong_any (k p q : Int) (s : ByteArray) (r : Int) (w : World) (hs : s.size ≤ 9223372036854775807) (hp : -9223372036854775808 ≤ p) (hp' : p ≤ 9223372036854775807) :
    Calls Tryz.prog 51 #[vV k p q s r] w fun e w' => e = .returned (.bool (!validV k p q s r)) ∧ Below w.heap.size w w' := by
  have HV : Hid (∀ W, Calls Tryz.prog 52 #[vV k p q s r] W fun e w' => e = .returned (.bool (validV k p q s r)) ∧ Below W.heap.size W w') := fun W => valid_v k p q s r W hs hp hp'
  obtain ⟨b, hb⟩ : ∃ b, validV k p q s r = b := ⟨_, rfl⟩
  rw [hb] at HV ⊢
  clear hb
  go_enter Tryz.func51, Tryz.ntmps51
  go_wp2_with (go_at_call 52; (with_reducible refine (HV.out _).mono ?_); rintro e w1 ⟨rfl, hb⟩; (refine mem hb ?_; intro N hN hz hc hf; (try simp at hN); subst hN))
  go_returns
  exact ⟨rfl, by (repeat' (first | (with_reducible exact Below.refl _ _) | (with_reducible assumption) | (with_reducible refine Below.alloc ?_ ?_ _) | (with_reducible refine below_drewN ?_ _) | (with_reducible refine Below.drew ?_) | (with_reducible refine Below.setCell ?_ ?_ _) | (with_reducible refine below_via (by assumption) ?_ ?_) | (with_reducible refine below_via (later_below _) ?_ ?_) | (with_reducible exact Nat.le_refl _) | omega | (simp; omega) | (simp; done)))⟩
theorem idx_none (g : FuncId) (w : World) : Calls Tryz.prog 84 #[.slice none 0 0, .func (.func g) #[] #[]] w fun e w' => e = .returned (.int .i64 (-1)) ∧ Below w.heap.size w w' := by
  go_enter Tryz.func84, Tryz.ntmps84
  go_wp2_with fail
  go_loopw [8] (fun i wr => i = .int .i64 0 ∧ wr = w) (fun _ _ => 0)
  case atStart => exact ⟨rfl, rfl⟩
  case round =>
    obtain ⟨rfl, rfl⟩ := hrel
    go_wp2_with fail
    go_returns
    exact ⟨rfl, by (repeat' (first | (with_reducible exact Below.refl _ _) | (with_reducible assumption) | (with_reducible refine Below.alloc ?_ ?_ _) | (with_reducible refine below_drewN ?_ _) | (with_reducible refine Below.drew ?_) | (with_reducible refine Below.setCell ?_ ?_ _) | (with_reducible refine below_via (by assumption) ?_ ?_) | (with_reducible refine below_via (later_below _) ?_ ?_) | (with_reducible exact Nat.le_refl _) | omega | (simp; omega) | (simp; done)))⟩
set_option maxHeartbeats 1600000 in
theorem idx_one (g : FuncId) (hg1 : ∀ args u, (callFunc g args).run Tryz.prog u = .ok (.enter g args) u) (B cap : Nat) (k p q : Int) (s : ByteArray) (r : Int) (w : World) (hc : Cells5 w B k p q s r)
    (HG : Hid (∀ W, Calls Tryz.prog g #[vV k p q s r] W fun e w' => e = .returned (.bool false) ∧ Below W.heap.size W w')) :
    Calls Tryz.prog 84 #[.slice (some ⟨B, 0, none⟩) 1 cap, .func (.func g) #[] #[]] w fun e w' => e = .returned (.int .i64 (-1)) ∧ Below w.heap.size w w' := by
  have HC := Lib.hid hc
  clear hc
  go_enter Tryz.func84, Tryz.ntmps84
  go_wp2_with fail
  go_loopw [8] (fun i wr => ∃ k : Nat, k ≤ 1 ∧ i = .int .i64 k ∧ Hid (Below w.heap.size w wr)) (fun i _ => 1 - (intOf i).toNat)
  case atStart => exact ⟨0, Nat.zero_le _, rfl, Below.refl _ _⟩
  case round =>
    obtain ⟨j, hj, rfl, HE⟩ := hrel
    have hzr := HE.out.size
    by_cases h0 : j = 0
    · subst h0
      obtain ⟨c0, c1, c2, c3, c4⟩ := HC.out.below HE.out
      go_wp2_with (go_at_fn g; (with_reducible refine (HG.out _).mono ?_); rintro e w1 ⟨rfl, hb1⟩)
      exact ⟨⟨1, by omega, by go_num, by show Below _ _ _; have h0 := HE.out; (repeat' (first | (with_reducible exact Below.refl _ _) | (with_reducible assumption) | (with_reducible refine Below.alloc ?_ ?_ _) | (with_reducible refine below_drewN ?_ _) | (with_reducible refine Below.drew ?_) | (with_reducible refine Below.setCell ?_ ?_ _) | (with_reducible refine below_via (by assumption) ?_ ?_) | (with_reducible refine below_via (later_below _) ?_ ?_) | (with_reducible exact Nat.le_refl _) | omega | (simp; omega) | (simp; done)))⟩, by simp [intOf]⟩
    · obtain rfl : j = 1 := by omega
      go_wp2_with fail
      go_returns
      exact ⟨rfl, HE.out⟩
theorem contains_none (g : FuncId) (w : World) : Calls Tryz.prog 53 #[.slice none 0 0, .func (.func g) #[] #[]] w fun e w' => e = .returned (.bool false) ∧ Below w.heap.size w w' := by
  go_enter Tryz.func53, Tryz.ntmps53
  go_wp2_with (go_at_call 84; (with_reducible refine (idx_none g _).mono ?_); rintro e w1 ⟨rfl, hb⟩)
  go_returns
  exact ⟨rfl, hb⟩
theorem contains_one (g : FuncId) (hg1 : ∀ args u, (callFunc g args).run Tryz.prog u = .ok (.enter g args) u) (B cap : Nat) (k p q : Int) (s : ByteArray) (r : Int) (w : World) (hc : Cells5 w B k p q s r)
    (HG : Hid (∀ W, Calls Tryz.prog g #[vV k p q s r] W fun e w' => e = .returned (.bool false) ∧ Below W.heap.size W w')) :
    Calls Tryz.prog 53 #[.slice (some ⟨B, 0, none⟩) 1 cap, .func (.func g) #[] #[]] w fun e w' => e = .returned (.bool false) ∧ Below w.heap.size w w' := by
  have HI := Lib.hid (idx_one g hg1 B cap k p q s r w hc HG)
  clear hc HG hg1
  go_enter Tryz.func53, Tryz.ntmps53
  go_wp2_with (go_at_call 84; (with_reducible refine HI.out.mono ?_); rintro e w1 ⟨rfl, hb⟩)
  go_returns
  exact ⟨rfl, hb⟩

set_option maxHeartbeats 3200000 in
set_option maxRecDepth 100000 in
theorem check_act (kind lev : Nat) (hkl : (kind = 1 ∧ lev = 0) ∨ (kind = 2 ∧ lev = 1)) (B cap : Nat) (k p q : Int) (s : ByteArray) (r : Int) (w : World) (hc : Cells5 w B k p q s r) (hv : validV k p q s r = true)
    (hs : s.size ≤ 9223372036854775807) (hp : -9223372036854775808 ≤ p) (hp' : p ≤ 9223372036854775807) :
    Calls Tryz.prog 22 #[actV kind B cap lev] w fun e w' => e = .returned (.int .i64 0) ∧ Below w.heap.size w w' := by
  have HG : Hid (∀ W, Calls Tryz.prog 51 #[vV k p q s r] W fun e w' => e = .returned (.bool false) ∧ Below W.heap.size W w') := fun W => by
    have h := wrong_any k p q s r W hs hp hp'
    rw [hv] at h
    exact h
  have HZ : Hid (∀ W, Calls Tryz.prog 51 #[vV 0 0 0 ⟨#[]⟩ 0] W fun e w' => e = .returned (.bool false) ∧ Below W.heap.size W w') := fun W => by
    have h := wrong_any 0 0 0 ⟨#[]⟩ 0 W (by decide) (by omega) (by omega)
    rw [show validV 0 0 0 ⟨#[]⟩ 0 = true by unfold validV; rw [if_pos rfl, Lib.toList_data]; rfl] at h
    exact h
  have henter := enters_of Tryz.func51 (by kernel_rfl) rfl
  have HC1 : Hid (∀ W, Below w.heap.size w W → Calls Tryz.prog 53 #[.slice (some ⟨B, 0, none⟩) 1 cap, .func (.func 51) #[] #[]] W fun e w' => e = .returned (.bool false) ∧ Below W.heap.size W w') := fun W hW => contains_one _ henter B cap k p q s r W (hc.below hW) HG
  have HC0 : Hid (∀ W, Calls Tryz.prog 53 #[.slice none 0 0, .func (.func 51) #[] #[]] W fun e w' => e = .returned (.bool false) ∧ Below W.heap.size W w') := fun W => contains_none _ W
  clear hc hv hs hp hp' HG
  rcases hkl with ⟨rfl, rfl⟩ | ⟨rfl, rfl⟩
  · show Calls Tryz.prog 22 #[actI 1 0 B cap] w _
    go_enter Tryz.func22, Tryz.ntmps22
    go_wp2_with (first | (go_at_call 49; (with_reducible refine (fields_1 _ _ _).mono ?_); rintro e w1 ⟨rfl, hb⟩; (refine mem hb ?_; intro N hN hz hc hf; (try simp at hN); subst hN)) | (go_at_call 50; (with_reducible refine (same_k 1 _).mono ?_); rintro e w1 ⟨rfl, hb⟩; (refine mem hb ?_; intro N hN hz hc hf; (try simp at hN); subst hN)) | (go_at_call 51; (with_reducible refine (HZ.out _).mono ?_); rintro e w1 ⟨rfl, hb⟩; (refine mem hb ?_; intro N hN hz hc hf; (try simp at hN); subst hN)) | (go_at_call 53; (with_reducible refine (HC1.out _ ?_).mono ?_); (focus ((repeat' (first | (with_reducible exact Below.refl _ _) | (with_reducible assumption) | (with_reducible refine Below.alloc ?_ ?_ _) | (with_reducible refine below_drewN ?_ _) | (with_reducible refine Below.drew ?_) | (with_reducible refine Below.setCell ?_ ?_ _) | (with_reducible refine below_via (by assumption) ?_ ?_) | (with_reducible refine below_via (later_below _) ?_ ?_) | (with_reducible exact Nat.le_refl _) | omega | (simp; omega) | (simp; done))))); rintro e w1 ⟨rfl, hb⟩; (refine mem hb ?_; intro N hN hz hc hf; (try simp at hN); subst hN)) | (go_at_call 53; (with_reducible refine (HC0.out _).mono ?_); rintro e w1 ⟨rfl, hb⟩; (refine mem hb ?_; intro N hN hz hc hf; (try simp at hN); subst hN)))
    go_returns
    exact ⟨rfl, by (repeat' (first | (with_reducible exact Below.refl _ _) | (with_reducible assumption) | (with_reducible refine Below.alloc ?_ ?_ _) | (with_reducible refine below_drewN ?_ _) | (with_reducible refine Below.drew ?_) | (with_reducible refine Below.setCell ?_ ?_ _) | (with_reducible refine below_via (by assumption) ?_ ?_) | (with_reducible refine below_via (later_below _) ?_ ?_) | (with_reducible exact Nat.le_refl _) | omega | (simp; omega) | (simp; done)))⟩
  · show Calls Tryz.prog 22 #[actI 2 1 B cap] w _
    go_enter Tryz.func22, Tryz.ntmps22
    go_wp2_with (first | (go_at_call 49; (with_reducible refine (fields_2 _ _ _).mono ?_); rintro e w1 ⟨rfl, hb⟩; (refine mem hb ?_; intro N hN hz hc hf; (try simp at hN); subst hN)) | (go_at_call 50; (with_reducible refine (same_k 2 _).mono ?_); rintro e w1 ⟨rfl, hb⟩; (refine mem hb ?_; intro N hN hz hc hf; (try simp at hN); subst hN)) | (go_at_call 51; (with_reducible refine (HZ.out _).mono ?_); rintro e w1 ⟨rfl, hb⟩; (refine mem hb ?_; intro N hN hz hc hf; (try simp at hN); subst hN)) | (go_at_call 53; (with_reducible refine (HC1.out _ ?_).mono ?_); (focus ((repeat' (first | (with_reducible exact Below.refl _ _) | (with_reducible assumption) | (with_reducible refine Below.alloc ?_ ?_ _) | (with_reducible refine below_drewN ?_ _) | (with_reducible refine Below.drew ?_) | (with_reducible refine Below.setCell ?_ ?_ _) | (with_reducible refine below_via (by assumption) ?_ ?_) | (with_reducible refine below_via (later_below _) ?_ ?_) | (with_reducible exact Nat.le_refl _) | omega | (simp; omega) | (simp; done))))); rintro e w1 ⟨rfl, hb⟩; (refine mem hb ?_; intro N hN hz hc hf; (try simp at hN); subst hN)) | (go_at_call 53; (with_reducible refine (HC0.out _).mono ?_); rintro e w1 ⟨rfl, hb⟩; (refine mem hb ?_; intro N hN hz hc hf; (try simp at hN); subst hN)))
    go_returns
    exact ⟨rfl, by (repeat' (first | (with_reducible exact Below.refl _ _) | (with_reducible assumption) | (with_reducible refine Below.alloc ?_ ?_ _) | (with_reducible refine below_drewN ?_ _) | (with_reducible refine Below.drew ?_) | (with_reducible refine Below.setCell ?_ ?_ _) | (with_reducible refine below_via (by assumption) ?_ ?_) | (with_reducible refine below_via (later_below _) ?_ ?_) | (with_reducible exact Nat.le_refl _) | omega | (simp; omega) | (simp; done)))⟩
end Go.Proofs.YtnpnbpilhfgnfaaGreatDoor
