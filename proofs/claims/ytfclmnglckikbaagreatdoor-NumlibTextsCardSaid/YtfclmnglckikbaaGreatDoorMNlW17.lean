/- Numlib's extreme: what each call returns. -/
import Derived.Test.YtfclmnglckikbaaGreatDoorMNlD
namespace Go.Proofs.YtfclmnglckikbaaGreatDoor
open Go.RowKit Go.Instr
set_option linter.unusedVariables false

/-- The better of two numbers: x is their order. -/
def bestN (f x : Int) (b a : Int × Int) : Int × Int := if (f = 6 ∧ 0 < x) ∨ (f = 7 ∧ x < 0) then a else b
/-- The best of the first k + 1 arguments, or the message about the first wrong one. -/
def extR (f : Int) (num : Nat → (Int × Int) ⊕ ByteArray) : Nat → (Int × Int) ⊕ ByteArray
  | 0 => num 1
  | k + 1 => match extR f num k with
    | .inr m => .inr m
    | .inl b => match num (k + 2) with
      | .inr m => .inr m
      | .inl a => .inl (bestN f (cmpT a.1 a.2 b.1 b.2) b a)
theorem extR_stay {f : Int} {num : Nat → (Int × Int) ⊕ ByteArray} {k : Nat} {m : ByteArray} (h : extR f num k = .inr m) (j : Nat) : extR f num (k + j) = .inr m := by
  induction j with
  | zero => exact h
  | succ j ih => show (match extR f num (k + j) with | .inr m => _ | .inl b => _) = _; rw [ih]
theorem extR_next {f : Int} {num : Nat → (Int × Int) ⊕ ByteArray} {k : Nat} {b a : Int × Int} (h : extR f num k = .inl b) (ha : num (k + 2) = .inl a) : extR f num (k + 1) = .inl (bestN f (cmpT a.1 a.2 b.1 b.2) b a) := by
  show (match extR f num k with | .inr m => _ | .inl b => _) = _
  rw [h]; dsimp only; rw [ha]
theorem extR_fail {f : Int} {num : Nat → (Int × Int) ⊕ ByteArray} {k : Nat} {b : Int × Int} {m : ByteArray} (h : extR f num k = .inl b) (ha : num (k + 2) = .inr m) : extR f num (k + 1) = .inr m := by
  show (match extR f num k with | .inr m => _ | .inl b => _) = _
  rw [h]; dsimp only; rw [ha]
/-- What number answers at argument i. -/
def NumAt (W : World) (word : ByteArray) (a : Option Addr) (n cap : Nat) (i : Int) : (Int × Int) ⊕ ByteArray → Prop
  | .inl v => NumOk W word a n cap i v.1 v.2
  | .inr m => NumBad W word a n cap i m
/-- The action with a number, or with a message. -/
def ActR (base : Nat) (x : (Int × Int) ⊕ ByteArray) (e : Ending) (w : World) : Prop :=
  match x with
  | .inl v => ∃ (k p q : Int) (s : ByteArray) (r : Int), ofNumV v.1 v.2 = vV k p q s r ∧ ActIs base 1 0 k p q s r e w
  | .inr m => ActIs base 2 1 3 0 0 m 0 e w
/-- A block of two cells that may be written. -/
def Blk2 (w : World) (b : Nat) (x y : Value) : Prop := b < w.heap.size ∧ w.cell? ⟨b, 0, none⟩ = some x ∧ w.cell? ⟨b, 1, none⟩ = some y ∧ ∀ i, w.frozen? ⟨b, i, none⟩ = false
theorem Blk2.below {W w : World} {b : Nat} {x y : Value} (hb : Below W.heap.size W w) (h : Blk2 W b x y) : Blk2 w b x y :=
  ⟨Nat.lt_of_lt_of_le h.1 hb.size, (hb.cell (p := ⟨b, 0, none⟩) h.1).trans h.2.1, (hb.cell (p := ⟨b, 1, none⟩) h.1).trans h.2.2.1, fun i => (hb.frozen (p := ⟨b, i, none⟩) h.1).trans (h.2.2.2 i)⟩
theorem frozen_set (w : World) (a : Addr) (v : Value) (c : Addr) : (w.setCell a v).frozen? c = w.frozen? c := by simp
theorem Blk2.set {w : World} {b : Nat} {x y : Value} (u v : Value) (h : Blk2 w b x y) : Blk2 ((w.setCell ⟨b, 0, none⟩ u).setCell ⟨b, 1, none⟩ v) b u v := by
  refine ⟨by simpa using h.1, ?_, ?_, fun i => ?_⟩
  · rw [cell_set_if, if_neg (by simp), cell_set_if, if_pos ⟨rfl, rfl⟩, h.2.1]; rfl
  · rw [cell_set_if, if_pos ⟨rfl, rfl⟩, cell_set_if, if_neg (by simp), h.2.2.1]; rfl
  · rw [frozen_set, frozen_set]; exact h.2.2.2 i
theorem Blk2.other {w : World} {b c : Nat} {x y : Value} (u v : Value) (hne : c ≠ b) (h : Blk2 w b x y) : Blk2 ((w.setCell ⟨c, 0, none⟩ u).setCell ⟨c, 1, none⟩ v) b x y := by
  refine ⟨by simpa using h.1, ?_, ?_, fun i => ?_⟩
  · rw [cell_set_if, if_neg (fun e => hne e.1), cell_set_if, if_neg (fun e => hne e.1)]; exact h.2.1
  · rw [cell_set_if, if_neg (fun e => hne e.1), cell_set_if, if_neg (fun e => hne e.1)]; exact h.2.2.1
  · rw [frozen_set, frozen_set]; exact h.2.2.2 i
/-- The cells of the action that is none. -/
abbrev act0C : Array Value := #[Value.int .i64 0, .int .i64 0, .int .i64 0, .int .i64 0, .int .i64 0, .string ⟨#[]⟩, .int .i64 0, .slice none 0 0, .string ⟨#[]⟩, .int .i64 0, .int .i64 0, .slice none 0 0]
/-- A block that holds the action that is none. -/
def Blk12 (w : World) (b : Nat) : Prop := b < w.heap.size ∧ (∀ i, w.cell? ⟨b, i, none⟩ = act0C[i]?) ∧ ∀ i, w.frozen? ⟨b, i, none⟩ = false
theorem Blk12.below {W w : World} {b : Nat} (hb : Below W.heap.size W w) (h : Blk12 W b) : Blk12 w b :=
  ⟨Nat.lt_of_lt_of_le h.1 hb.size, fun i => (hb.cell (p := ⟨b, i, none⟩) h.1).trans (h.2.1 i), fun i => (hb.frozen (p := ⟨b, i, none⟩) h.1).trans (h.2.2 i)⟩
theorem Blk12.other {w : World} {b c : Nat} (u v : Value) (hne : c ≠ b) (h : Blk12 w b) : Blk12 ((w.setCell ⟨c, 0, none⟩ u).setCell ⟨c, 1, none⟩ v) b := by
  refine ⟨by simpa using h.1, fun i => ?_, fun i => ?_⟩
  · rw [cell_set_if, if_neg (fun e => hne e.1), cell_set_if, if_neg (fun e => hne e.1)]; exact h.2.1 i
  · rw [frozen_set, frozen_set]; exact h.2.2 i

theorem blk2_new (w : World) (x y : Value) (t : TypeId) : Blk2 (w.alloc (.cells #[x, y] t)) w.heap.size x y :=
  ⟨by simp, World.cell?_alloc_at #[x, y] t _ 0 rfl, World.cell?_alloc_at #[x, y] t _ 1 rfl, fun i => by rw [frozen_alloc]; exact frozen_out w _ i (Nat.le_refl _)⟩
theorem blk12_new (w : World) (t : TypeId) (b : Nat) (hb : b = w.heap.size) : Blk12 (w.alloc (.cells act0C t)) b := by
  subst hb
  exact ⟨by simp, fun i => World.cell?_alloc_at act0C t _ i rfl, fun i => by rw [frozen_alloc]; exact frozen_out w _ i (Nat.le_refl _)⟩
theorem Blk2.alloc {w : World} {b : Nat} {x y : Value} (o : Obj) (h : Blk2 w b x y) : Blk2 (w.alloc o) b x y := h.below ((Below.refl _ _).alloc (Nat.le_refl _) o)
theorem Blk12.alloc {w : World} {b : Nat} (o : Obj) (h : Blk12 w b) : Blk12 (w.alloc o) b := h.below ((Below.refl _ _).alloc (Nat.le_refl _) o)
theorem ofNumV_is (P Q : Int) : ∃ (k p q : Int) (s : ByteArray) (r : Int), ofNumV P Q = vV k p q s r := by
  unfold ofNumV
  split
  · exact ⟨_, _, _, _, _, rfl⟩
  · exact ⟨_, _, _, _, _, rfl⟩
theorem bestN_yes {f x : Int} {b a : Int × Int} (h : (f = 6 ∧ 0 < x) ∨ (f = 7 ∧ x < 0)) : bestN f x b a = a := if_pos h
theorem bestN_no {f x : Int} {b a : Int × Int} (h : ¬ ((f = 6 ∧ 0 < x) ∨ (f = 7 ∧ x < 0))) : bestN f x b a = b := if_neg h
theorem up_e {a b c g : Nat} (h1 : a + 2 ≤ b) (h2 : b ≤ c) (h3 : c ≤ g) : a + 2 ≤ g := by omega

set_option maxHeartbeats 8000000 in
set_option maxRecDepth 100000 in
theorem extreme_v (f : Int) (hf : f = 6 ∨ f = 7) (word : ByteArray) (a : Option Addr) (n cap : Nat) (hn : n ≤ 1000) (num : Nat → (Int × Int) ⊕ ByteArray) (w : World)
    (hnum : ∀ i : Nat, 1 ≤ i → i ≤ n + 1 → NumAt w word a n cap i (num i)) (hbd : ∀ i v, num i = .inl v → -9223372036854775808 ≤ v.1 ∧ v.1 ≤ 9223372036854775807) :
    Calls Tryz.prog 32 #[.agg #[.string word, .slice a n cap], .int .i64 f] w fun e w' => ActR w.heap.size (extR f num (n - 1)) e w' ∧ Below w.heap.size w w' := by
  cases h1 : num 1 with
  | inr m =>
    have hr : extR f num (n - 1) = .inr m := by
      have := extR_stay (f := f) (num := num) (k := 0) h1 (n - 1)
      rwa [Nat.zero_add] at this
    rw [hr]
    have hn1 := hnum 1 (Nat.le_refl _) (by omega)
    rw [h1] at hn1
    have HN : Hid (NumBad w word a n cap 1 m) := hn1
    clear hn1 hnum hbd h1 hr
    have fr0 := fun i => frozen_out w (w.heap.size) i (by omega)
    have fr1 := fun i => frozen_out w (w.heap.size + 1) i (by omega)
    go_enter Tryz.func32, Tryz.ntmps32
    go_wp2_with (first | (go_at_call 59; refine (HN.out _ ?_).mono ?_; (focus ((repeat' (first | (with_reducible exact Below.refl _ _) | (with_reducible assumption) | (with_reducible refine Below.alloc ?_ ?_ _) | (with_reducible refine below_drewN ?_ _) | (with_reducible refine Below.drew ?_) | (with_reducible refine Below.setCell ?_ ?_ _) | (with_reducible refine below_via (by assumption) ?_ ?_) | (with_reducible refine below_via (later_below _) ?_ ?_) | (with_reducible exact Nat.le_refl _) | omega | (simp; omega) | (simp; done))))); rintro e w8 ⟨⟨g, cp, rfl, hg, hcl⟩, hb⟩; (refine mem hb ?_; intro N hN hz hc hf; (try simp at hN); subst hN)))
    ((try simp only [Exit.inBlock, Exit.then]); refine bodyPost_ret (by first | (simp [results, Tryz.results32, go_sem, *]; done) | (simp [results, Tryz.results32, go_sem, *]; rfl) | (simp [results, Tryz.results32, go_sem, ↓IntWalk.iteOmega, *]; try rfl)) rfl ?_)
    have hg3 : w.heap.size + 2 ≤ g := by simpa using hg
    obtain ⟨g1, g2⟩ := up2 hg3
    refine ⟨act_set2 (hK := rfl) (hL := rfl) g2 g1 (hcl.below ?_), ?_⟩
    · (repeat' (first | (with_reducible exact Below.refl _ _) | (with_reducible assumption) | (with_reducible refine Below.alloc ?_ ?_ _) | (with_reducible refine below_drewN ?_ _) | (with_reducible refine Below.drew ?_) | (with_reducible refine Below.setCell ?_ ?_ _) | (with_reducible refine below_via (by assumption) ?_ ?_) | (with_reducible refine below_via (later_below _) ?_ ?_) | (with_reducible exact Nat.le_refl _) | omega | (simp; omega) | (simp; done)))
    · (repeat' (first | (with_reducible exact Below.refl _ _) | (with_reducible assumption) | (with_reducible refine Below.alloc ?_ ?_ _) | (with_reducible refine below_drewN ?_ _) | (with_reducible refine Below.drew ?_) | (with_reducible refine Below.setCell ?_ ?_ _) | (with_reducible refine below_via (by assumption) ?_ ?_) | (with_reducible refine below_via (later_below _) ?_ ?_) | (with_reducible exact Nat.le_refl _) | omega | (simp; omega) | (simp; done)))
  | inl v1 =>
    obtain ⟨P1, Q1⟩ := v1
    have hn1 := hnum 1 (Nat.le_refl _) (by omega)
    rw [h1] at hn1
    have HN : Hid (NumOk w word a n cap 1 P1 Q1) := hn1
    have HNUM := Lib.hid hnum
    have HBD := Lib.hid hbd
    have H1 := Lib.hid h1
    obtain ⟨R, hR⟩ : ∃ R, extR f num (n - 1) = R := ⟨_, rfl⟩
    rw [hR]
    have HR := Lib.hid hR
    clear hn1 hnum hbd h1 hR
    have HF := Lib.hid hf
    clear hf
    have fr0 := fun i => frozen_out w (w.heap.size) i (by omega)
    have fr1 := fun i => frozen_out w (w.heap.size + 1) i (by omega)
    go_enter Tryz.func32, Tryz.ntmps32
    go_wp2_with (first | (go_at_call 59; refine (HN.out _ ?_).mono ?_; (focus ((repeat' (first | (with_reducible exact Below.refl _ _) | (with_reducible assumption) | (with_reducible refine Below.alloc ?_ ?_ _) | (with_reducible refine below_drewN ?_ _) | (with_reducible refine Below.drew ?_) | (with_reducible refine Below.setCell ?_ ?_ _) | (with_reducible refine below_via (by assumption) ?_ ?_) | (with_reducible refine below_via (later_below _) ?_ ?_) | (with_reducible exact Nat.le_refl _) | omega | (simp; omega) | (simp; done))))); rintro e w8 ⟨rfl, hb⟩; (refine mem hb ?_; intro N hN hz hc hf; (try simp at hN); subst hN)))
    have hz8 : w.heap.size + 2 ≤ w8.heap.size := by assumption
    have HK0 : Hid (Blk2 w8 w.heap.size (.string word) (.slice a n cap)) := ((blk2_new w _ _ _).alloc _).below hb
    have HK1 : Hid (Blk12 w8 (w.heap.size + 1)) := (blk12_new _ _ _ (by simp)).below hb
    have HB8 : Hid (Below w.heap.size w w8) := by show Below _ _ _; (repeat' (first | (with_reducible exact Below.refl _ _) | (with_reducible assumption) | (with_reducible refine Below.alloc ?_ ?_ _) | (with_reducible refine below_drewN ?_ _) | (with_reducible refine Below.drew ?_) | (with_reducible refine Below.setCell ?_ ?_ _) | (with_reducible refine below_via (by assumption) ?_ ?_) | (with_reducible refine below_via (later_below _) ?_ ?_) | (with_reducible exact Nat.le_refl _) | omega | (simp; omega) | (simp; done)))
    clear hb hc hf fr0 fr1
    go_loopw [8, 9, 10, 11, 12] (fun i _ _ _ _ wr => ∃ (j : Nat) (P Q : Int), 2 ≤ j ∧ (j = 2 ∨ j ≤ n + 1) ∧ i = .int .i64 j ∧ Hid (extR f num (j - 2) = .inl (P, Q)) ∧ Hid (-9223372036854775808 ≤ P ∧ P ≤ 9223372036854775807) ∧ Hid (Blk2 wr w.heap.size (.string word) (.slice a n cap)) ∧ Hid (Blk12 wr (w.heap.size + 1)) ∧ Hid (Blk2 wr w8.heap.size (.int .i64 P) (.int .i64 Q)) ∧ Hid (Below w.heap.size w wr)) (fun i _ _ _ _ _ => n + 2 - (intOf i).toNat)
    case atStart => exact ⟨2, P1, Q1, Nat.le_refl _, .inl rfl, rfl, H1.out, HBD.out 1 _ H1.out, (HK0.out.alloc _).alloc _, (HK1.out.alloc _).alloc _, (blk2_new _ _ _ _).alloc _, by have hbel := HB8.out; have hs8 := hbel.size; show Below _ _ _; (repeat' (first | (with_reducible exact Below.refl _ _) | (with_reducible assumption) | (with_reducible refine Below.alloc ?_ ?_ _) | (with_reducible refine below_drewN ?_ _) | (with_reducible refine Below.drew ?_) | (with_reducible refine Below.setCell ?_ ?_ _) | (with_reducible refine below_via (by assumption) ?_ ?_) | (with_reducible refine below_via (later_below _) ?_ ?_) | (with_reducible exact Nat.le_refl _) | omega | (simp; omega) | (simp; done)))⟩
    case round =>
      obtain ⟨j, P, Q, hj2, hjn, rfl, HE, HPB, HB0, HB1, HB2, HBL⟩ := hrel
      obtain ⟨hP1, hP2⟩ := HPB.out
      obtain ⟨s0, c00, c01, f0⟩ := HB0.out
      obtain ⟨s1, c1, f1⟩ := HB1.out
      obtain ⟨s2, c20, c21, f2⟩ := HB2.out
      have hsz := HBL.out.size
      by_cases hlt : j ≤ n
      · have hnj := HNUM.out j (by omega) (by omega)
        have hj3 : j - 2 + 2 = j := by omega
        cases hx : num j with
        | inr m =>
          rw [hx] at hnj
          have HNJ : Hid (NumBad w word a n cap j m) := hnj
          obtain rfl : R = .inr m := by
            rw [← HR.out, show n - 1 = (j - 2 + 1) + (n - j) by omega]
            exact extR_stay (extR_fail HE.out (by rw [hj3]; exact hx)) _
          clear hnj hx
          go_wp2_with (first | (go_at_call 59; refine (HNJ.out _ HBL.out).mono ?_; rintro e w9 ⟨⟨g, cp, rfl, hg, hcl⟩, hb⟩; (refine mem hb ?_; intro N hN hz hc hf; (try simp at hN); subst hN)))
          ((try simp only [Exit.inBlock, Exit.then]); refine bodyPost_ret (by first | (simp [results, Tryz.results32, go_sem, *]; done) | (simp [results, Tryz.results32, go_sem, *]; rfl) | (simp [results, Tryz.results32, go_sem, ↓IntWalk.iteOmega, *]; try rfl)) rfl ?_)
          have hg3 : w.heap.size + 2 ≤ g := up_e hz8 (Nat.le_of_lt s2) hg
          obtain ⟨g1, g2⟩ := up2 hg3
          refine ⟨act_set2 (hK := rfl) (hL := rfl) g2 g1 (hcl.below ?_), ?_⟩
          · (repeat' (first | (with_reducible exact Below.refl _ _) | (with_reducible assumption) | (with_reducible refine Below.alloc ?_ ?_ _) | (with_reducible refine below_drewN ?_ _) | (with_reducible refine Below.drew ?_) | (with_reducible refine Below.setCell ?_ ?_ _) | (with_reducible refine below_via (by assumption) ?_ ?_) | (with_reducible refine below_via (later_below _) ?_ ?_) | (with_reducible exact Nat.le_refl _) | omega | (simp; omega) | (simp; done)))
          · have hbel := HBL.out
            (repeat' (first | (with_reducible exact Below.refl _ _) | (with_reducible assumption) | (with_reducible refine Below.alloc ?_ ?_ _) | (with_reducible refine below_drewN ?_ _) | (with_reducible refine Below.drew ?_) | (with_reducible refine Below.setCell ?_ ?_ _) | (with_reducible refine below_via (by assumption) ?_ ?_) | (with_reducible refine below_via (later_below _) ?_ ?_) | (with_reducible exact Nat.le_refl _) | omega | (simp; omega) | (simp; done)))
        | inl v =>
          obtain ⟨p, q⟩ := v
          rw [hx] at hnj
          have HNJ : Hid (NumOk w word a n cap j p q) := hnj
          obtain ⟨hp1, hp2⟩ := HBD.out j _ hx
          dsimp only at hp1 hp2
          have hnext := extR_next HE.out (a := (p, q)) (by rw [hj3]; exact hx)
          dsimp only at hnext
          have HC : Hid (∀ w', Calls Tryz.prog 21 #[.agg #[.int .i64 p, .int .i64 q], .agg #[.int .i64 P, .int .i64 Q]] w' fun e w'' => e = .returned (.int .i64 (cmpT p q P Q)) ∧ Below w'.heap.size w' w'') := fun w' => cmp_any p q P Q w' hp1 hp2 hP1 hP2
          obtain ⟨X, hX⟩ : ∃ X, cmpT p q P Q = X := ⟨_, rfl⟩
          rw [hX] at hnext HC
          clear hX hnj hx
          by_cases ht : (f = 6 ∧ 0 < X) ∨ (f = 7 ∧ X < 0)
          · rw [bestN_yes ht] at hnext
            have HX := Lib.hid hnext
            clear hnext
            rcases ht with ⟨rfl, ht⟩ | ⟨rfl, ht⟩
            all_goals
              go_wp2_with (first | (go_at_call 59; refine (HNJ.out _ HBL.out).mono ?_; rintro e w9 ⟨rfl, hb⟩; (refine mem hb ?_; intro N hN hz hc hf; (try simp at hN); subst hN)) | (go_at_call 21; refine (HC.out _).mono ?_; rintro e w10 ⟨rfl, hb⟩; (refine mem hb ?_; intro N hN hz hc hf; (try simp at hN); subst hN)))
              have hgo : Below wr.heap.size wr w10 := by (repeat' (first | (with_reducible exact Below.refl _ _) | (with_reducible assumption) | (with_reducible refine Below.alloc ?_ ?_ _) | (with_reducible refine below_drewN ?_ _) | (with_reducible refine Below.drew ?_) | (with_reducible refine Below.setCell ?_ ?_ _) | (with_reducible refine below_via (by assumption) ?_ ?_) | (with_reducible refine below_via (later_below _) ?_ ?_) | (with_reducible exact Nat.le_refl _) | omega | (simp; omega) | (simp; done)))
              refine ⟨⟨j + 1, p, q, by omega, by omega, by go_num, ?_, ⟨hp1, hp2⟩, (HB0.out.below hgo).other _ _ (by omega), (HB1.out.below hgo).other _ _ (by omega), (HB2.out.below hgo).set _ _, ?_⟩, by simp [intOf]; omega⟩
              · rw [show j + 1 - 2 = j - 2 + 1 by omega]
                exact HX.out
              · have hbel := HBL.out
                show Below _ _ _
                (repeat' (first | (with_reducible exact Below.refl _ _) | (with_reducible assumption) | (with_reducible refine Below.alloc ?_ ?_ _) | (with_reducible refine below_drewN ?_ _) | (with_reducible refine Below.drew ?_) | (with_reducible refine Below.setCell ?_ ?_ _) | (with_reducible refine below_via (by assumption) ?_ ?_) | (with_reducible refine below_via (later_below _) ?_ ?_) | (with_reducible exact Nat.le_refl _) | omega | (simp; omega) | (simp; done)))
          · rw [bestN_no ht] at hnext
            have HX := Lib.hid hnext
            have hcs : (f = 6 ∧ ¬ 0 < X) ∨ (f = 7 ∧ ¬ X < 0) := by have := HF.out; omega
            clear hnext ht
            rcases hcs with ⟨rfl, ht⟩ | ⟨rfl, ht⟩
            all_goals
              go_wp2_with (first | (go_at_call 59; refine (HNJ.out _ HBL.out).mono ?_; rintro e w9 ⟨rfl, hb⟩; (refine mem hb ?_; intro N hN hz hc hf; (try simp at hN); subst hN)) | (go_at_call 21; refine (HC.out _).mono ?_; rintro e w10 ⟨rfl, hb⟩; (refine mem hb ?_; intro N hN hz hc hf; (try simp at hN); subst hN)))
              have hgo : Below wr.heap.size wr w10 := by (repeat' (first | (with_reducible exact Below.refl _ _) | (with_reducible assumption) | (with_reducible refine Below.alloc ?_ ?_ _) | (with_reducible refine below_drewN ?_ _) | (with_reducible refine Below.drew ?_) | (with_reducible refine Below.setCell ?_ ?_ _) | (with_reducible refine below_via (by assumption) ?_ ?_) | (with_reducible refine below_via (later_below _) ?_ ?_) | (with_reducible exact Nat.le_refl _) | omega | (simp; omega) | (simp; done)))
              refine ⟨⟨j + 1, P, Q, by omega, by omega, by go_num, ?_, ⟨hP1, hP2⟩, HB0.out.below hgo, HB1.out.below hgo, HB2.out.below hgo, ?_⟩, by simp [intOf]; omega⟩
              · rw [show j + 1 - 2 = j - 2 + 1 by omega]
                exact HX.out
              · have hbel := HBL.out
                show Below _ _ _
                (repeat' (first | (with_reducible exact Below.refl _ _) | (with_reducible assumption) | (with_reducible refine Below.alloc ?_ ?_ _) | (with_reducible refine below_drewN ?_ _) | (with_reducible refine Below.drew ?_) | (with_reducible refine Below.setCell ?_ ?_ _) | (with_reducible refine below_via (by assumption) ?_ ?_) | (with_reducible refine below_via (later_below _) ?_ ?_) | (with_reducible exact Nat.le_refl _) | omega | (simp; omega) | (simp; done)))
      · obtain rfl : R = .inl (P, Q) := by
          rw [← HR.out, show n - 1 = j - 2 by omega]
          exact HE.out
        obtain ⟨k, p, q, s, r, hv⟩ := ofNumV_is P Q
        have HRES : Hid (∀ w', Calls Tryz.prog 60 #[.agg #[.int .i64 P, .int .i64 Q]] w' fun e w'' => ActIs w'.heap.size 1 0 k p q s r e w'' ∧ Below w'.heap.size w' w'') := fun w' => result_v P Q k p q s r w' hP1 hP2 hv
        have HV := Lib.hid hv
        clear hv
        go_wp2_with (first | (go_at_call 60; refine (HRES.out _).mono ?_; rintro e w9 ⟨⟨g, cp, rfl, hg, hcl⟩, hb⟩; (refine mem hb ?_; intro N hN hz hc hf; (try simp at hN); subst hN)))
        ((try simp only [Exit.inBlock, Exit.then]); refine bodyPost_ret (by first | (simp [results, Tryz.results32, go_sem, *]; done) | (simp [results, Tryz.results32, go_sem, *]; rfl) | (simp [results, Tryz.results32, go_sem, ↓IntWalk.iteOmega, *]; try rfl)) rfl ?_)
        have hg3 : w.heap.size + 2 ≤ g := up_e hz8 (Nat.le_of_lt s2) hg
        obtain ⟨g1, g2⟩ := up2 hg3
        refine ⟨⟨k, p, q, s, r, HV.out, act_set2 (hK := rfl) (hL := rfl) g2 g1 (hcl.below ?_)⟩, ?_⟩
        · (repeat' (first | (with_reducible exact Below.refl _ _) | (with_reducible assumption) | (with_reducible refine Below.alloc ?_ ?_ _) | (with_reducible refine below_drewN ?_ _) | (with_reducible refine Below.drew ?_) | (with_reducible refine Below.setCell ?_ ?_ _) | (with_reducible refine below_via (by assumption) ?_ ?_) | (with_reducible refine below_via (later_below _) ?_ ?_) | (with_reducible exact Nat.le_refl _) | omega | (simp; omega) | (simp; done)))
        · have hbel := HBL.out
          (repeat' (first | (with_reducible exact Below.refl _ _) | (with_reducible assumption) | (with_reducible refine Below.alloc ?_ ?_ _) | (with_reducible refine below_drewN ?_ _) | (with_reducible refine Below.drew ?_) | (with_reducible refine Below.setCell ?_ ?_ _) | (with_reducible refine below_via (by assumption) ?_ ?_) | (with_reducible refine below_via (later_below _) ?_ ?_) | (with_reducible exact Nat.le_refl _) | omega | (simp; omega) | (simp; done)))
end Go.Proofs.YtfclmnglckikbaaGreatDoor
