/- Numlib's Begin: what each call returns, where the method's contract is given. -/
import Derived.Test.YtfclmnglckikbaaGreatDoorMNlC
namespace Go.Proofs.YtfclmnglckikbaaGreatDoor
open Go.RowKit Go.Instr
set_option linter.unusedVariables false

/-- The names of the functions. -/
def wordN (j : Nat) : ByteArray := #[⟨#[97, 98, 115]⟩, ⟨#[98, 97, 115, 101]⟩, ⟨#[99, 101, 105, 108]⟩, ⟨#[100, 101, 110]⟩, ⟨#[102, 105, 120, 101, 100]⟩, ⟨#[102, 108, 111, 111, 114]⟩, ⟨#[109, 97, 120]⟩, ⟨#[109, 105, 110]⟩, ⟨#[110, 117, 109]⟩, ⟨#[115, 105, 103, 110]⟩, (⟨#[116, 121, 112, 101]⟩ : ByteArray)].getD j ⟨#[]⟩
def wordsCells : Array Value := #[.string (wordN 0), .string (wordN 1), .string (wordN 2), .string (wordN 3), .string (wordN 4), .string (wordN 5), .string (wordN 6), .string (wordN 7), .string (wordN 8), .string (wordN 9), .string (wordN 10)]
theorem words_cell (w : World) (t : TypeId) (j : Nat) (hj : j < 11) : (w.alloc (.cells wordsCells t)).cell? ⟨w.heap.size, j, none⟩ = some (.string (wordN j)) := by
  refine (World.cell?_alloc_at wordsCells t _ j rfl).trans ?_
  match j, hj with
  | 0, _ => rfl
  | 1, _ => rfl
  | 2, _ => rfl
  | 3, _ => rfl
  | 4, _ => rfl
  | 5, _ => rfl
  | 6, _ => rfl
  | 7, _ => rfl
  | 8, _ => rfl
  | 9, _ => rfl
  | 10, _ => rfl
theorem wordN_size (j : Nat) (hj : j < 11) : (wordN j).size ≤ 5 := by
  match j, hj with
  | 0, _ => decide
  | 1, _ => decide
  | 2, _ => decide
  | 3, _ => decide
  | 4, _ => decide
  | 5, _ => decide
  | 6, _ => decide
  | 7, _ => decide
  | 8, _ => decide
  | 9, _ => decide
  | 10, _ => decide

theorem up_two {a b g : Nat} (h8 : a + 1 ≤ b) (h9 : b + 1 ≤ g) : a + 1 ≤ g := by omega
theorem act_set {w : World} {b base kind level g cp : Nat} {k p q : Int} {s : ByteArray} {r : Int} {v0 v1 v2 v3 v4 v5 v6 v7 v8 v9 v10 v11 : Value} (hne : b ≠ g) (h1 : base ≤ g) (h : Cells5 w g k p q s r) :
    ActIs base kind level k p q s r (.returned (actV kind g cp level)) ((((((((((((w.setCell ⟨b, 0, none⟩ v0).setCell ⟨b, 1, none⟩ v1).setCell ⟨b, 2, none⟩ v2).setCell ⟨b, 3, none⟩ v3).setCell ⟨b, 4, none⟩ v4).setCell ⟨b, 5, none⟩ v5).setCell ⟨b, 6, none⟩ v6).setCell ⟨b, 7, none⟩ v7).setCell ⟨b, 8, none⟩ v8).setCell ⟨b, 9, none⟩ v9).setCell ⟨b, 10, none⟩ v10).setCell ⟨b, 11, none⟩ v11) :=
  ⟨g, cp, rfl, h1, Cells5.set hne (Cells5.set hne (Cells5.set hne (Cells5.set hne (Cells5.set hne (Cells5.set hne (Cells5.set hne (Cells5.set hne (Cells5.set hne (Cells5.set hne (Cells5.set hne (Cells5.set hne h)))))))))))⟩
set_option maxHeartbeats 1600000 in
set_option maxRecDepth 100000 in
theorem words_any (w : World) : Calls Tryz.prog 29 #[] w fun e w' => (∃ g : Nat, e = .returned (.slice (some ⟨g, 0, none⟩) 11 11) ∧ w.heap.size ≤ g ∧ ∀ j, j < 11 → w'.cell? ⟨g, j, none⟩ = some (.string (wordN j))) ∧ Below w.heap.size w w' := by
  go_enter Tryz.func29, Tryz.ntmps29
  go_wp2_with fail
  go_returns
  refine ⟨⟨w.heap.size, rfl, Nat.le_refl _, fun j hj => words_cell w _ j hj⟩, ?_⟩
  (repeat' (first | (with_reducible exact Below.refl _ _) | (with_reducible assumption) | (with_reducible refine Below.alloc ?_ ?_ _) | (with_reducible refine below_drewN ?_ _) | (with_reducible refine Below.drew ?_) | (with_reducible refine Below.setCell ?_ ?_ _) | (with_reducible refine below_via (by assumption) ?_ ?_) | (with_reducible refine below_via (later_below _) ?_ ?_) | (with_reducible exact Nat.le_refl _) | omega | (simp; omega) | (simp; done)))


set_option maxHeartbeats 1600000 in
set_option maxRecDepth 100000 in
theorem begin_0 (hp : Value) (name : ByteArray) (a : Option Addr) (n cap kind level : Nat) (k p q : Int) (s : ByteArray) (r : Int) (w : World)
    (hne : ∀ j, j < 0 → (name.toList == ((⟨#[110, 117, 109, 98, 101, 114, 46]⟩ : ByteArray) ++ wordN j).toList) = false) (heq : (name.toList == ((⟨#[110, 117, 109, 98, 101, 114, 46]⟩ : ByteArray) ++ wordN 0).toList) = true)
    (hm : ∀ w', Below w.heap.size w w' → Calls Tryz.prog 36 #[.agg #[.string (wordN 0), .slice a n cap], .int .i64 0] w' fun e w'' => ActIs w'.heap.size kind level k p q s r e w'' ∧ Below w'.heap.size w' w'') :
    Calls Tryz.prog 15 #[hp, .string name, .slice a n cap] w fun e w' => ActIs w.heap.size kind level k p q s r e w' ∧ Below w.heap.size w w' := by
  have HNE := Lib.hid hne
  have HEQ := Lib.hid heq
  have HM := Lib.hid hm
  clear hne heq hm
  have fr0 := fun i => frozen_out w (w.heap.size) i (by omega)
  go_enter Tryz.func15, Tryz.ntmps15
  go_wp2_with (first | (go_at_call 29; refine (words_any _).mono ?_; rintro e w8 ⟨⟨g, rfl, hg, hcl⟩, hb⟩; (refine mem hb ?_; intro N hN hz hc hf; (try simp at hN); subst hN)))
  have HCL := Lib.hid hcl
  have hres : ∀ i, w8.cell? ⟨w.heap.size, i, none⟩ = (#[Value.int .i64 0, .int .i64 0, .int .i64 0, .int .i64 0, .int .i64 0, .string ⟨#[]⟩, .int .i64 0, .slice none 0 0, .string ⟨#[]⟩, .int .i64 0, .int .i64 0, .slice none 0 0] : Array Value)[i]? := fun i => by rw [hc, if_pos (Nat.lt_succ_self _), cell_alloc_if, if_pos rfl]
  clear hc
  have HB8 := Lib.hid hb
  clear hcl hb
  go_loop [7, 8, 12] (fun _ _ u => ∃ j : Nat, j ≤ 0 ∧ u = .int .i64 j) (fun _ _ u => 0 - (intOf u).toNat)
  case atStart => exact ⟨0, Nat.zero_le _, rfl⟩
  case round =>
    obtain ⟨j, hj, rfl⟩ := hrel
    have hcj := HCL.out j (by omega)
    have hsj := wordN_size j (by omega)
    by_cases hlt : j < 0
    · exact absurd hlt (Nat.not_lt_zero _)
    · obtain rfl : j = 0 := by omega
      have hn := HEQ.out
      obtain ⟨Wd, hW⟩ : ∃ Wd, wordN 0 = Wd := ⟨_, rfl⟩
      rw [hW] at hcj hsj hn HM
      clear hW
      have hb := HB8.out
      go_wp2_with (first | (go_at_call 36; refine (HM.out _ ?_).mono ?_; (focus ((repeat' (first | (with_reducible exact Below.refl _ _) | (with_reducible assumption) | (with_reducible refine Below.alloc ?_ ?_ _) | (with_reducible refine below_drewN ?_ _) | (with_reducible refine Below.drew ?_) | (with_reducible refine Below.setCell ?_ ?_ _) | (with_reducible refine below_via (by assumption) ?_ ?_) | (with_reducible refine below_via (later_below _) ?_ ?_) | (with_reducible exact Nat.le_refl _) | omega | (simp; omega) | (simp; done))))); rintro e w9 ⟨⟨g2, cp, rfl, hg2, hcl⟩, hb⟩; (refine mem hb ?_; intro N hN hz hc hf; (try simp at hN); subst hN)))
      ((try simp only [Exit.inBlock, Exit.then]); refine bodyPost_ret (by first | (simp [results, Tryz.results15, go_sem, *]; done) | (simp [results, Tryz.results15, go_sem, *]; rfl) | (simp [results, Tryz.results15, go_sem, ↓IntWalk.iteOmega, *]; try rfl)) rfl ?_)
      have hg3 : w.heap.size + 1 ≤ g2 := by
        have h8 : w.heap.size + 1 ≤ w8.heap.size := by assumption
        have h9 : w8.heap.size + 1 ≤ g2 := by simpa using hg2
        exact up_two h8 h9
      obtain ⟨g1, g3⟩ := up1 hg3
      have hbl := HB8.out
      refine ⟨?_, ?_⟩
      · refine act_set g3 g1 hcl
      · (repeat' (first | (with_reducible exact Below.refl _ _) | (with_reducible assumption) | (with_reducible refine Below.alloc ?_ ?_ _) | (with_reducible refine below_drewN ?_ _) | (with_reducible refine Below.drew ?_) | (with_reducible refine Below.setCell ?_ ?_ _) | (with_reducible refine below_via (by assumption) ?_ ?_) | (with_reducible refine below_via (later_below _) ?_ ?_) | (with_reducible exact Nat.le_refl _) | omega | (simp; omega) | (simp; done)))


set_option maxHeartbeats 1600000 in
set_option maxRecDepth 100000 in
theorem begin_1 (hp : Value) (name : ByteArray) (a : Option Addr) (n cap kind level : Nat) (k p q : Int) (s : ByteArray) (r : Int) (w : World)
    (hne : ∀ j, j < 1 → (name.toList == ((⟨#[110, 117, 109, 98, 101, 114, 46]⟩ : ByteArray) ++ wordN j).toList) = false) (heq : (name.toList == ((⟨#[110, 117, 109, 98, 101, 114, 46]⟩ : ByteArray) ++ wordN 1).toList) = true)
    (hm : ∀ w', Below w.heap.size w w' → Calls Tryz.prog 34 #[.agg #[.string (wordN 1), .slice a n cap]] w' fun e w'' => ActIs w'.heap.size kind level k p q s r e w'' ∧ Below w'.heap.size w' w'') :
    Calls Tryz.prog 15 #[hp, .string name, .slice a n cap] w fun e w' => ActIs w.heap.size kind level k p q s r e w' ∧ Below w.heap.size w w' := by
  have HNE := Lib.hid hne
  have HEQ := Lib.hid heq
  have HM := Lib.hid hm
  clear hne heq hm
  have fr0 := fun i => frozen_out w (w.heap.size) i (by omega)
  go_enter Tryz.func15, Tryz.ntmps15
  go_wp2_with (first | (go_at_call 29; refine (words_any _).mono ?_; rintro e w8 ⟨⟨g, rfl, hg, hcl⟩, hb⟩; (refine mem hb ?_; intro N hN hz hc hf; (try simp at hN); subst hN)))
  have HCL := Lib.hid hcl
  have hres : ∀ i, w8.cell? ⟨w.heap.size, i, none⟩ = (#[Value.int .i64 0, .int .i64 0, .int .i64 0, .int .i64 0, .int .i64 0, .string ⟨#[]⟩, .int .i64 0, .slice none 0 0, .string ⟨#[]⟩, .int .i64 0, .int .i64 0, .slice none 0 0] : Array Value)[i]? := fun i => by rw [hc, if_pos (Nat.lt_succ_self _), cell_alloc_if, if_pos rfl]
  clear hc
  have HB8 := Lib.hid hb
  clear hcl hb
  go_loop [7, 8, 12] (fun _ _ u => ∃ j : Nat, j ≤ 1 ∧ u = .int .i64 j) (fun _ _ u => 1 - (intOf u).toNat)
  case atStart => exact ⟨0, Nat.zero_le _, rfl⟩
  case round =>
    obtain ⟨j, hj, rfl⟩ := hrel
    have hcj := HCL.out j (by omega)
    have hsj := wordN_size j (by omega)
    by_cases hlt : j < 1
    · have hn := HNE.out j hlt
      obtain ⟨Wd, hW⟩ : ∃ Wd, wordN j = Wd := ⟨_, rfl⟩
      rw [hW] at hcj hsj hn
      clear hW
      go_wp2
      refine ⟨⟨j + 1, by omega, by go_num⟩, by simp [intOf]; omega⟩
    · obtain rfl : j = 1 := by omega
      have hn := HEQ.out
      obtain ⟨Wd, hW⟩ : ∃ Wd, wordN 1 = Wd := ⟨_, rfl⟩
      rw [hW] at hcj hsj hn HM
      clear hW
      have hb := HB8.out
      go_wp2_with (first | (go_at_call 34; refine (HM.out _ ?_).mono ?_; (focus ((repeat' (first | (with_reducible exact Below.refl _ _) | (with_reducible assumption) | (with_reducible refine Below.alloc ?_ ?_ _) | (with_reducible refine below_drewN ?_ _) | (with_reducible refine Below.drew ?_) | (with_reducible refine Below.setCell ?_ ?_ _) | (with_reducible refine below_via (by assumption) ?_ ?_) | (with_reducible refine below_via (later_below _) ?_ ?_) | (with_reducible exact Nat.le_refl _) | omega | (simp; omega) | (simp; done))))); rintro e w9 ⟨⟨g2, cp, rfl, hg2, hcl⟩, hb⟩; (refine mem hb ?_; intro N hN hz hc hf; (try simp at hN); subst hN)))
      ((try simp only [Exit.inBlock, Exit.then]); refine bodyPost_ret (by first | (simp [results, Tryz.results15, go_sem, *]; done) | (simp [results, Tryz.results15, go_sem, *]; rfl) | (simp [results, Tryz.results15, go_sem, ↓IntWalk.iteOmega, *]; try rfl)) rfl ?_)
      have hg3 : w.heap.size + 1 ≤ g2 := by
        have h8 : w.heap.size + 1 ≤ w8.heap.size := by assumption
        have h9 : w8.heap.size + 1 ≤ g2 := by simpa using hg2
        exact up_two h8 h9
      obtain ⟨g1, g3⟩ := up1 hg3
      have hbl := HB8.out
      refine ⟨?_, ?_⟩
      · refine act_set g3 g1 hcl
      · (repeat' (first | (with_reducible exact Below.refl _ _) | (with_reducible assumption) | (with_reducible refine Below.alloc ?_ ?_ _) | (with_reducible refine below_drewN ?_ _) | (with_reducible refine Below.drew ?_) | (with_reducible refine Below.setCell ?_ ?_ _) | (with_reducible refine below_via (by assumption) ?_ ?_) | (with_reducible refine below_via (later_below _) ?_ ?_) | (with_reducible exact Nat.le_refl _) | omega | (simp; omega) | (simp; done)))


set_option maxHeartbeats 1600000 in
set_option maxRecDepth 100000 in
theorem begin_2 (hp : Value) (name : ByteArray) (a : Option Addr) (n cap kind level : Nat) (k p q : Int) (s : ByteArray) (r : Int) (w : World)
    (hne : ∀ j, j < 2 → (name.toList == ((⟨#[110, 117, 109, 98, 101, 114, 46]⟩ : ByteArray) ++ wordN j).toList) = false) (heq : (name.toList == ((⟨#[110, 117, 109, 98, 101, 114, 46]⟩ : ByteArray) ++ wordN 2).toList) = true)
    (hm : ∀ w', Below w.heap.size w w' → Calls Tryz.prog 36 #[.agg #[.string (wordN 2), .slice a n cap], .int .i64 2] w' fun e w'' => ActIs w'.heap.size kind level k p q s r e w'' ∧ Below w'.heap.size w' w'') :
    Calls Tryz.prog 15 #[hp, .string name, .slice a n cap] w fun e w' => ActIs w.heap.size kind level k p q s r e w' ∧ Below w.heap.size w w' := by
  have HNE := Lib.hid hne
  have HEQ := Lib.hid heq
  have HM := Lib.hid hm
  clear hne heq hm
  have fr0 := fun i => frozen_out w (w.heap.size) i (by omega)
  go_enter Tryz.func15, Tryz.ntmps15
  go_wp2_with (first | (go_at_call 29; refine (words_any _).mono ?_; rintro e w8 ⟨⟨g, rfl, hg, hcl⟩, hb⟩; (refine mem hb ?_; intro N hN hz hc hf; (try simp at hN); subst hN)))
  have HCL := Lib.hid hcl
  have hres : ∀ i, w8.cell? ⟨w.heap.size, i, none⟩ = (#[Value.int .i64 0, .int .i64 0, .int .i64 0, .int .i64 0, .int .i64 0, .string ⟨#[]⟩, .int .i64 0, .slice none 0 0, .string ⟨#[]⟩, .int .i64 0, .int .i64 0, .slice none 0 0] : Array Value)[i]? := fun i => by rw [hc, if_pos (Nat.lt_succ_self _), cell_alloc_if, if_pos rfl]
  clear hc
  have HB8 := Lib.hid hb
  clear hcl hb
  go_loop [7, 8, 12] (fun _ _ u => ∃ j : Nat, j ≤ 2 ∧ u = .int .i64 j) (fun _ _ u => 2 - (intOf u).toNat)
  case atStart => exact ⟨0, Nat.zero_le _, rfl⟩
  case round =>
    obtain ⟨j, hj, rfl⟩ := hrel
    have hcj := HCL.out j (by omega)
    have hsj := wordN_size j (by omega)
    by_cases hlt : j < 2
    · have hn := HNE.out j hlt
      obtain ⟨Wd, hW⟩ : ∃ Wd, wordN j = Wd := ⟨_, rfl⟩
      rw [hW] at hcj hsj hn
      clear hW
      go_wp2
      refine ⟨⟨j + 1, by omega, by go_num⟩, by simp [intOf]; omega⟩
    · obtain rfl : j = 2 := by omega
      have hn := HEQ.out
      obtain ⟨Wd, hW⟩ : ∃ Wd, wordN 2 = Wd := ⟨_, rfl⟩
      rw [hW] at hcj hsj hn HM
      clear hW
      have hb := HB8.out
      go_wp2_with (first | (go_at_call 36; refine (HM.out _ ?_).mono ?_; (focus ((repeat' (first | (with_reducible exact Below.refl _ _) | (with_reducible assumption) | (with_reducible refine Below.alloc ?_ ?_ _) | (with_reducible refine below_drewN ?_ _) | (with_reducible refine Below.drew ?_) | (with_reducible refine Below.setCell ?_ ?_ _) | (with_reducible refine below_via (by assumption) ?_ ?_) | (with_reducible refine below_via (later_below _) ?_ ?_) | (with_reducible exact Nat.le_refl _) | omega | (simp; omega) | (simp; done))))); rintro e w9 ⟨⟨g2, cp, rfl, hg2, hcl⟩, hb⟩; (refine mem hb ?_; intro N hN hz hc hf; (try simp at hN); subst hN)))
      ((try simp only [Exit.inBlock, Exit.then]); refine bodyPost_ret (by first | (simp [results, Tryz.results15, go_sem, *]; done) | (simp [results, Tryz.results15, go_sem, *]; rfl) | (simp [results, Tryz.results15, go_sem, ↓IntWalk.iteOmega, *]; try rfl)) rfl ?_)
      have hg3 : w.heap.size + 1 ≤ g2 := by
        have h8 : w.heap.size + 1 ≤ w8.heap.size := by assumption
        have h9 : w8.heap.size + 1 ≤ g2 := by simpa using hg2
        exact up_two h8 h9
      obtain ⟨g1, g3⟩ := up1 hg3
      have hbl := HB8.out
      refine ⟨?_, ?_⟩
      · refine act_set g3 g1 hcl
      · (repeat' (first | (with_reducible exact Below.refl _ _) | (with_reducible assumption) | (with_reducible refine Below.alloc ?_ ?_ _) | (with_reducible refine below_drewN ?_ _) | (with_reducible refine Below.drew ?_) | (with_reducible refine Below.setCell ?_ ?_ _) | (with_reducible refine below_via (by assumption) ?_ ?_) | (with_reducible refine below_via (later_below _) ?_ ?_) | (with_reducible exact Nat.le_refl _) | omega | (simp; omega) | (simp; done)))


set_option maxHeartbeats 1600000 in
set_option maxRecDepth 100000 in
theorem begin_3 (hp : Value) (name : ByteArray) (a : Option Addr) (n cap kind level : Nat) (k p q : Int) (s : ByteArray) (r : Int) (w : World)
    (hne : ∀ j, j < 3 → (name.toList == ((⟨#[110, 117, 109, 98, 101, 114, 46]⟩ : ByteArray) ++ wordN j).toList) = false) (heq : (name.toList == ((⟨#[110, 117, 109, 98, 101, 114, 46]⟩ : ByteArray) ++ wordN 3).toList) = true)
    (hm : ∀ w', Below w.heap.size w w' → Calls Tryz.prog 36 #[.agg #[.string (wordN 3), .slice a n cap], .int .i64 3] w' fun e w'' => ActIs w'.heap.size kind level k p q s r e w'' ∧ Below w'.heap.size w' w'') :
    Calls Tryz.prog 15 #[hp, .string name, .slice a n cap] w fun e w' => ActIs w.heap.size kind level k p q s r e w' ∧ Below w.heap.size w w' := by
  have HNE := Lib.hid hne
  have HEQ := Lib.hid heq
  have HM := Lib.hid hm
  clear hne heq hm
  have fr0 := fun i => frozen_out w (w.heap.size) i (by omega)
  go_enter Tryz.func15, Tryz.ntmps15
  go_wp2_with (first | (go_at_call 29; refine (words_any _).mono ?_; rintro e w8 ⟨⟨g, rfl, hg, hcl⟩, hb⟩; (refine mem hb ?_; intro N hN hz hc hf; (try simp at hN); subst hN)))
  have HCL := Lib.hid hcl
  have hres : ∀ i, w8.cell? ⟨w.heap.size, i, none⟩ = (#[Value.int .i64 0, .int .i64 0, .int .i64 0, .int .i64 0, .int .i64 0, .string ⟨#[]⟩, .int .i64 0, .slice none 0 0, .string ⟨#[]⟩, .int .i64 0, .int .i64 0, .slice none 0 0] : Array Value)[i]? := fun i => by rw [hc, if_pos (Nat.lt_succ_self _), cell_alloc_if, if_pos rfl]
  clear hc
  have HB8 := Lib.hid hb
  clear hcl hb
  go_loop [7, 8, 12] (fun _ _ u => ∃ j : Nat, j ≤ 3 ∧ u = .int .i64 j) (fun _ _ u => 3 - (intOf u).toNat)
  case atStart => exact ⟨0, Nat.zero_le _, rfl⟩
  case round =>
    obtain ⟨j, hj, rfl⟩ := hrel
    have hcj := HCL.out j (by omega)
    have hsj := wordN_size j (by omega)
    by_cases hlt : j < 3
    · have hn := HNE.out j hlt
      obtain ⟨Wd, hW⟩ : ∃ Wd, wordN j = Wd := ⟨_, rfl⟩
      rw [hW] at hcj hsj hn
      clear hW
      go_wp2
      refine ⟨⟨j + 1, by omega, by go_num⟩, by simp [intOf]; omega⟩
    · obtain rfl : j = 3 := by omega
      have hn := HEQ.out
      obtain ⟨Wd, hW⟩ : ∃ Wd, wordN 3 = Wd := ⟨_, rfl⟩
      rw [hW] at hcj hsj hn HM
      clear hW
      have hb := HB8.out
      go_wp2_with (first | (go_at_call 36; refine (HM.out _ ?_).mono ?_; (focus ((repeat' (first | (with_reducible exact Below.refl _ _) | (with_reducible assumption) | (with_reducible refine Below.alloc ?_ ?_ _) | (with_reducible refine below_drewN ?_ _) | (with_reducible refine Below.drew ?_) | (with_reducible refine Below.setCell ?_ ?_ _) | (with_reducible refine below_via (by assumption) ?_ ?_) | (with_reducible refine below_via (later_below _) ?_ ?_) | (with_reducible exact Nat.le_refl _) | omega | (simp; omega) | (simp; done))))); rintro e w9 ⟨⟨g2, cp, rfl, hg2, hcl⟩, hb⟩; (refine mem hb ?_; intro N hN hz hc hf; (try simp at hN); subst hN)))
      ((try simp only [Exit.inBlock, Exit.then]); refine bodyPost_ret (by first | (simp [results, Tryz.results15, go_sem, *]; done) | (simp [results, Tryz.results15, go_sem, *]; rfl) | (simp [results, Tryz.results15, go_sem, ↓IntWalk.iteOmega, *]; try rfl)) rfl ?_)
      have hg3 : w.heap.size + 1 ≤ g2 := by
        have h8 : w.heap.size + 1 ≤ w8.heap.size := by assumption
        have h9 : w8.heap.size + 1 ≤ g2 := by simpa using hg2
        exact up_two h8 h9
      obtain ⟨g1, g3⟩ := up1 hg3
      have hbl := HB8.out
      refine ⟨?_, ?_⟩
      · refine act_set g3 g1 hcl
      · (repeat' (first | (with_reducible exact Below.refl _ _) | (with_reducible assumption) | (with_reducible refine Below.alloc ?_ ?_ _) | (with_reducible refine below_drewN ?_ _) | (with_reducible refine Below.drew ?_) | (with_reducible refine Below.setCell ?_ ?_ _) | (with_reducible refine below_via (by assumption) ?_ ?_) | (with_reducible refine below_via (later_below _) ?_ ?_) | (with_reducible exact Nat.le_refl _) | omega | (simp; omega) | (simp; done)))


set_option maxHeartbeats 1600000 in
set_option maxRecDepth 100000 in
theorem begin_4 (hp : Value) (name : ByteArray) (a : Option Addr) (n cap kind level : Nat) (k p q : Int) (s : ByteArray) (r : Int) (w : World)
    (hne : ∀ j, j < 4 → (name.toList == ((⟨#[110, 117, 109, 98, 101, 114, 46]⟩ : ByteArray) ++ wordN j).toList) = false) (heq : (name.toList == ((⟨#[110, 117, 109, 98, 101, 114, 46]⟩ : ByteArray) ++ wordN 4).toList) = true)
    (hm : ∀ w', Below w.heap.size w w' → Calls Tryz.prog 33 #[.agg #[.string (wordN 4), .slice a n cap]] w' fun e w'' => ActIs w'.heap.size kind level k p q s r e w'' ∧ Below w'.heap.size w' w'') :
    Calls Tryz.prog 15 #[hp, .string name, .slice a n cap] w fun e w' => ActIs w.heap.size kind level k p q s r e w' ∧ Below w.heap.size w w' := by
  have HNE := Lib.hid hne
  have HEQ := Lib.hid heq
  have HM := Lib.hid hm
  clear hne heq hm
  have fr0 := fun i => frozen_out w (w.heap.size) i (by omega)
  go_enter Tryz.func15, Tryz.ntmps15
  go_wp2_with (first | (go_at_call 29; refine (words_any _).mono ?_; rintro e w8 ⟨⟨g, rfl, hg, hcl⟩, hb⟩; (refine mem hb ?_; intro N hN hz hc hf; (try simp at hN); subst hN)))
  have HCL := Lib.hid hcl
  have hres : ∀ i, w8.cell? ⟨w.heap.size, i, none⟩ = (#[Value.int .i64 0, .int .i64 0, .int .i64 0, .int .i64 0, .int .i64 0, .string ⟨#[]⟩, .int .i64 0, .slice none 0 0, .string ⟨#[]⟩, .int .i64 0, .int .i64 0, .slice none 0 0] : Array Value)[i]? := fun i => by rw [hc, if_pos (Nat.lt_succ_self _), cell_alloc_if, if_pos rfl]
  clear hc
  have HB8 := Lib.hid hb
  clear hcl hb
  go_loop [7, 8, 12] (fun _ _ u => ∃ j : Nat, j ≤ 4 ∧ u = .int .i64 j) (fun _ _ u => 4 - (intOf u).toNat)
  case atStart => exact ⟨0, Nat.zero_le _, rfl⟩
  case round =>
    obtain ⟨j, hj, rfl⟩ := hrel
    have hcj := HCL.out j (by omega)
    have hsj := wordN_size j (by omega)
    by_cases hlt : j < 4
    · have hn := HNE.out j hlt
      obtain ⟨Wd, hW⟩ : ∃ Wd, wordN j = Wd := ⟨_, rfl⟩
      rw [hW] at hcj hsj hn
      clear hW
      go_wp2
      refine ⟨⟨j + 1, by omega, by go_num⟩, by simp [intOf]; omega⟩
    · obtain rfl : j = 4 := by omega
      have hn := HEQ.out
      obtain ⟨Wd, hW⟩ : ∃ Wd, wordN 4 = Wd := ⟨_, rfl⟩
      rw [hW] at hcj hsj hn HM
      clear hW
      have hb := HB8.out
      go_wp2_with (first | (go_at_call 33; refine (HM.out _ ?_).mono ?_; (focus ((repeat' (first | (with_reducible exact Below.refl _ _) | (with_reducible assumption) | (with_reducible refine Below.alloc ?_ ?_ _) | (with_reducible refine below_drewN ?_ _) | (with_reducible refine Below.drew ?_) | (with_reducible refine Below.setCell ?_ ?_ _) | (with_reducible refine below_via (by assumption) ?_ ?_) | (with_reducible refine below_via (later_below _) ?_ ?_) | (with_reducible exact Nat.le_refl _) | omega | (simp; omega) | (simp; done))))); rintro e w9 ⟨⟨g2, cp, rfl, hg2, hcl⟩, hb⟩; (refine mem hb ?_; intro N hN hz hc hf; (try simp at hN); subst hN)))
      ((try simp only [Exit.inBlock, Exit.then]); refine bodyPost_ret (by first | (simp [results, Tryz.results15, go_sem, *]; done) | (simp [results, Tryz.results15, go_sem, *]; rfl) | (simp [results, Tryz.results15, go_sem, ↓IntWalk.iteOmega, *]; try rfl)) rfl ?_)
      have hg3 : w.heap.size + 1 ≤ g2 := by
        have h8 : w.heap.size + 1 ≤ w8.heap.size := by assumption
        have h9 : w8.heap.size + 1 ≤ g2 := by simpa using hg2
        exact up_two h8 h9
      obtain ⟨g1, g3⟩ := up1 hg3
      have hbl := HB8.out
      refine ⟨?_, ?_⟩
      · refine act_set g3 g1 hcl
      · (repeat' (first | (with_reducible exact Below.refl _ _) | (with_reducible assumption) | (with_reducible refine Below.alloc ?_ ?_ _) | (with_reducible refine below_drewN ?_ _) | (with_reducible refine Below.drew ?_) | (with_reducible refine Below.setCell ?_ ?_ _) | (with_reducible refine below_via (by assumption) ?_ ?_) | (with_reducible refine below_via (later_below _) ?_ ?_) | (with_reducible exact Nat.le_refl _) | omega | (simp; omega) | (simp; done)))


set_option maxHeartbeats 1600000 in
set_option maxRecDepth 100000 in
theorem begin_5 (hp : Value) (name : ByteArray) (a : Option Addr) (n cap kind level : Nat) (k p q : Int) (s : ByteArray) (r : Int) (w : World)
    (hne : ∀ j, j < 5 → (name.toList == ((⟨#[110, 117, 109, 98, 101, 114, 46]⟩ : ByteArray) ++ wordN j).toList) = false) (heq : (name.toList == ((⟨#[110, 117, 109, 98, 101, 114, 46]⟩ : ByteArray) ++ wordN 5).toList) = true)
    (hm : ∀ w', Below w.heap.size w w' → Calls Tryz.prog 36 #[.agg #[.string (wordN 5), .slice a n cap], .int .i64 5] w' fun e w'' => ActIs w'.heap.size kind level k p q s r e w'' ∧ Below w'.heap.size w' w'') :
    Calls Tryz.prog 15 #[hp, .string name, .slice a n cap] w fun e w' => ActIs w.heap.size kind level k p q s r e w' ∧ Below w.heap.size w w' := by
  have HNE := Lib.hid hne
  have HEQ := Lib.hid heq
  have HM := Lib.hid hm
  clear hne heq hm
  have fr0 := fun i => frozen_out w (w.heap.size) i (by omega)
  go_enter Tryz.func15, Tryz.ntmps15
  go_wp2_with (first | (go_at_call 29; refine (words_any _).mono ?_; rintro e w8 ⟨⟨g, rfl, hg, hcl⟩, hb⟩; (refine mem hb ?_; intro N hN hz hc hf; (try simp at hN); subst hN)))
  have HCL := Lib.hid hcl
  have hres : ∀ i, w8.cell? ⟨w.heap.size, i, none⟩ = (#[Value.int .i64 0, .int .i64 0, .int .i64 0, .int .i64 0, .int .i64 0, .string ⟨#[]⟩, .int .i64 0, .slice none 0 0, .string ⟨#[]⟩, .int .i64 0, .int .i64 0, .slice none 0 0] : Array Value)[i]? := fun i => by rw [hc, if_pos (Nat.lt_succ_self _), cell_alloc_if, if_pos rfl]
  clear hc
  have HB8 := Lib.hid hb
  clear hcl hb
  go_loop [7, 8, 12] (fun _ _ u => ∃ j : Nat, j ≤ 5 ∧ u = .int .i64 j) (fun _ _ u => 5 - (intOf u).toNat)
  case atStart => exact ⟨0, Nat.zero_le _, rfl⟩
  case round =>
    obtain ⟨j, hj, rfl⟩ := hrel
    have hcj := HCL.out j (by omega)
    have hsj := wordN_size j (by omega)
    by_cases hlt : j < 5
    · have hn := HNE.out j hlt
      obtain ⟨Wd, hW⟩ : ∃ Wd, wordN j = Wd := ⟨_, rfl⟩
      rw [hW] at hcj hsj hn
      clear hW
      go_wp2
      refine ⟨⟨j + 1, by omega, by go_num⟩, by simp [intOf]; omega⟩
    · obtain rfl : j = 5 := by omega
      have hn := HEQ.out
      obtain ⟨Wd, hW⟩ : ∃ Wd, wordN 5 = Wd := ⟨_, rfl⟩
      rw [hW] at hcj hsj hn HM
      clear hW
      have hb := HB8.out
      go_wp2_with (first | (go_at_call 36; refine (HM.out _ ?_).mono ?_; (focus ((repeat' (first | (with_reducible exact Below.refl _ _) | (with_reducible assumption) | (with_reducible refine Below.alloc ?_ ?_ _) | (with_reducible refine below_drewN ?_ _) | (with_reducible refine Below.drew ?_) | (with_reducible refine Below.setCell ?_ ?_ _) | (with_reducible refine below_via (by assumption) ?_ ?_) | (with_reducible refine below_via (later_below _) ?_ ?_) | (with_reducible exact Nat.le_refl _) | omega | (simp; omega) | (simp; done))))); rintro e w9 ⟨⟨g2, cp, rfl, hg2, hcl⟩, hb⟩; (refine mem hb ?_; intro N hN hz hc hf; (try simp at hN); subst hN)))
      ((try simp only [Exit.inBlock, Exit.then]); refine bodyPost_ret (by first | (simp [results, Tryz.results15, go_sem, *]; done) | (simp [results, Tryz.results15, go_sem, *]; rfl) | (simp [results, Tryz.results15, go_sem, ↓IntWalk.iteOmega, *]; try rfl)) rfl ?_)
      have hg3 : w.heap.size + 1 ≤ g2 := by
        have h8 : w.heap.size + 1 ≤ w8.heap.size := by assumption
        have h9 : w8.heap.size + 1 ≤ g2 := by simpa using hg2
        exact up_two h8 h9
      obtain ⟨g1, g3⟩ := up1 hg3
      have hbl := HB8.out
      refine ⟨?_, ?_⟩
      · refine act_set g3 g1 hcl
      · (repeat' (first | (with_reducible exact Below.refl _ _) | (with_reducible assumption) | (with_reducible refine Below.alloc ?_ ?_ _) | (with_reducible refine below_drewN ?_ _) | (with_reducible refine Below.drew ?_) | (with_reducible refine Below.setCell ?_ ?_ _) | (with_reducible refine below_via (by assumption) ?_ ?_) | (with_reducible refine below_via (later_below _) ?_ ?_) | (with_reducible exact Nat.le_refl _) | omega | (simp; omega) | (simp; done)))


set_option maxHeartbeats 1600000 in
set_option maxRecDepth 100000 in
theorem begin_6 (hp : Value) (name : ByteArray) (a : Option Addr) (n cap kind level : Nat) (k p q : Int) (s : ByteArray) (r : Int) (w : World)
    (hne : ∀ j, j < 6 → (name.toList == ((⟨#[110, 117, 109, 98, 101, 114, 46]⟩ : ByteArray) ++ wordN j).toList) = false) (heq : (name.toList == ((⟨#[110, 117, 109, 98, 101, 114, 46]⟩ : ByteArray) ++ wordN 6).toList) = true)
    (hm : ∀ w', Below w.heap.size w w' → Calls Tryz.prog 32 #[.agg #[.string (wordN 6), .slice a n cap], .int .i64 6] w' fun e w'' => ActIs w'.heap.size kind level k p q s r e w'' ∧ Below w'.heap.size w' w'') :
    Calls Tryz.prog 15 #[hp, .string name, .slice a n cap] w fun e w' => ActIs w.heap.size kind level k p q s r e w' ∧ Below w.heap.size w w' := by
  have HNE := Lib.hid hne
  have HEQ := Lib.hid heq
  have HM := Lib.hid hm
  clear hne heq hm
  have fr0 := fun i => frozen_out w (w.heap.size) i (by omega)
  go_enter Tryz.func15, Tryz.ntmps15
  go_wp2_with (first | (go_at_call 29; refine (words_any _).mono ?_; rintro e w8 ⟨⟨g, rfl, hg, hcl⟩, hb⟩; (refine mem hb ?_; intro N hN hz hc hf; (try simp at hN); subst hN)))
  have HCL := Lib.hid hcl
  have hres : ∀ i, w8.cell? ⟨w.heap.size, i, none⟩ = (#[Value.int .i64 0, .int .i64 0, .int .i64 0, .int .i64 0, .int .i64 0, .string ⟨#[]⟩, .int .i64 0, .slice none 0 0, .string ⟨#[]⟩, .int .i64 0, .int .i64 0, .slice none 0 0] : Array Value)[i]? := fun i => by rw [hc, if_pos (Nat.lt_succ_self _), cell_alloc_if, if_pos rfl]
  clear hc
  have HB8 := Lib.hid hb
  clear hcl hb
  go_loop [7, 8, 12] (fun _ _ u => ∃ j : Nat, j ≤ 6 ∧ u = .int .i64 j) (fun _ _ u => 6 - (intOf u).toNat)
  case atStart => exact ⟨0, Nat.zero_le _, rfl⟩
  case round =>
    obtain ⟨j, hj, rfl⟩ := hrel
    have hcj := HCL.out j (by omega)
    have hsj := wordN_size j (by omega)
    by_cases hlt : j < 6
    · have hn := HNE.out j hlt
      obtain ⟨Wd, hW⟩ : ∃ Wd, wordN j = Wd := ⟨_, rfl⟩
      rw [hW] at hcj hsj hn
      clear hW
      go_wp2
      refine ⟨⟨j + 1, by omega, by go_num⟩, by simp [intOf]; omega⟩
    · obtain rfl : j = 6 := by omega
      have hn := HEQ.out
      obtain ⟨Wd, hW⟩ : ∃ Wd, wordN 6 = Wd := ⟨_, rfl⟩
      rw [hW] at hcj hsj hn HM
      clear hW
      have hb := HB8.out
      go_wp2_with (first | (go_at_call 32; refine (HM.out _ ?_).mono ?_; (focus ((repeat' (first | (with_reducible exact Below.refl _ _) | (with_reducible assumption) | (with_reducible refine Below.alloc ?_ ?_ _) | (with_reducible refine below_drewN ?_ _) | (with_reducible refine Below.drew ?_) | (with_reducible refine Below.setCell ?_ ?_ _) | (with_reducible refine below_via (by assumption) ?_ ?_) | (with_reducible refine below_via (later_below _) ?_ ?_) | (with_reducible exact Nat.le_refl _) | omega | (simp; omega) | (simp; done))))); rintro e w9 ⟨⟨g2, cp, rfl, hg2, hcl⟩, hb⟩; (refine mem hb ?_; intro N hN hz hc hf; (try simp at hN); subst hN)))
      ((try simp only [Exit.inBlock, Exit.then]); refine bodyPost_ret (by first | (simp [results, Tryz.results15, go_sem, *]; done) | (simp [results, Tryz.results15, go_sem, *]; rfl) | (simp [results, Tryz.results15, go_sem, ↓IntWalk.iteOmega, *]; try rfl)) rfl ?_)
      have hg3 : w.heap.size + 1 ≤ g2 := by
        have h8 : w.heap.size + 1 ≤ w8.heap.size := by assumption
        have h9 : w8.heap.size + 1 ≤ g2 := by simpa using hg2
        exact up_two h8 h9
      obtain ⟨g1, g3⟩ := up1 hg3
      have hbl := HB8.out
      refine ⟨?_, ?_⟩
      · refine act_set g3 g1 hcl
      · (repeat' (first | (with_reducible exact Below.refl _ _) | (with_reducible assumption) | (with_reducible refine Below.alloc ?_ ?_ _) | (with_reducible refine below_drewN ?_ _) | (with_reducible refine Below.drew ?_) | (with_reducible refine Below.setCell ?_ ?_ _) | (with_reducible refine below_via (by assumption) ?_ ?_) | (with_reducible refine below_via (later_below _) ?_ ?_) | (with_reducible exact Nat.le_refl _) | omega | (simp; omega) | (simp; done)))


set_option maxHeartbeats 1600000 in
set_option maxRecDepth 100000 in
theorem begin_7 (hp : Value) (name : ByteArray) (a : Option Addr) (n cap kind level : Nat) (k p q : Int) (s : ByteArray) (r : Int) (w : World)
    (hne : ∀ j, j < 7 → (name.toList == ((⟨#[110, 117, 109, 98, 101, 114, 46]⟩ : ByteArray) ++ wordN j).toList) = false) (heq : (name.toList == ((⟨#[110, 117, 109, 98, 101, 114, 46]⟩ : ByteArray) ++ wordN 7).toList) = true)
    (hm : ∀ w', Below w.heap.size w w' → Calls Tryz.prog 32 #[.agg #[.string (wordN 7), .slice a n cap], .int .i64 7] w' fun e w'' => ActIs w'.heap.size kind level k p q s r e w'' ∧ Below w'.heap.size w' w'') :
    Calls Tryz.prog 15 #[hp, .string name, .slice a n cap] w fun e w' => ActIs w.heap.size kind level k p q s r e w' ∧ Below w.heap.size w w' := by
  have HNE := Lib.hid hne
  have HEQ := Lib.hid heq
  have HM := Lib.hid hm
  clear hne heq hm
  have fr0 := fun i => frozen_out w (w.heap.size) i (by omega)
  go_enter Tryz.func15, Tryz.ntmps15
  go_wp2_with (first | (go_at_call 29; refine (words_any _).mono ?_; rintro e w8 ⟨⟨g, rfl, hg, hcl⟩, hb⟩; (refine mem hb ?_; intro N hN hz hc hf; (try simp at hN); subst hN)))
  have HCL := Lib.hid hcl
  have hres : ∀ i, w8.cell? ⟨w.heap.size, i, none⟩ = (#[Value.int .i64 0, .int .i64 0, .int .i64 0, .int .i64 0, .int .i64 0, .string ⟨#[]⟩, .int .i64 0, .slice none 0 0, .string ⟨#[]⟩, .int .i64 0, .int .i64 0, .slice none 0 0] : Array Value)[i]? := fun i => by rw [hc, if_pos (Nat.lt_succ_self _), cell_alloc_if, if_pos rfl]
  clear hc
  have HB8 := Lib.hid hb
  clear hcl hb
  go_loop [7, 8, 12] (fun _ _ u => ∃ j : Nat, j ≤ 7 ∧ u = .int .i64 j) (fun _ _ u => 7 - (intOf u).toNat)
  case atStart => exact ⟨0, Nat.zero_le _, rfl⟩
  case round =>
    obtain ⟨j, hj, rfl⟩ := hrel
    have hcj := HCL.out j (by omega)
    have hsj := wordN_size j (by omega)
    by_cases hlt : j < 7
    · have hn := HNE.out j hlt
      obtain ⟨Wd, hW⟩ : ∃ Wd, wordN j = Wd := ⟨_, rfl⟩
      rw [hW] at hcj hsj hn
      clear hW
      go_wp2
      refine ⟨⟨j + 1, by omega, by go_num⟩, by simp [intOf]; omega⟩
    · obtain rfl : j = 7 := by omega
      have hn := HEQ.out
      obtain ⟨Wd, hW⟩ : ∃ Wd, wordN 7 = Wd := ⟨_, rfl⟩
      rw [hW] at hcj hsj hn HM
      clear hW
      have hb := HB8.out
      go_wp2_with (first | (go_at_call 32; refine (HM.out _ ?_).mono ?_; (focus ((repeat' (first | (with_reducible exact Below.refl _ _) | (with_reducible assumption) | (with_reducible refine Below.alloc ?_ ?_ _) | (with_reducible refine below_drewN ?_ _) | (with_reducible refine Below.drew ?_) | (with_reducible refine Below.setCell ?_ ?_ _) | (with_reducible refine below_via (by assumption) ?_ ?_) | (with_reducible refine below_via (later_below _) ?_ ?_) | (with_reducible exact Nat.le_refl _) | omega | (simp; omega) | (simp; done))))); rintro e w9 ⟨⟨g2, cp, rfl, hg2, hcl⟩, hb⟩; (refine mem hb ?_; intro N hN hz hc hf; (try simp at hN); subst hN)))
      ((try simp only [Exit.inBlock, Exit.then]); refine bodyPost_ret (by first | (simp [results, Tryz.results15, go_sem, *]; done) | (simp [results, Tryz.results15, go_sem, *]; rfl) | (simp [results, Tryz.results15, go_sem, ↓IntWalk.iteOmega, *]; try rfl)) rfl ?_)
      have hg3 : w.heap.size + 1 ≤ g2 := by
        have h8 : w.heap.size + 1 ≤ w8.heap.size := by assumption
        have h9 : w8.heap.size + 1 ≤ g2 := by simpa using hg2
        exact up_two h8 h9
      obtain ⟨g1, g3⟩ := up1 hg3
      have hbl := HB8.out
      refine ⟨?_, ?_⟩
      · refine act_set g3 g1 hcl
      · (repeat' (first | (with_reducible exact Below.refl _ _) | (with_reducible assumption) | (with_reducible refine Below.alloc ?_ ?_ _) | (with_reducible refine below_drewN ?_ _) | (with_reducible refine Below.drew ?_) | (with_reducible refine Below.setCell ?_ ?_ _) | (with_reducible refine below_via (by assumption) ?_ ?_) | (with_reducible refine below_via (later_below _) ?_ ?_) | (with_reducible exact Nat.le_refl _) | omega | (simp; omega) | (simp; done)))


set_option maxHeartbeats 1600000 in
set_option maxRecDepth 100000 in
theorem begin_8 (hp : Value) (name : ByteArray) (a : Option Addr) (n cap kind level : Nat) (k p q : Int) (s : ByteArray) (r : Int) (w : World)
    (hne : ∀ j, j < 8 → (name.toList == ((⟨#[110, 117, 109, 98, 101, 114, 46]⟩ : ByteArray) ++ wordN j).toList) = false) (heq : (name.toList == ((⟨#[110, 117, 109, 98, 101, 114, 46]⟩ : ByteArray) ++ wordN 8).toList) = true)
    (hm : ∀ w', Below w.heap.size w w' → Calls Tryz.prog 36 #[.agg #[.string (wordN 8), .slice a n cap], .int .i64 8] w' fun e w'' => ActIs w'.heap.size kind level k p q s r e w'' ∧ Below w'.heap.size w' w'') :
    Calls Tryz.prog 15 #[hp, .string name, .slice a n cap] w fun e w' => ActIs w.heap.size kind level k p q s r e w' ∧ Below w.heap.size w w' := by
  have HNE := Lib.hid hne
  have HEQ := Lib.hid heq
  have HM := Lib.hid hm
  clear hne heq hm
  have fr0 := fun i => frozen_out w (w.heap.size) i (by omega)
  go_enter Tryz.func15, Tryz.ntmps15
  go_wp2_with (first | (go_at_call 29; refine (words_any _).mono ?_; rintro e w8 ⟨⟨g, rfl, hg, hcl⟩, hb⟩; (refine mem hb ?_; intro N hN hz hc hf; (try simp at hN); subst hN)))
  have HCL := Lib.hid hcl
  have hres : ∀ i, w8.cell? ⟨w.heap.size, i, none⟩ = (#[Value.int .i64 0, .int .i64 0, .int .i64 0, .int .i64 0, .int .i64 0, .string ⟨#[]⟩, .int .i64 0, .slice none 0 0, .string ⟨#[]⟩, .int .i64 0, .int .i64 0, .slice none 0 0] : Array Value)[i]? := fun i => by rw [hc, if_pos (Nat.lt_succ_self _), cell_alloc_if, if_pos rfl]
  clear hc
  have HB8 := Lib.hid hb
  clear hcl hb
  go_loop [7, 8, 12] (fun _ _ u => ∃ j : Nat, j ≤ 8 ∧ u = .int .i64 j) (fun _ _ u => 8 - (intOf u).toNat)
  case atStart => exact ⟨0, Nat.zero_le _, rfl⟩
  case round =>
    obtain ⟨j, hj, rfl⟩ := hrel
    have hcj := HCL.out j (by omega)
    have hsj := wordN_size j (by omega)
    by_cases hlt : j < 8
    · have hn := HNE.out j hlt
      obtain ⟨Wd, hW⟩ : ∃ Wd, wordN j = Wd := ⟨_, rfl⟩
      rw [hW] at hcj hsj hn
      clear hW
      go_wp2
      refine ⟨⟨j + 1, by omega, by go_num⟩, by simp [intOf]; omega⟩
    · obtain rfl : j = 8 := by omega
      have hn := HEQ.out
      obtain ⟨Wd, hW⟩ : ∃ Wd, wordN 8 = Wd := ⟨_, rfl⟩
      rw [hW] at hcj hsj hn HM
      clear hW
      have hb := HB8.out
      go_wp2_with (first | (go_at_call 36; refine (HM.out _ ?_).mono ?_; (focus ((repeat' (first | (with_reducible exact Below.refl _ _) | (with_reducible assumption) | (with_reducible refine Below.alloc ?_ ?_ _) | (with_reducible refine below_drewN ?_ _) | (with_reducible refine Below.drew ?_) | (with_reducible refine Below.setCell ?_ ?_ _) | (with_reducible refine below_via (by assumption) ?_ ?_) | (with_reducible refine below_via (later_below _) ?_ ?_) | (with_reducible exact Nat.le_refl _) | omega | (simp; omega) | (simp; done))))); rintro e w9 ⟨⟨g2, cp, rfl, hg2, hcl⟩, hb⟩; (refine mem hb ?_; intro N hN hz hc hf; (try simp at hN); subst hN)))
      ((try simp only [Exit.inBlock, Exit.then]); refine bodyPost_ret (by first | (simp [results, Tryz.results15, go_sem, *]; done) | (simp [results, Tryz.results15, go_sem, *]; rfl) | (simp [results, Tryz.results15, go_sem, ↓IntWalk.iteOmega, *]; try rfl)) rfl ?_)
      have hg3 : w.heap.size + 1 ≤ g2 := by
        have h8 : w.heap.size + 1 ≤ w8.heap.size := by assumption
        have h9 : w8.heap.size + 1 ≤ g2 := by simpa using hg2
        exact up_two h8 h9
      obtain ⟨g1, g3⟩ := up1 hg3
      have hbl := HB8.out
      refine ⟨?_, ?_⟩
      · refine act_set g3 g1 hcl
      · (repeat' (first | (with_reducible exact Below.refl _ _) | (with_reducible assumption) | (with_reducible refine Below.alloc ?_ ?_ _) | (with_reducible refine below_drewN ?_ _) | (with_reducible refine Below.drew ?_) | (with_reducible refine Below.setCell ?_ ?_ _) | (with_reducible refine below_via (by assumption) ?_ ?_) | (with_reducible refine below_via (later_below _) ?_ ?_) | (with_reducible exact Nat.le_refl _) | omega | (simp; omega) | (simp; done)))


set_option maxHeartbeats 1600000 in
set_option maxRecDepth 100000 in
theorem begin_9 (hp : Value) (name : ByteArray) (a : Option Addr) (n cap kind level : Nat) (k p q : Int) (s : ByteArray) (r : Int) (w : World)
    (hne : ∀ j, j < 9 → (name.toList == ((⟨#[110, 117, 109, 98, 101, 114, 46]⟩ : ByteArray) ++ wordN j).toList) = false) (heq : (name.toList == ((⟨#[110, 117, 109, 98, 101, 114, 46]⟩ : ByteArray) ++ wordN 9).toList) = true)
    (hm : ∀ w', Below w.heap.size w w' → Calls Tryz.prog 36 #[.agg #[.string (wordN 9), .slice a n cap], .int .i64 9] w' fun e w'' => ActIs w'.heap.size kind level k p q s r e w'' ∧ Below w'.heap.size w' w'') :
    Calls Tryz.prog 15 #[hp, .string name, .slice a n cap] w fun e w' => ActIs w.heap.size kind level k p q s r e w' ∧ Below w.heap.size w w' := by
  have HNE := Lib.hid hne
  have HEQ := Lib.hid heq
  have HM := Lib.hid hm
  clear hne heq hm
  have fr0 := fun i => frozen_out w (w.heap.size) i (by omega)
  go_enter Tryz.func15, Tryz.ntmps15
  go_wp2_with (first | (go_at_call 29; refine (words_any _).mono ?_; rintro e w8 ⟨⟨g, rfl, hg, hcl⟩, hb⟩; (refine mem hb ?_; intro N hN hz hc hf; (try simp at hN); subst hN)))
  have HCL := Lib.hid hcl
  have hres : ∀ i, w8.cell? ⟨w.heap.size, i, none⟩ = (#[Value.int .i64 0, .int .i64 0, .int .i64 0, .int .i64 0, .int .i64 0, .string ⟨#[]⟩, .int .i64 0, .slice none 0 0, .string ⟨#[]⟩, .int .i64 0, .int .i64 0, .slice none 0 0] : Array Value)[i]? := fun i => by rw [hc, if_pos (Nat.lt_succ_self _), cell_alloc_if, if_pos rfl]
  clear hc
  have HB8 := Lib.hid hb
  clear hcl hb
  go_loop [7, 8, 12] (fun _ _ u => ∃ j : Nat, j ≤ 9 ∧ u = .int .i64 j) (fun _ _ u => 9 - (intOf u).toNat)
  case atStart => exact ⟨0, Nat.zero_le _, rfl⟩
  case round =>
    obtain ⟨j, hj, rfl⟩ := hrel
    have hcj := HCL.out j (by omega)
    have hsj := wordN_size j (by omega)
    by_cases hlt : j < 9
    · have hn := HNE.out j hlt
      obtain ⟨Wd, hW⟩ : ∃ Wd, wordN j = Wd := ⟨_, rfl⟩
      rw [hW] at hcj hsj hn
      clear hW
      go_wp2
      refine ⟨⟨j + 1, by omega, by go_num⟩, by simp [intOf]; omega⟩
    · obtain rfl : j = 9 := by omega
      have hn := HEQ.out
      obtain ⟨Wd, hW⟩ : ∃ Wd, wordN 9 = Wd := ⟨_, rfl⟩
      rw [hW] at hcj hsj hn HM
      clear hW
      have hb := HB8.out
      go_wp2_with (first | (go_at_call 36; refine (HM.out _ ?_).mono ?_; (focus ((repeat' (first | (with_reducible exact Below.refl _ _) | (with_reducible assumption) | (with_reducible refine Below.alloc ?_ ?_ _) | (with_reducible refine below_drewN ?_ _) | (with_reducible refine Below.drew ?_) | (with_reducible refine Below.setCell ?_ ?_ _) | (with_reducible refine below_via (by assumption) ?_ ?_) | (with_reducible refine below_via (later_below _) ?_ ?_) | (with_reducible exact Nat.le_refl _) | omega | (simp; omega) | (simp; done))))); rintro e w9 ⟨⟨g2, cp, rfl, hg2, hcl⟩, hb⟩; (refine mem hb ?_; intro N hN hz hc hf; (try simp at hN); subst hN)))
      ((try simp only [Exit.inBlock, Exit.then]); refine bodyPost_ret (by first | (simp [results, Tryz.results15, go_sem, *]; done) | (simp [results, Tryz.results15, go_sem, *]; rfl) | (simp [results, Tryz.results15, go_sem, ↓IntWalk.iteOmega, *]; try rfl)) rfl ?_)
      have hg3 : w.heap.size + 1 ≤ g2 := by
        have h8 : w.heap.size + 1 ≤ w8.heap.size := by assumption
        have h9 : w8.heap.size + 1 ≤ g2 := by simpa using hg2
        exact up_two h8 h9
      obtain ⟨g1, g3⟩ := up1 hg3
      have hbl := HB8.out
      refine ⟨?_, ?_⟩
      · refine act_set g3 g1 hcl
      · (repeat' (first | (with_reducible exact Below.refl _ _) | (with_reducible assumption) | (with_reducible refine Below.alloc ?_ ?_ _) | (with_reducible refine below_drewN ?_ _) | (with_reducible refine Below.drew ?_) | (with_reducible refine Below.setCell ?_ ?_ _) | (with_reducible refine below_via (by assumption) ?_ ?_) | (with_reducible refine below_via (later_below _) ?_ ?_) | (with_reducible exact Nat.le_refl _) | omega | (simp; omega) | (simp; done)))


set_option maxHeartbeats 1600000 in
set_option maxRecDepth 100000 in
theorem begin_10 (hp : Value) (name : ByteArray) (a : Option Addr) (n cap kind level : Nat) (k p q : Int) (s : ByteArray) (r : Int) (w : World)
    (hne : ∀ j, j < 10 → (name.toList == ((⟨#[110, 117, 109, 98, 101, 114, 46]⟩ : ByteArray) ++ wordN j).toList) = false) (heq : (name.toList == ((⟨#[110, 117, 109, 98, 101, 114, 46]⟩ : ByteArray) ++ wordN 10).toList) = true)
    (hm : ∀ w', Below w.heap.size w w' → Calls Tryz.prog 35 #[.agg #[.string (wordN 10), .slice a n cap]] w' fun e w'' => ActIs w'.heap.size kind level k p q s r e w'' ∧ Below w'.heap.size w' w'') :
    Calls Tryz.prog 15 #[hp, .string name, .slice a n cap] w fun e w' => ActIs w.heap.size kind level k p q s r e w' ∧ Below w.heap.size w w' := by
  have HNE := Lib.hid hne
  have HEQ := Lib.hid heq
  have HM := Lib.hid hm
  clear hne heq hm
  have fr0 := fun i => frozen_out w (w.heap.size) i (by omega)
  go_enter Tryz.func15, Tryz.ntmps15
  go_wp2_with (first | (go_at_call 29; refine (words_any _).mono ?_; rintro e w8 ⟨⟨g, rfl, hg, hcl⟩, hb⟩; (refine mem hb ?_; intro N hN hz hc hf; (try simp at hN); subst hN)))
  have HCL := Lib.hid hcl
  have hres : ∀ i, w8.cell? ⟨w.heap.size, i, none⟩ = (#[Value.int .i64 0, .int .i64 0, .int .i64 0, .int .i64 0, .int .i64 0, .string ⟨#[]⟩, .int .i64 0, .slice none 0 0, .string ⟨#[]⟩, .int .i64 0, .int .i64 0, .slice none 0 0] : Array Value)[i]? := fun i => by rw [hc, if_pos (Nat.lt_succ_self _), cell_alloc_if, if_pos rfl]
  clear hc
  have HB8 := Lib.hid hb
  clear hcl hb
  go_loop [7, 8, 12] (fun _ _ u => ∃ j : Nat, j ≤ 10 ∧ u = .int .i64 j) (fun _ _ u => 10 - (intOf u).toNat)
  case atStart => exact ⟨0, Nat.zero_le _, rfl⟩
  case round =>
    obtain ⟨j, hj, rfl⟩ := hrel
    have hcj := HCL.out j (by omega)
    have hsj := wordN_size j (by omega)
    by_cases hlt : j < 10
    · have hn := HNE.out j hlt
      obtain ⟨Wd, hW⟩ : ∃ Wd, wordN j = Wd := ⟨_, rfl⟩
      rw [hW] at hcj hsj hn
      clear hW
      go_wp2
      refine ⟨⟨j + 1, by omega, by go_num⟩, by simp [intOf]; omega⟩
    · obtain rfl : j = 10 := by omega
      have hn := HEQ.out
      obtain ⟨Wd, hW⟩ : ∃ Wd, wordN 10 = Wd := ⟨_, rfl⟩
      rw [hW] at hcj hsj hn HM
      clear hW
      have hb := HB8.out
      go_wp2_with (first | (go_at_call 35; refine (HM.out _ ?_).mono ?_; (focus ((repeat' (first | (with_reducible exact Below.refl _ _) | (with_reducible assumption) | (with_reducible refine Below.alloc ?_ ?_ _) | (with_reducible refine below_drewN ?_ _) | (with_reducible refine Below.drew ?_) | (with_reducible refine Below.setCell ?_ ?_ _) | (with_reducible refine below_via (by assumption) ?_ ?_) | (with_reducible refine below_via (later_below _) ?_ ?_) | (with_reducible exact Nat.le_refl _) | omega | (simp; omega) | (simp; done))))); rintro e w9 ⟨⟨g2, cp, rfl, hg2, hcl⟩, hb⟩; (refine mem hb ?_; intro N hN hz hc hf; (try simp at hN); subst hN)))
      ((try simp only [Exit.inBlock, Exit.then]); refine bodyPost_ret (by first | (simp [results, Tryz.results15, go_sem, *]; done) | (simp [results, Tryz.results15, go_sem, *]; rfl) | (simp [results, Tryz.results15, go_sem, ↓IntWalk.iteOmega, *]; try rfl)) rfl ?_)
      have hg3 : w.heap.size + 1 ≤ g2 := by
        have h8 : w.heap.size + 1 ≤ w8.heap.size := by assumption
        have h9 : w8.heap.size + 1 ≤ g2 := by simpa using hg2
        exact up_two h8 h9
      obtain ⟨g1, g3⟩ := up1 hg3
      have hbl := HB8.out
      refine ⟨?_, ?_⟩
      · refine act_set g3 g1 hcl
      · (repeat' (first | (with_reducible exact Below.refl _ _) | (with_reducible assumption) | (with_reducible refine Below.alloc ?_ ?_ _) | (with_reducible refine below_drewN ?_ _) | (with_reducible refine Below.drew ?_) | (with_reducible refine Below.setCell ?_ ?_ _) | (with_reducible refine below_via (by assumption) ?_ ?_) | (with_reducible refine below_via (later_below _) ?_ ?_) | (with_reducible exact Nat.le_refl _) | omega | (simp; omega) | (simp; done)))

end Go.Proofs.YtfclmnglckikbaaGreatDoor

/- heap.New, and Begin where no name fits: what each call returns. -/
namespace Go.Proofs.YtfclmnglckikbaaGreatDoor
open Go.RowKit Go.Instr
set_option linter.unusedVariables false

set_option maxHeartbeats 1600000 in
set_option maxRecDepth 100000 in
theorem heap_new (w : World) : Calls Tryz.prog 16 #[] w fun e w' => (∃ g : Nat, e = .returned (.pointer (some ⟨g, 0, none⟩))) ∧ Below w.heap.size w w' := by
  have hmm := @run_makeMap Tryz.prog
  go_enter Tryz.func16, Tryz.ntmps16
  go_wp2_with fail
  go_returns
  refine ⟨⟨_, rfl⟩, ?_⟩
  (repeat' (first | (with_reducible exact Below.refl _ _) | (with_reducible assumption) | (with_reducible refine Below.alloc ?_ ?_ _) | (with_reducible refine below_drewN ?_ _) | (with_reducible refine Below.drew ?_) | (with_reducible refine Below.setCell ?_ ?_ _) | (with_reducible refine below_via (by assumption) ?_ ?_) | (with_reducible refine below_via (later_below _) ?_ ?_) | (with_reducible exact Nat.le_refl _) | omega | (simp; omega) | (simp; done)))

def noneS : ByteArray := ⟨#[110, 111, 32, 115, 117, 99, 104, 32, 102, 117, 110, 99, 116, 105, 111, 110]⟩
set_option maxHeartbeats 1600000 in
set_option maxRecDepth 100000 in
theorem begin_none (hp : Value) (name : ByteArray) (a : Option Addr) (n cap : Nat) (w : World)
    (hne : ∀ j, j < 11 → (name.toList == ((⟨#[110, 117, 109, 98, 101, 114, 46]⟩ : ByteArray) ++ wordN j).toList) = false) :
    Calls Tryz.prog 15 #[hp, .string name, .slice a n cap] w fun e w' => ActIs w.heap.size 2 1 3 0 0 noneS 0 e w' ∧ Below w.heap.size w w' := by
  have HNE := Lib.hid hne
  have HM : Hid (∀ w', Calls Tryz.prog 37 #[.string ⟨#[110, 111, 32, 115, 117, 99, 104, 32, 102, 117, 110, 99, 116, 105, 111, 110]⟩] w' fun e w'' => ActIs w'.heap.size 2 1 3 0 0 noneS 0 e w'' ∧ Below w'.heap.size w' w'') := fun w' => error_one noneS w' (by decide)
  clear hne
  have fr0 := fun i => frozen_out w (w.heap.size) i (by omega)
  go_enter Tryz.func15, Tryz.ntmps15
  go_wp2_with (first | (go_at_call 29; refine (words_any _).mono ?_; rintro e w8 ⟨⟨g, rfl, hg, hcl⟩, hb⟩; (refine mem hb ?_; intro N hN hz hc hf; (try simp at hN); subst hN)))
  have HCL := Lib.hid hcl
  have hres : ∀ i, w8.cell? ⟨w.heap.size, i, none⟩ = (#[Value.int .i64 0, .int .i64 0, .int .i64 0, .int .i64 0, .int .i64 0, .string ⟨#[]⟩, .int .i64 0, .slice none 0 0, .string ⟨#[]⟩, .int .i64 0, .int .i64 0, .slice none 0 0] : Array Value)[i]? := fun i => by rw [hc, if_pos (Nat.lt_succ_self _), cell_alloc_if, if_pos rfl]
  clear hc
  have HB8 := Lib.hid hb
  clear hcl hb
  go_loop [7, 8, 12] (fun _ _ u => ∃ j : Nat, j ≤ 11 ∧ u = .int .i64 j) (fun _ _ u => 11 - (intOf u).toNat)
  case atStart => exact ⟨0, Nat.zero_le _, rfl⟩
  case round =>
    obtain ⟨j, hj, rfl⟩ := hrel
    by_cases hlt : j < 11
    · have hcj := HCL.out j hlt
      have hsj := wordN_size j hlt
      have hn := HNE.out j hlt
      obtain ⟨Wd, hW⟩ : ∃ Wd, wordN j = Wd := ⟨_, rfl⟩
      rw [hW] at hcj hsj hn
      clear hW
      go_wp2
      refine ⟨⟨j + 1, by omega, by go_num⟩, by simp [intOf]; omega⟩
    · obtain rfl : j = 11 := by omega
      have hb := HB8.out
      go_wp2_with (first | (go_at_call 37; refine (HM.out _).mono ?_; rintro e w9 ⟨⟨g2, cp, rfl, hg2, hcl⟩, hb⟩; (refine mem hb ?_; intro N hN hz hc hf; (try simp at hN); subst hN)))
      ((try simp only [Exit.inBlock, Exit.then]); refine bodyPost_ret (by first | (simp [results, Tryz.results15, go_sem, *]; done) | (simp [results, Tryz.results15, go_sem, *]; rfl) | (simp [results, Tryz.results15, go_sem, ↓IntWalk.iteOmega, *]; try rfl)) rfl ?_)
      have hg3 : w.heap.size + 1 ≤ g2 := by
        have h8 : w.heap.size + 1 ≤ w8.heap.size := by assumption
        have h9 : w8.heap.size ≤ g2 := by simpa using hg2
        exact Nat.le_trans h8 h9
      obtain ⟨g1, g3⟩ := up1 hg3
      have hbl := HB8.out
      refine ⟨?_, ?_⟩
      · refine act_set g3 g1 hcl
      · (repeat' (first | (with_reducible exact Below.refl _ _) | (with_reducible assumption) | (with_reducible refine Below.alloc ?_ ?_ _) | (with_reducible refine below_drewN ?_ _) | (with_reducible refine Below.drew ?_) | (with_reducible refine Below.setCell ?_ ?_ _) | (with_reducible refine below_via (by assumption) ?_ ?_) | (with_reducible refine below_via (later_below _) ?_ ?_) | (with_reducible exact Nat.le_refl _) | omega | (simp; omega) | (simp; done)))
end Go.Proofs.YtfclmnglckikbaaGreatDoor

/- Numlib's Names: what it returns. -/
namespace Go.Proofs.YtfclmnglckikbaaGreatDoor
open Go.RowKit Go.Instr
set_option linter.unusedVariables false

/-- The name of function j with the library's name. -/
def nmN (j : Nat) : ByteArray := (⟨#[110, 117, 109, 98, 101, 114, 46]⟩ : ByteArray) ++ wordN j
/-- The names after k rounds. -/
def NamesAt (w : World) (g k : Nat) : Prop := g < w.heap.size ∧ (∀ j, j < 11 → w.cell? ⟨g, j, none⟩ = some (.string (if j < k then nmN j else wordN j))) ∧ ∀ j, w.frozen? ⟨g, j, none⟩ = false
theorem NamesAt.set {w : World} {g k : Nat} (hk : k < 11) (h : NamesAt w g k) : NamesAt (w.setCell ⟨g, k, none⟩ (.string (nmN k))) g (k + 1) := by
  refine ⟨by simpa using h.1, fun j hj => ?_, fun j => ?_⟩
  · rw [cell_set_if]
    by_cases e : k = j
    · subst e; rw [if_pos ⟨rfl, rfl⟩, h.2.1 k hk, if_pos (Nat.lt_succ_self _)]; rfl
    · rw [if_neg (fun x => e x.2), h.2.1 j hj]
      by_cases e2 : j < k
      · rw [if_pos e2, if_pos (by omega)]
      · rw [if_neg e2, if_neg (by omega)]
  · have := h.2.2 j
    simpa using this
set_option maxHeartbeats 1600000 in
set_option maxRecDepth 100000 in
theorem words_own (w : World) : Calls Tryz.prog 29 #[] w fun e w' => (∃ g : Nat, e = .returned (.slice (some ⟨g, 0, none⟩) 11 11) ∧ w.heap.size ≤ g ∧ NamesAt w' g 0) ∧ Below w.heap.size w w' := by
  go_enter Tryz.func29, Tryz.ntmps29
  go_wp2_with fail
  go_returns
  refine ⟨⟨w.heap.size, rfl, Nat.le_refl _, ⟨by simp, fun j hj => words_cell w _ j hj, fun j => ?_⟩⟩, ?_⟩
  · rw [frozen_alloc]; exact frozen_out w _ j (Nat.le_refl _)
  · (repeat' (first | (with_reducible exact Below.refl _ _) | (with_reducible assumption) | (with_reducible refine Below.alloc ?_ ?_ _) | (with_reducible refine below_drewN ?_ _) | (with_reducible refine Below.drew ?_) | (with_reducible refine Below.setCell ?_ ?_ _) | (with_reducible refine below_via (by assumption) ?_ ?_) | (with_reducible refine below_via (later_below _) ?_ ?_) | (with_reducible exact Nat.le_refl _) | omega | (simp; omega) | (simp; done)))

set_option maxHeartbeats 1600000 in
set_option maxRecDepth 100000 in
theorem names_all (w : World) : Calls Tryz.prog 10 #[] w fun e w' => (∃ g : Nat, e = .returned (.slice (some ⟨g, 0, none⟩) 11 11) ∧ w.heap.size ≤ g ∧ ∀ j, j < 11 → w'.cell? ⟨g, j, none⟩ = some (.string (nmN j))) ∧ Below w.heap.size w w' := by
  go_enter Tryz.func10, Tryz.ntmps10
  go_wp2_with (first | (go_at_call 29; refine (words_own _).mono ?_; rintro e w8 ⟨⟨g, rfl, hg, hcl⟩, hb⟩))
  have HB8 := Lib.hid hb
  have HC := Lib.hid hcl
  clear hb hcl
  go_loopw [2, 6] (fun _ i wr => ∃ k : Nat, k ≤ 11 ∧ i = .int .i64 k ∧ NamesAt wr g k ∧ Below w.heap.size w wr) (fun _ i _ => 11 - (intOf i).toNat)
  case atStart => exact ⟨0, Nat.zero_le _, rfl, HC.out, HB8.out⟩
  case round =>
    obtain ⟨k, hk, rfl, hna, hbel⟩ := hrel
    by_cases hlt : k < 11
    · have hcj := hna.2.1 k hlt
      rw [if_neg (Nat.lt_irrefl _)] at hcj
      have hfz := hna.2.2 k
      have hsj := wordN_size k hlt
      have HNA := Lib.hid hna
      have HB := Lib.hid hbel
      clear hna hbel
      have hset := HNA.out.set hlt
      unfold nmN at hset
      obtain ⟨Wd, hW⟩ : ∃ Wd, wordN k = Wd := ⟨_, rfl⟩
      rw [hW] at hcj hsj hset
      clear hW
      have HSET := Lib.hid hset
      clear hset
      go_wp2
      refine ⟨⟨k + 1, by omega, by go_num, HSET.out, ?_⟩, by simp [intOf]; omega⟩
      have hbel := HB.out
      (repeat' (first | (with_reducible exact Below.refl _ _) | (with_reducible assumption) | (with_reducible refine Below.alloc ?_ ?_ _) | (with_reducible refine below_drewN ?_ _) | (with_reducible refine Below.drew ?_) | (with_reducible refine Below.setCell ?_ ?_ _) | (with_reducible refine below_via (by assumption) ?_ ?_) | (with_reducible refine below_via (later_below _) ?_ ?_) | (with_reducible exact Nat.le_refl _) | omega | (simp; omega) | (simp; done)))
    · obtain rfl : k = 11 := by omega
      have HNA := Lib.hid hna
      have HB := Lib.hid hbel
      clear hna hbel
      go_wp2
      go_returns
      refine ⟨⟨g, rfl, hg, fun j hj => ?_⟩, HB.out⟩
      have := HNA.out.2.1 j hj
      rwa [if_pos hj] at this
end Go.Proofs.YtfclmnglckikbaaGreatDoor

/- The small functions of scriptinglaw23: what each call returns, where Begin's contract is given. -/
namespace Go.Proofs.YtfclmnglckikbaaGreatDoor
open Go.RowKit Go.Instr
set_option linter.unusedVariables false

set_option maxHeartbeats 1600000 in
set_option maxRecDepth 100000 in
theorem frac_law (p q : Int) (w : World) : Calls Tryz.prog 28 #[.int .i64 p, .int .i64 q] w fun e w' => e = .returned (vV 2 p q ⟨#[]⟩ 0) ∧ Below w.heap.size w w' := by
  go_enter Tryz.func28, Tryz.ntmps28
  go_wp2_with fail
  ((try simp only [Exit.inBlock, Exit.then]); refine bodyPost_ret (by first | (simp [results, Tryz.results28, go_sem, *]; done) | (simp [results, Tryz.results28, go_sem, *]; rfl) | (simp [results, Tryz.results28, go_sem, ↓IntWalk.iteOmega, *]; try rfl)) rfl ?_)
  refine ⟨rfl, ?_⟩
  (repeat' (first | (with_reducible exact Below.refl _ _) | (with_reducible assumption) | (with_reducible refine Below.alloc ?_ ?_ _) | (with_reducible refine below_drewN ?_ _) | (with_reducible refine Below.drew ?_) | (with_reducible refine Below.setCell ?_ ?_ _) | (with_reducible refine below_via (by assumption) ?_ ?_) | (with_reducible refine below_via (later_below _) ?_ ?_) | (with_reducible exact Nat.le_refl _) | omega | (simp; omega) | (simp; done)))
set_option maxHeartbeats 1600000 in
set_option maxRecDepth 100000 in
theorem num_law (p : Int) (w : World) : Calls Tryz.prog 23 #[.int .i64 p] w fun e w' => e = .returned (vV 2 p 1 ⟨#[]⟩ 0) ∧ Below w.heap.size w w' := by
  have HF : Hid (∀ w', Calls Tryz.prog 28 #[.int .i64 p, .int .i64 1] w' fun e w'' => e = .returned (vV 2 p 1 ⟨#[]⟩ 0) ∧ Below w'.heap.size w' w'') := fun w' => frac_law p 1 w'
  go_enter Tryz.func23, Tryz.ntmps23
  go_wp2_with (first | (go_at_call 28; refine (HF.out _).mono ?_; rintro e w8 ⟨rfl, hb⟩; (refine mem hb ?_; intro N hN hz hc hf; (try simp at hN); subst hN)))
  ((try simp only [Exit.inBlock, Exit.then]); refine bodyPost_ret (by first | (simp [results, Tryz.results23, go_sem, *]; done) | (simp [results, Tryz.results23, go_sem, *]; rfl) | (simp [results, Tryz.results23, go_sem, ↓IntWalk.iteOmega, *]; try rfl)) rfl ?_)
  refine ⟨rfl, ?_⟩
  (repeat' (first | (with_reducible exact Below.refl _ _) | (with_reducible assumption) | (with_reducible refine Below.alloc ?_ ?_ _) | (with_reducible refine below_drewN ?_ _) | (with_reducible refine Below.drew ?_) | (with_reducible refine Below.setCell ?_ ?_ _) | (with_reducible refine below_via (by assumption) ?_ ?_) | (with_reducible refine below_via (later_below _) ?_ ?_) | (with_reducible exact Nat.le_refl _) | omega | (simp; omega) | (simp; done)))
set_option maxHeartbeats 1600000 in
set_option maxRecDepth 100000 in
theorem str_law (s : ByteArray) (w : World) : Calls Tryz.prog 19 #[.string s] w fun e w' => e = .returned (vV 3 0 0 s 0) ∧ Below w.heap.size w w' := by
  go_enter Tryz.func19, Tryz.ntmps19
  go_wp2_with fail
  ((try simp only [Exit.inBlock, Exit.then]); refine bodyPost_ret (by first | (simp [results, Tryz.results19, go_sem, *]; done) | (simp [results, Tryz.results19, go_sem, *]; rfl) | (simp [results, Tryz.results19, go_sem, ↓IntWalk.iteOmega, *]; try rfl)) rfl ?_)
  refine ⟨rfl, ?_⟩
  (repeat' (first | (with_reducible exact Below.refl _ _) | (with_reducible assumption) | (with_reducible refine Below.alloc ?_ ?_ _) | (with_reducible refine below_drewN ?_ _) | (with_reducible refine Below.drew ?_) | (with_reducible refine Below.setCell ?_ ?_ _) | (with_reducible refine below_via (by assumption) ?_ ?_) | (with_reducible refine below_via (later_below _) ?_ ?_) | (with_reducible exact Nat.le_refl _) | omega | (simp; omega) | (simp; done)))

theorem opq5 {w : World} {g : Nat} {k p q : Int} {s : ByteArray} {r : Int} (h : Cells5 w g k p q s r) : opqC w g 0 = some (.int .i64 k) ∧ opqC w g 1 = some (.int .i64 p) ∧ opqC w g 2 = some (.int .i64 q) ∧ opqC w g 3 = some (.string s) ∧ opqC w g 4 = some (.int .i64 r) := h
/-- What Begin answers: an action of one value. -/
abbrev BeginSays (W : World) (hp : Value) (name : ByteArray) (a : Option Addr) (n cap kind level : Nat) (k p q : Int) (s : ByteArray) (r : Int) : Prop := ∀ w, Below W.heap.size W w → Calls Tryz.prog 15 #[hp, .string name, .slice a n cap] w fun e w' => ActIs w.heap.size kind level k p q s r e w' ∧ Below w.heap.size w w'

set_option maxHeartbeats 3200000 in
set_option maxRecDepth 100000 in
theorem result_ret (name : ByteArray) (a : Option Addr) (n cap : Nat) (k p q : Int) (s : ByteArray) (r : Int) (w : World) (hB : BeginSays w (.pointer none) name a n cap 1 0 k p q s r) :
    Calls Tryz.prog 18 #[.string name, .slice a n cap] w fun e w' => e = .returned (.tuple #[vV k p q s r, .bool true]) ∧ Below w.heap.size w w' := by
  have HB := Lib.hid hB
  clear hB
  have fr0 := fun i => frozen_out w (w.heap.size) i (by omega)
  go_enter Tryz.func18, Tryz.ntmps18
  go_wp2_with (first | (go_at_call 15; refine (HB.out _ ?_).mono ?_; (focus ((repeat' (first | (with_reducible exact Below.refl _ _) | (with_reducible assumption) | (with_reducible refine Below.alloc ?_ ?_ _) | (with_reducible refine below_drewN ?_ _) | (with_reducible refine Below.drew ?_) | (with_reducible refine Below.setCell ?_ ?_ _) | (with_reducible refine below_via (by assumption) ?_ ?_) | (with_reducible refine below_via (later_below _) ?_ ?_) | (with_reducible exact Nat.le_refl _) | omega | (simp; omega) | (simp; done))))); rintro e w8 ⟨⟨g, cp, rfl, hg, hcl⟩, hb⟩; (refine mem hb ?_; intro N hN hz hc hf; (try simp at hN); subst hN); (have hg2 := hg); (try simp at hg2); (have hgl := hcl.lt); (obtain ⟨hc0, hc1, hc2, hc3, hc4⟩ := opq5 hcl)))
  ((try simp only [Exit.inBlock, Exit.then]); refine bodyPost_ret (by first | (simp [results, Tryz.results18, go_sem, *]; done) | (simp [results, Tryz.results18, go_sem, *]; rfl) | (simp [results, Tryz.results18, go_sem, ↓IntWalk.iteOmega, *]; try rfl)) rfl ?_)
  refine ⟨rfl, ?_⟩
  (repeat' (first | (with_reducible exact Below.refl _ _) | (with_reducible assumption) | (with_reducible refine Below.alloc ?_ ?_ _) | (with_reducible refine below_drewN ?_ _) | (with_reducible refine Below.drew ?_) | (with_reducible refine Below.setCell ?_ ?_ _) | (with_reducible refine below_via (by assumption) ?_ ?_) | (with_reducible refine below_via (later_below _) ?_ ?_) | (with_reducible exact Nat.le_refl _) | omega | (simp; omega) | (simp; done)))
set_option maxHeartbeats 3200000 in
set_option maxRecDepth 100000 in
theorem result_no (name : ByteArray) (a : Option Addr) (n cap level : Nat) (k p q : Int) (s : ByteArray) (r : Int) (w : World) (hB : BeginSays w (.pointer none) name a n cap 2 level k p q s r) :
    Calls Tryz.prog 18 #[.string name, .slice a n cap] w fun e w' => e = .returned (.tuple #[vV 0 0 0 ⟨#[]⟩ 0, .bool false]) ∧ Below w.heap.size w w' := by
  have HB := Lib.hid hB
  clear hB
  have fr0 := fun i => frozen_out w (w.heap.size) i (by omega)
  go_enter Tryz.func18, Tryz.ntmps18
  go_wp2_with (first | (go_at_call 15; refine (HB.out _ ?_).mono ?_; (focus ((repeat' (first | (with_reducible exact Below.refl _ _) | (with_reducible assumption) | (with_reducible refine Below.alloc ?_ ?_ _) | (with_reducible refine below_drewN ?_ _) | (with_reducible refine Below.drew ?_) | (with_reducible refine Below.setCell ?_ ?_ _) | (with_reducible refine below_via (by assumption) ?_ ?_) | (with_reducible refine below_via (later_below _) ?_ ?_) | (with_reducible exact Nat.le_refl _) | omega | (simp; omega) | (simp; done))))); rintro e w8 ⟨⟨g, cp, rfl, hg, hcl⟩, hb⟩; (refine mem hb ?_; intro N hN hz hc hf; (try simp at hN); subst hN); (have hg2 := hg); (try simp at hg2); (have hgl := hcl.lt); (obtain ⟨hc0, hc1, hc2, hc3, hc4⟩ := opq5 hcl)))
  ((try simp only [Exit.inBlock, Exit.then]); refine bodyPost_ret (by first | (simp [results, Tryz.results18, go_sem, *]; done) | (simp [results, Tryz.results18, go_sem, *]; rfl) | (simp [results, Tryz.results18, go_sem, ↓IntWalk.iteOmega, *]; try rfl)) rfl ?_)
  refine ⟨rfl, ?_⟩
  (repeat' (first | (with_reducible exact Below.refl _ _) | (with_reducible assumption) | (with_reducible refine Below.alloc ?_ ?_ _) | (with_reducible refine below_drewN ?_ _) | (with_reducible refine Below.drew ?_) | (with_reducible refine Below.setCell ?_ ?_ _) | (with_reducible refine below_via (by assumption) ?_ ?_) | (with_reducible refine below_via (later_below _) ?_ ?_) | (with_reducible exact Nat.le_refl _) | omega | (simp; omega) | (simp; done)))
set_option maxHeartbeats 3200000 in
set_option maxRecDepth 100000 in
theorem message_fail (name : ByteArray) (a : Option Addr) (n cap : Nat) (k p q : Int) (s : ByteArray) (r : Int) (w : World) (hB : ∀ hp, BeginSays w hp name a n cap 2 1 k p q s r) :
    Calls Tryz.prog 12 #[.string name, .slice a n cap] w fun e w' => e = .returned (.string s) ∧ Below w.heap.size w w' := by
  have HB := Lib.hid hB
  have HH : Hid (∀ w', Calls Tryz.prog 16 #[] w' fun e w'' => (∃ g : Nat, e = .returned (.pointer (some ⟨g, 0, none⟩))) ∧ Below w'.heap.size w' w'') := fun w' => heap_new w'
  clear hB
  go_enter Tryz.func12, Tryz.ntmps12
  go_wp2_with (first | (go_at_call 16; refine (HH.out _).mono ?_; rintro e w7 ⟨⟨gh, rfl⟩, hb⟩; (refine mem hb ?_; intro N hN hz hc hf; (try simp at hN); subst hN)) | (go_at_call 15; refine (HB.out _ _ ?_).mono ?_; (focus ((repeat' (first | (with_reducible exact Below.refl _ _) | (with_reducible assumption) | (with_reducible refine Below.alloc ?_ ?_ _) | (with_reducible refine below_drewN ?_ _) | (with_reducible refine Below.drew ?_) | (with_reducible refine Below.setCell ?_ ?_ _) | (with_reducible refine below_via (by assumption) ?_ ?_) | (with_reducible refine below_via (later_below _) ?_ ?_) | (with_reducible exact Nat.le_refl _) | omega | (simp; omega) | (simp; done))))); rintro e w8 ⟨⟨g, cp, rfl, hg, hcl⟩, hb⟩; (refine mem hb ?_; intro N hN hz hc hf; (try simp at hN); subst hN); (have hg2 := hg); (try simp at hg2); (have hgl := hcl.lt); (obtain ⟨hc0, hc1, hc2, hc3, hc4⟩ := opq5 hcl)))
  go_returns
  refine ⟨rfl, ?_⟩
  (repeat' (first | (with_reducible exact Below.refl _ _) | (with_reducible assumption) | (with_reducible refine Below.alloc ?_ ?_ _) | (with_reducible refine below_drewN ?_ _) | (with_reducible refine Below.drew ?_) | (with_reducible refine Below.setCell ?_ ?_ _) | (with_reducible refine below_via (by assumption) ?_ ?_) | (with_reducible refine below_via (later_below _) ?_ ?_) | (with_reducible exact Nat.le_refl _) | omega | (simp; omega) | (simp; done)))
end Go.Proofs.YtfclmnglckikbaaGreatDoor
