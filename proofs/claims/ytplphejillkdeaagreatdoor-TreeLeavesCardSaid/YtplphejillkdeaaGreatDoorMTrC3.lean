/- The program's formStat: whether a statement is well-formed apart from its parts and names. -/
import Derived.Test.YtplphejillkdeaaGreatDoorMTrC1
namespace Go.Proofs.YtplphejillkdeaaGreatDoor
open Go.RowKit Go.Instr
set_option linter.unusedVariables false

def attrB (x : ByteArray × Int) : Bool := decide (x.2 < 0) || decide (2 < x.2)
def plainB (s : TS) : Bool := !s.names.any fun x => x.2 != 0
def firstK (l : List TX) : Int := (l.head?.map TX.k).getD 0
def fsB (s : TS) (last : Bool) : Bool :=
  if s.k = 1 then cntB s (-2) 0 (-1) 0 false && !(s.names.any attrB)
  else if s.k = 2 then cntB s 1 0 1 0 false && (plainB s && firstK s.right == 11)
  else if s.k = 3 then cntB s 0 (-2) (-2) 0 false && !(s.left.any fun x => x.k != 7 && x.k != 8)
  else if s.k = 4 then cntB s 0 0 1 0 false && (firstK s.right == 9 || firstK s.right == 10)
  else if s.k = 5 then cntB s 0 0 0 1 false
  else if s.k = 6 then cntB s 0 0 1 1 false
  else if s.k = 7 then cntB s 0 0 1 1 false
  else if s.k = 8 then cntB s 0 0 (-2) (-1) false && ((s.blocks.length : Int) - s.right.length == 0 || (s.blocks.length : Int) - s.right.length == 1)
  else if s.k = 9 then (cntB s 1 0 2 1 false || cntB s 1 0 3 1 false) && plainB s
  else if s.k = 10 then cntB s (-2) 0 (-2) 1 false && plainB s
  else if s.k = 11 then cntB s 0 0 (-1) 0 false && last
  else if s.k = 12 then cntB s 0 0 0 0 false
  else if s.k = 13 then cntB s 0 0 0 0 true
  else if s.k = 14 then cntB s 0 0 0 0 true
  else false
theorem fit_one {n : Nat} (h : fitN n 1 = true) : n = 1 := by
  unfold fitN at h
  simp at h
  omega
theorem cnt_right {s : TS} {n l b : Int} {lb : Bool} (h : cntB s n l 1 b lb = true) : s.right.length = 1 := by
  unfold cntB at h
  simp only [Bool.and_eq_true] at h
  exact fit_one h.2.2.1
theorem firstK_at (l : List TX) (h : 0 < l.length) : firstK l = (l[0]'h).k := by
  cases l with
  | nil => cases h
  | cons y l => rfl
section
variable (s : TS) (last : Bool) (w : World) (hin : InS w w.heap.size s)
include hin

set_option maxHeartbeats 3200000 in
set_option maxRecDepth 100000 in
theorem form1 (hk : s.k = 1) : Calls Tryz.prog 77 #[s.v, .bool last] w fun e w' => e = .returned (.bool (fsB s last)) ∧ Below w.heap.size w w' := by
  have hF : fsB s last = (cntB s (-2) 0 (-1) 0 false && !(s.names.any attrB)) := by unfold fsB; rw [if_pos hk]
  rw [hF]
  clear hF
  have d1 : (s.k == 1) = true := by simpa using hk
  obtain ⟨C, hC⟩ : ∃ c, cntB s (-2) (0) (-1) (0) false = c := ⟨_, rfl⟩
  have HC : Hid (∀ W, Calls Tryz.prog 92 #[s.v, .int .i64 (-2), .int .i64 (0), .int .i64 (-1), .int .i64 (0), .bool false] W fun e W' => e = .returned (.bool C) ∧ Below W.heap.size W W') := fun W => hC ▸ counts_any s (-2) (0) (-1) (0) false W
  rw [hC]
  obtain ⟨Q, hQ⟩ : ∃ q, (s.names.any attrB) = q := ⟨_, rfl⟩
  have HP : Hid (∀ W, Below w.heap.size w W → Calls Tryz.prog 90
      #[.slice s.nA s.names.length s.nC, .func (.func 91) #[] #[]] W fun e W' => e = .returned (.bool Q) ∧ Below W.heap.size W W') := fun W hW => by rw [← hQ]; exact containsL_any _ _ stat1_test s.names s.nA s.nC w.heap.size W ((inS_iff s).1 hin).1.ni (((inS_iff s).1 hin).1.nAt.still (l2_still (still_of hW (Nat.le_refl _))) (Nat.le_refl _)) hW.size
  rw [hQ]
  clear hC hin hk hQ
  cases C with
  | false =>
    go_enter Tryz.func77, Tryz.ntmps77
    go_wp2_with (first | (go_at_call 90; (with_reducible refine (HP.out _ ?_).mono ?_); (focus ((repeat' (first | (with_reducible exact Below.refl _ _) | (with_reducible assumption) | (with_reducible refine Below.alloc ?_ ?_ _) | (with_reducible refine below_drewN ?_ _) | (with_reducible refine Below.drew ?_) | (with_reducible refine Below.setCell ?_ ?_ _) | (with_reducible refine below_via (by assumption) ?_ ?_) | (with_reducible refine below_via (later_below _) ?_ ?_) | (with_reducible exact Nat.le_refl _) | omega | (simp; omega) | (simp; done))))); rintro e w3 ⟨rfl, hb⟩; (refine mem hb ?_; intro N hN hz hc hf; (try simp at hN); subst hN)) | (go_at_call 92; (with_reducible refine (HC.out _).mono ?_); rintro e w1 ⟨rfl, hb⟩; (refine mem hb ?_; intro N hN hz hc hf; (try simp at hN); subst hN)))
    go_returns
    refine ⟨rfl, ?_⟩
    (repeat' (first | (with_reducible exact Below.refl _ _) | (with_reducible assumption) | (with_reducible refine Below.alloc ?_ ?_ _) | (with_reducible refine below_drewN ?_ _) | (with_reducible refine Below.drew ?_) | (with_reducible refine Below.setCell ?_ ?_ _) | (with_reducible refine below_via (by assumption) ?_ ?_) | (with_reducible refine below_via (later_below _) ?_ ?_) | (with_reducible exact Nat.le_refl _) | omega | (simp; omega) | (simp; done)))
  | true =>
    go_enter Tryz.func77, Tryz.ntmps77
    go_wp2_with (first | (go_at_call 90; (with_reducible refine (HP.out _ ?_).mono ?_); (focus ((repeat' (first | (with_reducible exact Below.refl _ _) | (with_reducible assumption) | (with_reducible refine Below.alloc ?_ ?_ _) | (with_reducible refine below_drewN ?_ _) | (with_reducible refine Below.drew ?_) | (with_reducible refine Below.setCell ?_ ?_ _) | (with_reducible refine below_via (by assumption) ?_ ?_) | (with_reducible refine below_via (later_below _) ?_ ?_) | (with_reducible exact Nat.le_refl _) | omega | (simp; omega) | (simp; done))))); rintro e w3 ⟨rfl, hb⟩; (refine mem hb ?_; intro N hN hz hc hf; (try simp at hN); subst hN)) | (go_at_call 92; (with_reducible refine (HC.out _).mono ?_); rintro e w1 ⟨rfl, hb⟩; (refine mem hb ?_; intro N hN hz hc hf; (try simp at hN); subst hN)))
    go_returns
    refine ⟨rfl, ?_⟩
    (repeat' (first | (with_reducible exact Below.refl _ _) | (with_reducible assumption) | (with_reducible refine Below.alloc ?_ ?_ _) | (with_reducible refine below_drewN ?_ _) | (with_reducible refine Below.drew ?_) | (with_reducible refine Below.setCell ?_ ?_ _) | (with_reducible refine below_via (by assumption) ?_ ?_) | (with_reducible refine below_via (later_below _) ?_ ?_) | (with_reducible exact Nat.le_refl _) | omega | (simp; omega) | (simp; done)))

set_option maxHeartbeats 3200000 in
set_option maxRecDepth 100000 in
theorem form2 (hk : s.k = 2) : Calls Tryz.prog 77 #[s.v, .bool last] w fun e w' => e = .returned (.bool (fsB s last)) ∧ Below w.heap.size w w' := by
  have hF : fsB s last = (cntB s 1 0 1 0 false && (plainB s && firstK s.right == 11)) := by unfold fsB; rw [if_neg (by omega)]; rw [if_pos hk]
  rw [hF]
  clear hF
  have d1 : (s.k == 1) = false := by simp; omega
  have d2 : (s.k == 2) = true := by simpa using hk
  obtain ⟨C, hC⟩ : ∃ c, cntB s (1) (0) (1) (0) false = c := ⟨_, rfl⟩
  have HC : Hid (∀ W, Calls Tryz.prog 92 #[s.v, .int .i64 (1), .int .i64 (0), .int .i64 (1), .int .i64 (0), .bool false] W fun e W' => e = .returned (.bool C) ∧ Below W.heap.size W W') := fun W => hC ▸ counts_any s (1) (0) (1) (0) false W
  rw [hC]
  obtain ⟨Q, hQ⟩ : ∃ q, plainB s = q := ⟨_, rfl⟩
  have HP : Hid (∀ W, Below w.heap.size w W → Calls Tryz.prog 93 #[.slice s.nA s.names.length s.nC] W fun e W' => e = .returned (.bool Q) ∧ Below W.heap.size W W') := fun W hW => by rw [← hQ]; exact plain_any s.names s.nA s.nC w.heap.size W ((inS_iff s).1 hin).1.ni (((inS_iff s).1 hin).1.nAt.still (l2_still (still_of hW (Nat.le_refl _))) (Nat.le_refl _)) hW.size
  rw [hQ]
  cases C with
  | false =>
    clear hC hin hk hQ
    go_enter Tryz.func77, Tryz.ntmps77
    go_wp2_with (first | (go_at_call 92; (with_reducible refine (HC.out _).mono ?_); rintro e w1 ⟨rfl, hb⟩; (refine mem hb ?_; intro N hN hz hc hf; (try simp at hN); subst hN)))
    go_returns
    refine ⟨rfl, ?_⟩
    (repeat' (first | (with_reducible exact Below.refl _ _) | (with_reducible assumption) | (with_reducible refine Below.alloc ?_ ?_ _) | (with_reducible refine below_drewN ?_ _) | (with_reducible refine Below.drew ?_) | (with_reducible refine Below.setCell ?_ ?_ _) | (with_reducible refine below_via (by assumption) ?_ ?_) | (with_reducible refine below_via (later_below _) ?_ ?_) | (with_reducible exact Nat.le_refl _) | omega | (simp; omega) | (simp; done)))
  | true =>
    have hr1 := cnt_right hC
    obtain ⟨br, or_, hra, hbr, hcx, -⟩ := hin.rt.at_ (k := 0) (by omega)
    obtain ⟨x, hx⟩ : ∃ x, s.right[0] = x := ⟨_, rfl⟩
    have hf : firstK s.right = x.k := by rw [← hx]; exact firstK_at _ _
    rw [hf]
    rw [hx, Nat.zero_mul, Nat.add_zero] at hcx
    obtain ⟨c0, -⟩ := hcx
    simp only [TS.v, hra, hr1] at HC
    clear hC hin hk hx hf hQ
    cases Q with
    | false =>
      go_enter Tryz.func77, Tryz.ntmps77
      go_wp2_with (first | (go_at_call 92; (with_reducible refine (HC.out _).mono ?_); rintro e w1 ⟨rfl, hb⟩; (refine mem hb ?_; intro N hN hz hc hf; (try simp at hN); subst hN)) | (go_at_call 93; (with_reducible refine (HP.out _ ?_).mono ?_); (focus ((repeat' (first | (with_reducible exact Below.refl _ _) | (with_reducible assumption) | (with_reducible refine Below.alloc ?_ ?_ _) | (with_reducible refine below_drewN ?_ _) | (with_reducible refine Below.drew ?_) | (with_reducible refine Below.setCell ?_ ?_ _) | (with_reducible refine below_via (by assumption) ?_ ?_) | (with_reducible refine below_via (later_below _) ?_ ?_) | (with_reducible exact Nat.le_refl _) | omega | (simp; omega) | (simp; done))))); rintro e w3 ⟨rfl, hb⟩; (refine mem hb ?_; intro N hN hz hc hf; (try simp at hN); subst hN)))
      go_returns
      refine ⟨rfl, ?_⟩
      (repeat' (first | (with_reducible exact Below.refl _ _) | (with_reducible assumption) | (with_reducible refine Below.alloc ?_ ?_ _) | (with_reducible refine below_drewN ?_ _) | (with_reducible refine Below.drew ?_) | (with_reducible refine Below.setCell ?_ ?_ _) | (with_reducible refine below_via (by assumption) ?_ ?_) | (with_reducible refine below_via (later_below _) ?_ ?_) | (with_reducible exact Nat.le_refl _) | omega | (simp; omega) | (simp; done)))
    | true =>
      go_enter Tryz.func77, Tryz.ntmps77
      go_wp2_with (first | (go_at_call 92; (with_reducible refine (HC.out _).mono ?_); rintro e w1 ⟨rfl, hb⟩; (refine mem hb ?_; intro N hN hz hc hf; (try simp at hN); subst hN)) | (go_at_call 93; (with_reducible refine (HP.out _ ?_).mono ?_); (focus ((repeat' (first | (with_reducible exact Below.refl _ _) | (with_reducible assumption) | (with_reducible refine Below.alloc ?_ ?_ _) | (with_reducible refine below_drewN ?_ _) | (with_reducible refine Below.drew ?_) | (with_reducible refine Below.setCell ?_ ?_ _) | (with_reducible refine below_via (by assumption) ?_ ?_) | (with_reducible refine below_via (later_below _) ?_ ?_) | (with_reducible exact Nat.le_refl _) | omega | (simp; omega) | (simp; done))))); rintro e w3 ⟨rfl, hb⟩; (refine mem hb ?_; intro N hN hz hc hf; (try simp at hN); subst hN)))
      go_returns
      refine ⟨rfl, ?_⟩
      (repeat' (first | (with_reducible exact Below.refl _ _) | (with_reducible assumption) | (with_reducible refine Below.alloc ?_ ?_ _) | (with_reducible refine below_drewN ?_ _) | (with_reducible refine Below.drew ?_) | (with_reducible refine Below.setCell ?_ ?_ _) | (with_reducible refine below_via (by assumption) ?_ ?_) | (with_reducible refine below_via (later_below _) ?_ ?_) | (with_reducible exact Nat.le_refl _) | omega | (simp; omega) | (simp; done)))

set_option maxHeartbeats 3200000 in
set_option maxRecDepth 100000 in
theorem form3 (hk : s.k = 3) : Calls Tryz.prog 77 #[s.v, .bool last] w fun e w' => e = .returned (.bool (fsB s last)) ∧ Below w.heap.size w w' := by
  have hF : fsB s last = (cntB s 0 (-2) (-2) 0 false && !(s.left.any fun x => x.k != 7 && x.k != 8)) := by unfold fsB; rw [if_neg (by omega)]; rw [if_neg (by omega)]; rw [if_pos hk]
  rw [hF]
  clear hF
  have d1 : (s.k == 1) = false := by simp; omega
  have d2 : (s.k == 2) = false := by simp; omega
  have d3 : (s.k == 3) = true := by simpa using hk
  obtain ⟨C, hC⟩ : ∃ c, cntB s (0) (-2) (-2) (0) false = c := ⟨_, rfl⟩
  have HC : Hid (∀ W, Calls Tryz.prog 92 #[s.v, .int .i64 (0), .int .i64 (-2), .int .i64 (-2), .int .i64 (0), .bool false] W fun e W' => e = .returned (.bool C) ∧ Below W.heap.size W W') := fun W => hC ▸ counts_any s (0) (-2) (-2) (0) false W
  rw [hC]
  obtain ⟨Q, hQ⟩ : ∃ q, (s.left.any fun x => x.k != 7 && x.k != 8) = q := ⟨_, rfl⟩
  have HP : Hid (∀ W, Below w.heap.size w W → Calls Tryz.prog 94
      #[.slice s.lA s.left.length s.lC, .func (.func 95) #[] #[]] W fun e W' => e = .returned (.bool Q) ∧ Below W.heap.size W W') := fun W hW => by rw [← hQ]; exact containsX_any _ _ stat2_test s.left s.lA s.lC w.heap.size W ((inS_iff s).1 hin).1.li (((inS_iff s).1 hin).1.lAt.still (x8_still (still_of hW (Nat.le_refl _))) (Nat.le_refl _)) hW.size
  rw [hQ]
  clear hC hin hk hQ
  cases C with
  | false =>
    go_enter Tryz.func77, Tryz.ntmps77
    go_wp2_with (first | (go_at_call 94; (with_reducible refine (HP.out _ ?_).mono ?_); (focus ((repeat' (first | (with_reducible exact Below.refl _ _) | (with_reducible assumption) | (with_reducible refine Below.alloc ?_ ?_ _) | (with_reducible refine below_drewN ?_ _) | (with_reducible refine Below.drew ?_) | (with_reducible refine Below.setCell ?_ ?_ _) | (with_reducible refine below_via (by assumption) ?_ ?_) | (with_reducible refine below_via (later_below _) ?_ ?_) | (with_reducible exact Nat.le_refl _) | omega | (simp; omega) | (simp; done))))); rintro e w3 ⟨rfl, hb⟩; (refine mem hb ?_; intro N hN hz hc hf; (try simp at hN); subst hN)) | (go_at_call 92; (with_reducible refine (HC.out _).mono ?_); rintro e w1 ⟨rfl, hb⟩; (refine mem hb ?_; intro N hN hz hc hf; (try simp at hN); subst hN)))
    go_returns
    refine ⟨rfl, ?_⟩
    (repeat' (first | (with_reducible exact Below.refl _ _) | (with_reducible assumption) | (with_reducible refine Below.alloc ?_ ?_ _) | (with_reducible refine below_drewN ?_ _) | (with_reducible refine Below.drew ?_) | (with_reducible refine Below.setCell ?_ ?_ _) | (with_reducible refine below_via (by assumption) ?_ ?_) | (with_reducible refine below_via (later_below _) ?_ ?_) | (with_reducible exact Nat.le_refl _) | omega | (simp; omega) | (simp; done)))
  | true =>
    go_enter Tryz.func77, Tryz.ntmps77
    go_wp2_with (first | (go_at_call 94; (with_reducible refine (HP.out _ ?_).mono ?_); (focus ((repeat' (first | (with_reducible exact Below.refl _ _) | (with_reducible assumption) | (with_reducible refine Below.alloc ?_ ?_ _) | (with_reducible refine below_drewN ?_ _) | (with_reducible refine Below.drew ?_) | (with_reducible refine Below.setCell ?_ ?_ _) | (with_reducible refine below_via (by assumption) ?_ ?_) | (with_reducible refine below_via (later_below _) ?_ ?_) | (with_reducible exact Nat.le_refl _) | omega | (simp; omega) | (simp; done))))); rintro e w3 ⟨rfl, hb⟩; (refine mem hb ?_; intro N hN hz hc hf; (try simp at hN); subst hN)) | (go_at_call 92; (with_reducible refine (HC.out _).mono ?_); rintro e w1 ⟨rfl, hb⟩; (refine mem hb ?_; intro N hN hz hc hf; (try simp at hN); subst hN)))
    go_returns
    refine ⟨rfl, ?_⟩
    (repeat' (first | (with_reducible exact Below.refl _ _) | (with_reducible assumption) | (with_reducible refine Below.alloc ?_ ?_ _) | (with_reducible refine below_drewN ?_ _) | (with_reducible refine Below.drew ?_) | (with_reducible refine Below.setCell ?_ ?_ _) | (with_reducible refine below_via (by assumption) ?_ ?_) | (with_reducible refine below_via (later_below _) ?_ ?_) | (with_reducible exact Nat.le_refl _) | omega | (simp; omega) | (simp; done)))

set_option maxHeartbeats 3200000 in
set_option maxRecDepth 100000 in
theorem form4 (hk : s.k = 4) : Calls Tryz.prog 77 #[s.v, .bool last] w fun e w' => e = .returned (.bool (fsB s last)) ∧ Below w.heap.size w w' := by
  have hF : fsB s last = (cntB s 0 0 1 0 false && (firstK s.right == 9 || firstK s.right == 10)) := by unfold fsB; rw [if_neg (by omega)]; rw [if_neg (by omega)]; rw [if_neg (by omega)]; rw [if_pos hk]
  rw [hF]
  clear hF
  have d1 : (s.k == 1) = false := by simp; omega
  have d2 : (s.k == 2) = false := by simp; omega
  have d3 : (s.k == 3) = false := by simp; omega
  have d4 : (s.k == 4) = true := by simpa using hk
  obtain ⟨C, hC⟩ : ∃ c, cntB s (0) (0) (1) (0) false = c := ⟨_, rfl⟩
  have HC : Hid (∀ W, Calls Tryz.prog 92 #[s.v, .int .i64 (0), .int .i64 (0), .int .i64 (1), .int .i64 (0), .bool false] W fun e W' => e = .returned (.bool C) ∧ Below W.heap.size W W') := fun W => hC ▸ counts_any s (0) (0) (1) (0) false W
  rw [hC]
  cases C with
  | false =>
    clear hC hin hk
    go_enter Tryz.func77, Tryz.ntmps77
    go_wp2_with (first | (go_at_call 92; (with_reducible refine (HC.out _).mono ?_); rintro e w1 ⟨rfl, hb⟩; (refine mem hb ?_; intro N hN hz hc hf; (try simp at hN); subst hN)))
    go_returns
    refine ⟨rfl, ?_⟩
    (repeat' (first | (with_reducible exact Below.refl _ _) | (with_reducible assumption) | (with_reducible refine Below.alloc ?_ ?_ _) | (with_reducible refine below_drewN ?_ _) | (with_reducible refine Below.drew ?_) | (with_reducible refine Below.setCell ?_ ?_ _) | (with_reducible refine below_via (by assumption) ?_ ?_) | (with_reducible refine below_via (later_below _) ?_ ?_) | (with_reducible exact Nat.le_refl _) | omega | (simp; omega) | (simp; done)))
  | true =>
    have hr1 := cnt_right hC
    obtain ⟨br, or_, hra, hbr, hcx, -⟩ := hin.rt.at_ (k := 0) (by omega)
    obtain ⟨x, hx⟩ : ∃ x, s.right[0] = x := ⟨_, rfl⟩
    have hf : firstK s.right = x.k := by rw [← hx]; exact firstK_at _ _
    rw [hf]
    rw [hx, Nat.zero_mul, Nat.add_zero] at hcx
    obtain ⟨c0, -⟩ := hcx
    simp only [TS.v, hra, hr1] at HC
    clear hC hin hk hx hf
    cases hE : (x.k == 9)
    · go_enter Tryz.func77, Tryz.ntmps77
      go_wp2_with (first | (go_at_call 92; (with_reducible refine (HC.out _).mono ?_); rintro e w1 ⟨rfl, hb⟩; (refine mem hb ?_; intro N hN hz hc hf; (try simp at hN); subst hN)))
      go_returns
      refine ⟨rfl, ?_⟩
      (repeat' (first | (with_reducible exact Below.refl _ _) | (with_reducible assumption) | (with_reducible refine Below.alloc ?_ ?_ _) | (with_reducible refine below_drewN ?_ _) | (with_reducible refine Below.drew ?_) | (with_reducible refine Below.setCell ?_ ?_ _) | (with_reducible refine below_via (by assumption) ?_ ?_) | (with_reducible refine below_via (later_below _) ?_ ?_) | (with_reducible exact Nat.le_refl _) | omega | (simp; omega) | (simp; done)))
    · go_enter Tryz.func77, Tryz.ntmps77
      go_wp2_with (first | (go_at_call 92; (with_reducible refine (HC.out _).mono ?_); rintro e w1 ⟨rfl, hb⟩; (refine mem hb ?_; intro N hN hz hc hf; (try simp at hN); subst hN)))
      go_returns
      refine ⟨rfl, ?_⟩
      (repeat' (first | (with_reducible exact Below.refl _ _) | (with_reducible assumption) | (with_reducible refine Below.alloc ?_ ?_ _) | (with_reducible refine below_drewN ?_ _) | (with_reducible refine Below.drew ?_) | (with_reducible refine Below.setCell ?_ ?_ _) | (with_reducible refine below_via (by assumption) ?_ ?_) | (with_reducible refine below_via (later_below _) ?_ ?_) | (with_reducible exact Nat.le_refl _) | omega | (simp; omega) | (simp; done)))

omit hin in
set_option maxHeartbeats 3200000 in
set_option maxRecDepth 100000 in
theorem form5 (hk : s.k = 5) : Calls Tryz.prog 77 #[s.v, .bool last] w fun e w' => e = .returned (.bool (fsB s last)) ∧ Below w.heap.size w w' := by
  have hF : fsB s last = (cntB s 0 0 0 1 false) := by unfold fsB; rw [if_neg (by omega)]; rw [if_neg (by omega)]; rw [if_neg (by omega)]; rw [if_neg (by omega)]; rw [if_pos hk]
  rw [hF]
  clear hF
  have d1 : (s.k == 1) = false := by simp; omega
  have d2 : (s.k == 2) = false := by simp; omega
  have d3 : (s.k == 3) = false := by simp; omega
  have d4 : (s.k == 4) = false := by simp; omega
  have d5 : (s.k == 5) = true := by simpa using hk
  obtain ⟨C, hC⟩ : ∃ c, cntB s (0) (0) (0) (1) false = c := ⟨_, rfl⟩
  have HC : Hid (∀ W, Calls Tryz.prog 92 #[s.v, .int .i64 (0), .int .i64 (0), .int .i64 (0), .int .i64 (1), .bool false] W fun e W' => e = .returned (.bool C) ∧ Below W.heap.size W W') := fun W => hC ▸ counts_any s (0) (0) (0) (1) false W
  rw [hC]
  clear hC hk
  cases C with
  | false =>
    go_enter Tryz.func77, Tryz.ntmps77
    go_wp2_with (first | (go_at_call 92; (with_reducible refine (HC.out _).mono ?_); rintro e w1 ⟨rfl, hb⟩; (refine mem hb ?_; intro N hN hz hc hf; (try simp at hN); subst hN)))
    go_returns
    refine ⟨rfl, ?_⟩
    (repeat' (first | (with_reducible exact Below.refl _ _) | (with_reducible assumption) | (with_reducible refine Below.alloc ?_ ?_ _) | (with_reducible refine below_drewN ?_ _) | (with_reducible refine Below.drew ?_) | (with_reducible refine Below.setCell ?_ ?_ _) | (with_reducible refine below_via (by assumption) ?_ ?_) | (with_reducible refine below_via (later_below _) ?_ ?_) | (with_reducible exact Nat.le_refl _) | omega | (simp; omega) | (simp; done)))
  | true =>
    go_enter Tryz.func77, Tryz.ntmps77
    go_wp2_with (first | (go_at_call 92; (with_reducible refine (HC.out _).mono ?_); rintro e w1 ⟨rfl, hb⟩; (refine mem hb ?_; intro N hN hz hc hf; (try simp at hN); subst hN)))
    go_returns
    refine ⟨rfl, ?_⟩
    (repeat' (first | (with_reducible exact Below.refl _ _) | (with_reducible assumption) | (with_reducible refine Below.alloc ?_ ?_ _) | (with_reducible refine below_drewN ?_ _) | (with_reducible refine Below.drew ?_) | (with_reducible refine Below.setCell ?_ ?_ _) | (with_reducible refine below_via (by assumption) ?_ ?_) | (with_reducible refine below_via (later_below _) ?_ ?_) | (with_reducible exact Nat.le_refl _) | omega | (simp; omega) | (simp; done)))

omit hin in
set_option maxHeartbeats 3200000 in
set_option maxRecDepth 100000 in
theorem form6 (hk : s.k = 6) : Calls Tryz.prog 77 #[s.v, .bool last] w fun e w' => e = .returned (.bool (fsB s last)) ∧ Below w.heap.size w w' := by
  have hF : fsB s last = (cntB s 0 0 1 1 false) := by unfold fsB; rw [if_neg (by omega)]; rw [if_neg (by omega)]; rw [if_neg (by omega)]; rw [if_neg (by omega)]; rw [if_neg (by omega)]; rw [if_pos hk]
  rw [hF]
  clear hF
  have d1 : (s.k == 1) = false := by simp; omega
  have d2 : (s.k == 2) = false := by simp; omega
  have d3 : (s.k == 3) = false := by simp; omega
  have d4 : (s.k == 4) = false := by simp; omega
  have d5 : (s.k == 5) = false := by simp; omega
  have d6 : (s.k == 6) = true := by simpa using hk
  obtain ⟨C, hC⟩ : ∃ c, cntB s (0) (0) (1) (1) false = c := ⟨_, rfl⟩
  have HC : Hid (∀ W, Calls Tryz.prog 92 #[s.v, .int .i64 (0), .int .i64 (0), .int .i64 (1), .int .i64 (1), .bool false] W fun e W' => e = .returned (.bool C) ∧ Below W.heap.size W W') := fun W => hC ▸ counts_any s (0) (0) (1) (1) false W
  rw [hC]
  clear hC hk
  cases C with
  | false =>
    go_enter Tryz.func77, Tryz.ntmps77
    go_wp2_with (first | (go_at_call 92; (with_reducible refine (HC.out _).mono ?_); rintro e w1 ⟨rfl, hb⟩; (refine mem hb ?_; intro N hN hz hc hf; (try simp at hN); subst hN)))
    go_returns
    refine ⟨rfl, ?_⟩
    (repeat' (first | (with_reducible exact Below.refl _ _) | (with_reducible assumption) | (with_reducible refine Below.alloc ?_ ?_ _) | (with_reducible refine below_drewN ?_ _) | (with_reducible refine Below.drew ?_) | (with_reducible refine Below.setCell ?_ ?_ _) | (with_reducible refine below_via (by assumption) ?_ ?_) | (with_reducible refine below_via (later_below _) ?_ ?_) | (with_reducible exact Nat.le_refl _) | omega | (simp; omega) | (simp; done)))
  | true =>
    go_enter Tryz.func77, Tryz.ntmps77
    go_wp2_with (first | (go_at_call 92; (with_reducible refine (HC.out _).mono ?_); rintro e w1 ⟨rfl, hb⟩; (refine mem hb ?_; intro N hN hz hc hf; (try simp at hN); subst hN)))
    go_returns
    refine ⟨rfl, ?_⟩
    (repeat' (first | (with_reducible exact Below.refl _ _) | (with_reducible assumption) | (with_reducible refine Below.alloc ?_ ?_ _) | (with_reducible refine below_drewN ?_ _) | (with_reducible refine Below.drew ?_) | (with_reducible refine Below.setCell ?_ ?_ _) | (with_reducible refine below_via (by assumption) ?_ ?_) | (with_reducible refine below_via (later_below _) ?_ ?_) | (with_reducible exact Nat.le_refl _) | omega | (simp; omega) | (simp; done)))

omit hin in
set_option maxHeartbeats 3200000 in
set_option maxRecDepth 100000 in
theorem form7 (hk : s.k = 7) : Calls Tryz.prog 77 #[s.v, .bool last] w fun e w' => e = .returned (.bool (fsB s last)) ∧ Below w.heap.size w w' := by
  have hF : fsB s last = (cntB s 0 0 1 1 false) := by unfold fsB; rw [if_neg (by omega)]; rw [if_neg (by omega)]; rw [if_neg (by omega)]; rw [if_neg (by omega)]; rw [if_neg (by omega)]; rw [if_neg (by omega)]; rw [if_pos hk]
  rw [hF]
  clear hF
  have d1 : (s.k == 1) = false := by simp; omega
  have d2 : (s.k == 2) = false := by simp; omega
  have d3 : (s.k == 3) = false := by simp; omega
  have d4 : (s.k == 4) = false := by simp; omega
  have d5 : (s.k == 5) = false := by simp; omega
  have d6 : (s.k == 6) = false := by simp; omega
  have d7 : (s.k == 7) = true := by simpa using hk
  obtain ⟨C, hC⟩ : ∃ c, cntB s (0) (0) (1) (1) false = c := ⟨_, rfl⟩
  have HC : Hid (∀ W, Calls Tryz.prog 92 #[s.v, .int .i64 (0), .int .i64 (0), .int .i64 (1), .int .i64 (1), .bool false] W fun e W' => e = .returned (.bool C) ∧ Below W.heap.size W W') := fun W => hC ▸ counts_any s (0) (0) (1) (1) false W
  rw [hC]
  clear hC hk
  cases C with
  | false =>
    go_enter Tryz.func77, Tryz.ntmps77
    go_wp2_with (first | (go_at_call 92; (with_reducible refine (HC.out _).mono ?_); rintro e w1 ⟨rfl, hb⟩; (refine mem hb ?_; intro N hN hz hc hf; (try simp at hN); subst hN)))
    go_returns
    refine ⟨rfl, ?_⟩
    (repeat' (first | (with_reducible exact Below.refl _ _) | (with_reducible assumption) | (with_reducible refine Below.alloc ?_ ?_ _) | (with_reducible refine below_drewN ?_ _) | (with_reducible refine Below.drew ?_) | (with_reducible refine Below.setCell ?_ ?_ _) | (with_reducible refine below_via (by assumption) ?_ ?_) | (with_reducible refine below_via (later_below _) ?_ ?_) | (with_reducible exact Nat.le_refl _) | omega | (simp; omega) | (simp; done)))
  | true =>
    go_enter Tryz.func77, Tryz.ntmps77
    go_wp2_with (first | (go_at_call 92; (with_reducible refine (HC.out _).mono ?_); rintro e w1 ⟨rfl, hb⟩; (refine mem hb ?_; intro N hN hz hc hf; (try simp at hN); subst hN)))
    go_returns
    refine ⟨rfl, ?_⟩
    (repeat' (first | (with_reducible exact Below.refl _ _) | (with_reducible assumption) | (with_reducible refine Below.alloc ?_ ?_ _) | (with_reducible refine below_drewN ?_ _) | (with_reducible refine Below.drew ?_) | (with_reducible refine Below.setCell ?_ ?_ _) | (with_reducible refine below_via (by assumption) ?_ ?_) | (with_reducible refine below_via (later_below _) ?_ ?_) | (with_reducible exact Nat.le_refl _) | omega | (simp; omega) | (simp; done)))

set_option maxHeartbeats 3200000 in
set_option maxRecDepth 100000 in
theorem form8 (hk : s.k = 8) : Calls Tryz.prog 77 #[s.v, .bool last] w fun e w' => e = .returned (.bool (fsB s last)) ∧ Below w.heap.size w w' := by
  have hF : fsB s last = (cntB s 0 0 (-2) (-1) false && ((s.blocks.length : Int) - s.right.length == 0 || (s.blocks.length : Int) - s.right.length == 1)) := by unfold fsB; rw [if_neg (by omega)]; rw [if_neg (by omega)]; rw [if_neg (by omega)]; rw [if_neg (by omega)]; rw [if_neg (by omega)]; rw [if_neg (by omega)]; rw [if_neg (by omega)]; rw [if_pos hk]
  rw [hF]
  clear hF
  have d1 : (s.k == 1) = false := by simp; omega
  have d2 : (s.k == 2) = false := by simp; omega
  have d3 : (s.k == 3) = false := by simp; omega
  have d4 : (s.k == 4) = false := by simp; omega
  have d5 : (s.k == 5) = false := by simp; omega
  have d6 : (s.k == 6) = false := by simp; omega
  have d7 : (s.k == 7) = false := by simp; omega
  have d8 : (s.k == 8) = true := by simpa using hk
  obtain ⟨C, hC⟩ : ∃ c, cntB s (0) (0) (-2) (-1) false = c := ⟨_, rfl⟩
  have HC : Hid (∀ W, Calls Tryz.prog 92 #[s.v, .int .i64 (0), .int .i64 (0), .int .i64 (-2), .int .i64 (-1), .bool false] W fun e W' => e = .returned (.bool C) ∧ Below W.heap.size W W') := fun W => hC ▸ counts_any s (0) (0) (-2) (-1) false W
  rw [hC]
  have g1 := hin.rt.1.1
  have g2 := hin.rt.1.2.1
  have g3 := hin.bs.1.1
  have g4 := hin.bs.1.2.1
  have g5 : (s.right.length : Int) ≤ 9223372036854775807 := by omega
  have g6 : (s.blocks.length : Int) ≤ 9223372036854775807 := by omega
  clear hC hin hk
  cases C with
  | false =>
    go_enter Tryz.func77, Tryz.ntmps77
    go_wp2_with (first | (go_at_call 92; (with_reducible refine (HC.out _).mono ?_); rintro e w1 ⟨rfl, hb⟩; (refine mem hb ?_; intro N hN hz hc hf; (try simp at hN); subst hN)))
    go_returns
    refine ⟨rfl, ?_⟩
    (repeat' (first | (with_reducible exact Below.refl _ _) | (with_reducible assumption) | (with_reducible refine Below.alloc ?_ ?_ _) | (with_reducible refine below_drewN ?_ _) | (with_reducible refine Below.drew ?_) | (with_reducible refine Below.setCell ?_ ?_ _) | (with_reducible refine below_via (by assumption) ?_ ?_) | (with_reducible refine below_via (later_below _) ?_ ?_) | (with_reducible exact Nat.le_refl _) | omega | (simp; omega) | (simp; done)))
  | true =>
    cases hE : ((s.blocks.length : Int) - s.right.length == 0)
    · go_enter Tryz.func77, Tryz.ntmps77
      go_wp2_with (first | (go_at_call 92; (with_reducible refine (HC.out _).mono ?_); rintro e w1 ⟨rfl, hb⟩; (refine mem hb ?_; intro N hN hz hc hf; (try simp at hN); subst hN)))
      go_returns
      refine ⟨rfl, ?_⟩
      (repeat' (first | (with_reducible exact Below.refl _ _) | (with_reducible assumption) | (with_reducible refine Below.alloc ?_ ?_ _) | (with_reducible refine below_drewN ?_ _) | (with_reducible refine Below.drew ?_) | (with_reducible refine Below.setCell ?_ ?_ _) | (with_reducible refine below_via (by assumption) ?_ ?_) | (with_reducible refine below_via (later_below _) ?_ ?_) | (with_reducible exact Nat.le_refl _) | omega | (simp; omega) | (simp; done)))
    · go_enter Tryz.func77, Tryz.ntmps77
      go_wp2_with (first | (go_at_call 92; (with_reducible refine (HC.out _).mono ?_); rintro e w1 ⟨rfl, hb⟩; (refine mem hb ?_; intro N hN hz hc hf; (try simp at hN); subst hN)))
      go_returns
      refine ⟨rfl, ?_⟩
      (repeat' (first | (with_reducible exact Below.refl _ _) | (with_reducible assumption) | (with_reducible refine Below.alloc ?_ ?_ _) | (with_reducible refine below_drewN ?_ _) | (with_reducible refine Below.drew ?_) | (with_reducible refine Below.setCell ?_ ?_ _) | (with_reducible refine below_via (by assumption) ?_ ?_) | (with_reducible refine below_via (later_below _) ?_ ?_) | (with_reducible exact Nat.le_refl _) | omega | (simp; omega) | (simp; done)))

set_option maxHeartbeats 3200000 in
set_option maxRecDepth 100000 in
theorem form9 (hk : s.k = 9) : Calls Tryz.prog 77 #[s.v, .bool last] w fun e w' => e = .returned (.bool (fsB s last)) ∧ Below w.heap.size w w' := by
  have hF : fsB s last = ((cntB s 1 0 2 1 false || cntB s 1 0 3 1 false) && plainB s) := by unfold fsB; rw [if_neg (by omega)]; rw [if_neg (by omega)]; rw [if_neg (by omega)]; rw [if_neg (by omega)]; rw [if_neg (by omega)]; rw [if_neg (by omega)]; rw [if_neg (by omega)]; rw [if_neg (by omega)]; rw [if_pos hk]
  rw [hF]
  clear hF
  have d1 : (s.k == 1) = false := by simp; omega
  have d2 : (s.k == 2) = false := by simp; omega
  have d3 : (s.k == 3) = false := by simp; omega
  have d4 : (s.k == 4) = false := by simp; omega
  have d5 : (s.k == 5) = false := by simp; omega
  have d6 : (s.k == 6) = false := by simp; omega
  have d7 : (s.k == 7) = false := by simp; omega
  have d8 : (s.k == 8) = false := by simp; omega
  have d9 : (s.k == 9) = true := by simpa using hk
  obtain ⟨C, hC⟩ : ∃ c, cntB s (1) (0) (2) (1) false = c := ⟨_, rfl⟩
  have HC : Hid (∀ W, Calls Tryz.prog 92 #[s.v, .int .i64 (1), .int .i64 (0), .int .i64 (2), .int .i64 (1), .bool false] W fun e W' => e = .returned (.bool C) ∧ Below W.heap.size W W') := fun W => hC ▸ counts_any s (1) (0) (2) (1) false W
  rw [hC]
  obtain ⟨D, hD⟩ : ∃ c, cntB s (1) (0) (3) (1) false = c := ⟨_, rfl⟩
  have HC2 : Hid (∀ W, Calls Tryz.prog 92 #[s.v, .int .i64 (1), .int .i64 (0), .int .i64 (3), .int .i64 (1), .bool false] W fun e W' => e = .returned (.bool D) ∧ Below W.heap.size W W') := fun W => hD ▸ counts_any s (1) (0) (3) (1) false W
  rw [hD]
  obtain ⟨Q, hQ⟩ : ∃ q, plainB s = q := ⟨_, rfl⟩
  have HP : Hid (∀ W, Below w.heap.size w W → Calls Tryz.prog 93 #[.slice s.nA s.names.length s.nC] W fun e W' => e = .returned (.bool Q) ∧ Below W.heap.size W W') := fun W hW => by rw [← hQ]; exact plain_any s.names s.nA s.nC w.heap.size W ((inS_iff s).1 hin).1.ni (((inS_iff s).1 hin).1.nAt.still (l2_still (still_of hW (Nat.le_refl _))) (Nat.le_refl _)) hW.size
  rw [hQ]
  clear hC hD hin hk hQ
  cases C with
  | false =>
    cases D with
    | false =>
      go_enter Tryz.func77, Tryz.ntmps77
      go_wp2_with (first | (go_at_call 92; (with_reducible refine (HC.out _).mono ?_); rintro e w1 ⟨rfl, hb⟩; (refine mem hb ?_; intro N hN hz hc hf; (try simp at hN); subst hN)) | (go_at_call 92; (with_reducible refine (HC2.out _).mono ?_); rintro e w2 ⟨rfl, hb⟩; (refine mem hb ?_; intro N hN hz hc hf; (try simp at hN); subst hN)))
      go_returns
      refine ⟨rfl, ?_⟩
      (repeat' (first | (with_reducible exact Below.refl _ _) | (with_reducible assumption) | (with_reducible refine Below.alloc ?_ ?_ _) | (with_reducible refine below_drewN ?_ _) | (with_reducible refine Below.drew ?_) | (with_reducible refine Below.setCell ?_ ?_ _) | (with_reducible refine below_via (by assumption) ?_ ?_) | (with_reducible refine below_via (later_below _) ?_ ?_) | (with_reducible exact Nat.le_refl _) | omega | (simp; omega) | (simp; done)))
    | true =>
      go_enter Tryz.func77, Tryz.ntmps77
      go_wp2_with (first | (go_at_call 92; (with_reducible refine (HC.out _).mono ?_); rintro e w1 ⟨rfl, hb⟩; (refine mem hb ?_; intro N hN hz hc hf; (try simp at hN); subst hN)) | (go_at_call 92; (with_reducible refine (HC2.out _).mono ?_); rintro e w2 ⟨rfl, hb⟩; (refine mem hb ?_; intro N hN hz hc hf; (try simp at hN); subst hN)) | (go_at_call 93; (with_reducible refine (HP.out _ ?_).mono ?_); (focus ((repeat' (first | (with_reducible exact Below.refl _ _) | (with_reducible assumption) | (with_reducible refine Below.alloc ?_ ?_ _) | (with_reducible refine below_drewN ?_ _) | (with_reducible refine Below.drew ?_) | (with_reducible refine Below.setCell ?_ ?_ _) | (with_reducible refine below_via (by assumption) ?_ ?_) | (with_reducible refine below_via (later_below _) ?_ ?_) | (with_reducible exact Nat.le_refl _) | omega | (simp; omega) | (simp; done))))); rintro e w3 ⟨rfl, hb⟩; (refine mem hb ?_; intro N hN hz hc hf; (try simp at hN); subst hN)))
      go_returns
      refine ⟨rfl, ?_⟩
      (repeat' (first | (with_reducible exact Below.refl _ _) | (with_reducible assumption) | (with_reducible refine Below.alloc ?_ ?_ _) | (with_reducible refine below_drewN ?_ _) | (with_reducible refine Below.drew ?_) | (with_reducible refine Below.setCell ?_ ?_ _) | (with_reducible refine below_via (by assumption) ?_ ?_) | (with_reducible refine below_via (later_below _) ?_ ?_) | (with_reducible exact Nat.le_refl _) | omega | (simp; omega) | (simp; done)))
  | true =>
    go_enter Tryz.func77, Tryz.ntmps77
    go_wp2_with (first | (go_at_call 92; (with_reducible refine (HC.out _).mono ?_); rintro e w1 ⟨rfl, hb⟩; (refine mem hb ?_; intro N hN hz hc hf; (try simp at hN); subst hN)) | (go_at_call 93; (with_reducible refine (HP.out _ ?_).mono ?_); (focus ((repeat' (first | (with_reducible exact Below.refl _ _) | (with_reducible assumption) | (with_reducible refine Below.alloc ?_ ?_ _) | (with_reducible refine below_drewN ?_ _) | (with_reducible refine Below.drew ?_) | (with_reducible refine Below.setCell ?_ ?_ _) | (with_reducible refine below_via (by assumption) ?_ ?_) | (with_reducible refine below_via (later_below _) ?_ ?_) | (with_reducible exact Nat.le_refl _) | omega | (simp; omega) | (simp; done))))); rintro e w3 ⟨rfl, hb⟩; (refine mem hb ?_; intro N hN hz hc hf; (try simp at hN); subst hN)))
    go_returns
    refine ⟨rfl, ?_⟩
    (repeat' (first | (with_reducible exact Below.refl _ _) | (with_reducible assumption) | (with_reducible refine Below.alloc ?_ ?_ _) | (with_reducible refine below_drewN ?_ _) | (with_reducible refine Below.drew ?_) | (with_reducible refine Below.setCell ?_ ?_ _) | (with_reducible refine below_via (by assumption) ?_ ?_) | (with_reducible refine below_via (later_below _) ?_ ?_) | (with_reducible exact Nat.le_refl _) | omega | (simp; omega) | (simp; done)))

set_option maxHeartbeats 3200000 in
set_option maxRecDepth 100000 in
theorem form10 (hk : s.k = 10) : Calls Tryz.prog 77 #[s.v, .bool last] w fun e w' => e = .returned (.bool (fsB s last)) ∧ Below w.heap.size w w' := by
  have hF : fsB s last = (cntB s (-2) 0 (-2) 1 false && plainB s) := by unfold fsB; rw [if_neg (by omega)]; rw [if_neg (by omega)]; rw [if_neg (by omega)]; rw [if_neg (by omega)]; rw [if_neg (by omega)]; rw [if_neg (by omega)]; rw [if_neg (by omega)]; rw [if_neg (by omega)]; rw [if_neg (by omega)]; rw [if_pos hk]
  rw [hF]
  clear hF
  have d1 : (s.k == 1) = false := by simp; omega
  have d2 : (s.k == 2) = false := by simp; omega
  have d3 : (s.k == 3) = false := by simp; omega
  have d4 : (s.k == 4) = false := by simp; omega
  have d5 : (s.k == 5) = false := by simp; omega
  have d6 : (s.k == 6) = false := by simp; omega
  have d7 : (s.k == 7) = false := by simp; omega
  have d8 : (s.k == 8) = false := by simp; omega
  have d9 : (s.k == 9) = false := by simp; omega
  have d10 : (s.k == 10) = true := by simpa using hk
  obtain ⟨C, hC⟩ : ∃ c, cntB s (-2) (0) (-2) (1) false = c := ⟨_, rfl⟩
  have HC : Hid (∀ W, Calls Tryz.prog 92 #[s.v, .int .i64 (-2), .int .i64 (0), .int .i64 (-2), .int .i64 (1), .bool false] W fun e W' => e = .returned (.bool C) ∧ Below W.heap.size W W') := fun W => hC ▸ counts_any s (-2) (0) (-2) (1) false W
  rw [hC]
  obtain ⟨Q, hQ⟩ : ∃ q, plainB s = q := ⟨_, rfl⟩
  have HP : Hid (∀ W, Below w.heap.size w W → Calls Tryz.prog 93 #[.slice s.nA s.names.length s.nC] W fun e W' => e = .returned (.bool Q) ∧ Below W.heap.size W W') := fun W hW => by rw [← hQ]; exact plain_any s.names s.nA s.nC w.heap.size W ((inS_iff s).1 hin).1.ni (((inS_iff s).1 hin).1.nAt.still (l2_still (still_of hW (Nat.le_refl _))) (Nat.le_refl _)) hW.size
  rw [hQ]
  clear hC hin hk hQ
  cases C with
  | false =>
    go_enter Tryz.func77, Tryz.ntmps77
    go_wp2_with (first | (go_at_call 92; (with_reducible refine (HC.out _).mono ?_); rintro e w1 ⟨rfl, hb⟩; (refine mem hb ?_; intro N hN hz hc hf; (try simp at hN); subst hN)))
    go_returns
    refine ⟨rfl, ?_⟩
    (repeat' (first | (with_reducible exact Below.refl _ _) | (with_reducible assumption) | (with_reducible refine Below.alloc ?_ ?_ _) | (with_reducible refine below_drewN ?_ _) | (with_reducible refine Below.drew ?_) | (with_reducible refine Below.setCell ?_ ?_ _) | (with_reducible refine below_via (by assumption) ?_ ?_) | (with_reducible refine below_via (later_below _) ?_ ?_) | (with_reducible exact Nat.le_refl _) | omega | (simp; omega) | (simp; done)))
  | true =>
    go_enter Tryz.func77, Tryz.ntmps77
    go_wp2_with (first | (go_at_call 92; (with_reducible refine (HC.out _).mono ?_); rintro e w1 ⟨rfl, hb⟩; (refine mem hb ?_; intro N hN hz hc hf; (try simp at hN); subst hN)) | (go_at_call 93; (with_reducible refine (HP.out _ ?_).mono ?_); (focus ((repeat' (first | (with_reducible exact Below.refl _ _) | (with_reducible assumption) | (with_reducible refine Below.alloc ?_ ?_ _) | (with_reducible refine below_drewN ?_ _) | (with_reducible refine Below.drew ?_) | (with_reducible refine Below.setCell ?_ ?_ _) | (with_reducible refine below_via (by assumption) ?_ ?_) | (with_reducible refine below_via (later_below _) ?_ ?_) | (with_reducible exact Nat.le_refl _) | omega | (simp; omega) | (simp; done))))); rintro e w3 ⟨rfl, hb⟩; (refine mem hb ?_; intro N hN hz hc hf; (try simp at hN); subst hN)))
    go_returns
    refine ⟨rfl, ?_⟩
    (repeat' (first | (with_reducible exact Below.refl _ _) | (with_reducible assumption) | (with_reducible refine Below.alloc ?_ ?_ _) | (with_reducible refine below_drewN ?_ _) | (with_reducible refine Below.drew ?_) | (with_reducible refine Below.setCell ?_ ?_ _) | (with_reducible refine below_via (by assumption) ?_ ?_) | (with_reducible refine below_via (later_below _) ?_ ?_) | (with_reducible exact Nat.le_refl _) | omega | (simp; omega) | (simp; done)))

omit hin in
set_option maxHeartbeats 3200000 in
set_option maxRecDepth 100000 in
theorem form11 (hk : s.k = 11) : Calls Tryz.prog 77 #[s.v, .bool last] w fun e w' => e = .returned (.bool (fsB s last)) ∧ Below w.heap.size w w' := by
  have hF : fsB s last = (cntB s 0 0 (-1) 0 false && last) := by unfold fsB; rw [if_neg (by omega)]; rw [if_neg (by omega)]; rw [if_neg (by omega)]; rw [if_neg (by omega)]; rw [if_neg (by omega)]; rw [if_neg (by omega)]; rw [if_neg (by omega)]; rw [if_neg (by omega)]; rw [if_neg (by omega)]; rw [if_neg (by omega)]; rw [if_pos hk]
  rw [hF]
  clear hF
  have d1 : (s.k == 1) = false := by simp; omega
  have d2 : (s.k == 2) = false := by simp; omega
  have d3 : (s.k == 3) = false := by simp; omega
  have d4 : (s.k == 4) = false := by simp; omega
  have d5 : (s.k == 5) = false := by simp; omega
  have d6 : (s.k == 6) = false := by simp; omega
  have d7 : (s.k == 7) = false := by simp; omega
  have d8 : (s.k == 8) = false := by simp; omega
  have d9 : (s.k == 9) = false := by simp; omega
  have d10 : (s.k == 10) = false := by simp; omega
  have d11 : (s.k == 11) = true := by simpa using hk
  obtain ⟨C, hC⟩ : ∃ c, cntB s (0) (0) (-1) (0) false = c := ⟨_, rfl⟩
  have HC : Hid (∀ W, Calls Tryz.prog 92 #[s.v, .int .i64 (0), .int .i64 (0), .int .i64 (-1), .int .i64 (0), .bool false] W fun e W' => e = .returned (.bool C) ∧ Below W.heap.size W W') := fun W => hC ▸ counts_any s (0) (0) (-1) (0) false W
  rw [hC]
  clear hC hk
  cases C with
  | false =>
    go_enter Tryz.func77, Tryz.ntmps77
    go_wp2_with (first | (go_at_call 92; (with_reducible refine (HC.out _).mono ?_); rintro e w1 ⟨rfl, hb⟩; (refine mem hb ?_; intro N hN hz hc hf; (try simp at hN); subst hN)))
    go_returns
    refine ⟨rfl, ?_⟩
    (repeat' (first | (with_reducible exact Below.refl _ _) | (with_reducible assumption) | (with_reducible refine Below.alloc ?_ ?_ _) | (with_reducible refine below_drewN ?_ _) | (with_reducible refine Below.drew ?_) | (with_reducible refine Below.setCell ?_ ?_ _) | (with_reducible refine below_via (by assumption) ?_ ?_) | (with_reducible refine below_via (later_below _) ?_ ?_) | (with_reducible exact Nat.le_refl _) | omega | (simp; omega) | (simp; done)))
  | true =>
    go_enter Tryz.func77, Tryz.ntmps77
    go_wp2_with (first | (go_at_call 92; (with_reducible refine (HC.out _).mono ?_); rintro e w1 ⟨rfl, hb⟩; (refine mem hb ?_; intro N hN hz hc hf; (try simp at hN); subst hN)))
    go_returns
    refine ⟨rfl, ?_⟩
    (repeat' (first | (with_reducible exact Below.refl _ _) | (with_reducible assumption) | (with_reducible refine Below.alloc ?_ ?_ _) | (with_reducible refine below_drewN ?_ _) | (with_reducible refine Below.drew ?_) | (with_reducible refine Below.setCell ?_ ?_ _) | (with_reducible refine below_via (by assumption) ?_ ?_) | (with_reducible refine below_via (later_below _) ?_ ?_) | (with_reducible exact Nat.le_refl _) | omega | (simp; omega) | (simp; done)))

omit hin in
set_option maxHeartbeats 3200000 in
set_option maxRecDepth 100000 in
theorem form12 (hk : s.k = 12) : Calls Tryz.prog 77 #[s.v, .bool last] w fun e w' => e = .returned (.bool (fsB s last)) ∧ Below w.heap.size w w' := by
  have hF : fsB s last = (cntB s 0 0 0 0 false) := by unfold fsB; rw [if_neg (by omega)]; rw [if_neg (by omega)]; rw [if_neg (by omega)]; rw [if_neg (by omega)]; rw [if_neg (by omega)]; rw [if_neg (by omega)]; rw [if_neg (by omega)]; rw [if_neg (by omega)]; rw [if_neg (by omega)]; rw [if_neg (by omega)]; rw [if_neg (by omega)]; rw [if_pos hk]
  rw [hF]
  clear hF
  have d1 : (s.k == 1) = false := by simp; omega
  have d2 : (s.k == 2) = false := by simp; omega
  have d3 : (s.k == 3) = false := by simp; omega
  have d4 : (s.k == 4) = false := by simp; omega
  have d5 : (s.k == 5) = false := by simp; omega
  have d6 : (s.k == 6) = false := by simp; omega
  have d7 : (s.k == 7) = false := by simp; omega
  have d8 : (s.k == 8) = false := by simp; omega
  have d9 : (s.k == 9) = false := by simp; omega
  have d10 : (s.k == 10) = false := by simp; omega
  have d11 : (s.k == 11) = false := by simp; omega
  have d12 : (s.k == 12) = true := by simpa using hk
  obtain ⟨C, hC⟩ : ∃ c, cntB s (0) (0) (0) (0) false = c := ⟨_, rfl⟩
  have HC : Hid (∀ W, Calls Tryz.prog 92 #[s.v, .int .i64 (0), .int .i64 (0), .int .i64 (0), .int .i64 (0), .bool false] W fun e W' => e = .returned (.bool C) ∧ Below W.heap.size W W') := fun W => hC ▸ counts_any s (0) (0) (0) (0) false W
  rw [hC]
  clear hC hk
  cases C with
  | false =>
    go_enter Tryz.func77, Tryz.ntmps77
    go_wp2_with (first | (go_at_call 92; (with_reducible refine (HC.out _).mono ?_); rintro e w1 ⟨rfl, hb⟩; (refine mem hb ?_; intro N hN hz hc hf; (try simp at hN); subst hN)))
    go_returns
    refine ⟨rfl, ?_⟩
    (repeat' (first | (with_reducible exact Below.refl _ _) | (with_reducible assumption) | (with_reducible refine Below.alloc ?_ ?_ _) | (with_reducible refine below_drewN ?_ _) | (with_reducible refine Below.drew ?_) | (with_reducible refine Below.setCell ?_ ?_ _) | (with_reducible refine below_via (by assumption) ?_ ?_) | (with_reducible refine below_via (later_below _) ?_ ?_) | (with_reducible exact Nat.le_refl _) | omega | (simp; omega) | (simp; done)))
  | true =>
    go_enter Tryz.func77, Tryz.ntmps77
    go_wp2_with (first | (go_at_call 92; (with_reducible refine (HC.out _).mono ?_); rintro e w1 ⟨rfl, hb⟩; (refine mem hb ?_; intro N hN hz hc hf; (try simp at hN); subst hN)))
    go_returns
    refine ⟨rfl, ?_⟩
    (repeat' (first | (with_reducible exact Below.refl _ _) | (with_reducible assumption) | (with_reducible refine Below.alloc ?_ ?_ _) | (with_reducible refine below_drewN ?_ _) | (with_reducible refine Below.drew ?_) | (with_reducible refine Below.setCell ?_ ?_ _) | (with_reducible refine below_via (by assumption) ?_ ?_) | (with_reducible refine below_via (later_below _) ?_ ?_) | (with_reducible exact Nat.le_refl _) | omega | (simp; omega) | (simp; done)))

omit hin in
set_option maxHeartbeats 3200000 in
set_option maxRecDepth 100000 in
theorem form13 (hk : s.k = 13) : Calls Tryz.prog 77 #[s.v, .bool last] w fun e w' => e = .returned (.bool (fsB s last)) ∧ Below w.heap.size w w' := by
  have hF : fsB s last = (cntB s 0 0 0 0 true) := by unfold fsB; rw [if_neg (by omega)]; rw [if_neg (by omega)]; rw [if_neg (by omega)]; rw [if_neg (by omega)]; rw [if_neg (by omega)]; rw [if_neg (by omega)]; rw [if_neg (by omega)]; rw [if_neg (by omega)]; rw [if_neg (by omega)]; rw [if_neg (by omega)]; rw [if_neg (by omega)]; rw [if_neg (by omega)]; rw [if_pos hk]
  rw [hF]
  clear hF
  have d1 : (s.k == 1) = false := by simp; omega
  have d2 : (s.k == 2) = false := by simp; omega
  have d3 : (s.k == 3) = false := by simp; omega
  have d4 : (s.k == 4) = false := by simp; omega
  have d5 : (s.k == 5) = false := by simp; omega
  have d6 : (s.k == 6) = false := by simp; omega
  have d7 : (s.k == 7) = false := by simp; omega
  have d8 : (s.k == 8) = false := by simp; omega
  have d9 : (s.k == 9) = false := by simp; omega
  have d10 : (s.k == 10) = false := by simp; omega
  have d11 : (s.k == 11) = false := by simp; omega
  have d12 : (s.k == 12) = false := by simp; omega
  have d13 : (s.k == 13) = true := by simpa using hk
  obtain ⟨C, hC⟩ : ∃ c, cntB s (0) (0) (0) (0) true = c := ⟨_, rfl⟩
  have HC : Hid (∀ W, Calls Tryz.prog 92 #[s.v, .int .i64 (0), .int .i64 (0), .int .i64 (0), .int .i64 (0), .bool true] W fun e W' => e = .returned (.bool C) ∧ Below W.heap.size W W') := fun W => hC ▸ counts_any s (0) (0) (0) (0) true W
  rw [hC]
  clear hC hk
  cases C with
  | false =>
    go_enter Tryz.func77, Tryz.ntmps77
    go_wp2_with (first | (go_at_call 92; (with_reducible refine (HC.out _).mono ?_); rintro e w1 ⟨rfl, hb⟩; (refine mem hb ?_; intro N hN hz hc hf; (try simp at hN); subst hN)))
    go_returns
    refine ⟨rfl, ?_⟩
    (repeat' (first | (with_reducible exact Below.refl _ _) | (with_reducible assumption) | (with_reducible refine Below.alloc ?_ ?_ _) | (with_reducible refine below_drewN ?_ _) | (with_reducible refine Below.drew ?_) | (with_reducible refine Below.setCell ?_ ?_ _) | (with_reducible refine below_via (by assumption) ?_ ?_) | (with_reducible refine below_via (later_below _) ?_ ?_) | (with_reducible exact Nat.le_refl _) | omega | (simp; omega) | (simp; done)))
  | true =>
    go_enter Tryz.func77, Tryz.ntmps77
    go_wp2_with (first | (go_at_call 92; (with_reducible refine (HC.out _).mono ?_); rintro e w1 ⟨rfl, hb⟩; (refine mem hb ?_; intro N hN hz hc hf; (try simp at hN); subst hN)))
    go_returns
    refine ⟨rfl, ?_⟩
    (repeat' (first | (with_reducible exact Below.refl _ _) | (with_reducible assumption) | (with_reducible refine Below.alloc ?_ ?_ _) | (with_reducible refine below_drewN ?_ _) | (with_reducible refine Below.drew ?_) | (with_reducible refine Below.setCell ?_ ?_ _) | (with_reducible refine below_via (by assumption) ?_ ?_) | (with_reducible refine below_via (later_below _) ?_ ?_) | (with_reducible exact Nat.le_refl _) | omega | (simp; omega) | (simp; done)))

omit hin in
set_option maxHeartbeats 3200000 in
set_option maxRecDepth 100000 in
theorem form14 (hk : s.k = 14) : Calls Tryz.prog 77 #[s.v, .bool last] w fun e w' => e = .returned (.bool (fsB s last)) ∧ Below w.heap.size w w' := by
  have hF : fsB s last = (cntB s 0 0 0 0 true) := by unfold fsB; rw [if_neg (by omega)]; rw [if_neg (by omega)]; rw [if_neg (by omega)]; rw [if_neg (by omega)]; rw [if_neg (by omega)]; rw [if_neg (by omega)]; rw [if_neg (by omega)]; rw [if_neg (by omega)]; rw [if_neg (by omega)]; rw [if_neg (by omega)]; rw [if_neg (by omega)]; rw [if_neg (by omega)]; rw [if_neg (by omega)]; rw [if_pos hk]
  rw [hF]
  clear hF
  have d1 : (s.k == 1) = false := by simp; omega
  have d2 : (s.k == 2) = false := by simp; omega
  have d3 : (s.k == 3) = false := by simp; omega
  have d4 : (s.k == 4) = false := by simp; omega
  have d5 : (s.k == 5) = false := by simp; omega
  have d6 : (s.k == 6) = false := by simp; omega
  have d7 : (s.k == 7) = false := by simp; omega
  have d8 : (s.k == 8) = false := by simp; omega
  have d9 : (s.k == 9) = false := by simp; omega
  have d10 : (s.k == 10) = false := by simp; omega
  have d11 : (s.k == 11) = false := by simp; omega
  have d12 : (s.k == 12) = false := by simp; omega
  have d13 : (s.k == 13) = false := by simp; omega
  have d14 : (s.k == 14) = true := by simpa using hk
  obtain ⟨C, hC⟩ : ∃ c, cntB s (0) (0) (0) (0) true = c := ⟨_, rfl⟩
  have HC : Hid (∀ W, Calls Tryz.prog 92 #[s.v, .int .i64 (0), .int .i64 (0), .int .i64 (0), .int .i64 (0), .bool true] W fun e W' => e = .returned (.bool C) ∧ Below W.heap.size W W') := fun W => hC ▸ counts_any s (0) (0) (0) (0) true W
  rw [hC]
  clear hC hk
  cases C with
  | false =>
    go_enter Tryz.func77, Tryz.ntmps77
    go_wp2_with (first | (go_at_call 92; (with_reducible refine (HC.out _).mono ?_); rintro e w1 ⟨rfl, hb⟩; (refine mem hb ?_; intro N hN hz hc hf; (try simp at hN); subst hN)))
    go_returns
    refine ⟨rfl, ?_⟩
    (repeat' (first | (with_reducible exact Below.refl _ _) | (with_reducible assumption) | (with_reducible refine Below.alloc ?_ ?_ _) | (with_reducible refine below_drewN ?_ _) | (with_reducible refine Below.drew ?_) | (with_reducible refine Below.setCell ?_ ?_ _) | (with_reducible refine below_via (by assumption) ?_ ?_) | (with_reducible refine below_via (later_below _) ?_ ?_) | (with_reducible exact Nat.le_refl _) | omega | (simp; omega) | (simp; done)))
  | true =>
    go_enter Tryz.func77, Tryz.ntmps77
    go_wp2_with (first | (go_at_call 92; (with_reducible refine (HC.out _).mono ?_); rintro e w1 ⟨rfl, hb⟩; (refine mem hb ?_; intro N hN hz hc hf; (try simp at hN); subst hN)))
    go_returns
    refine ⟨rfl, ?_⟩
    (repeat' (first | (with_reducible exact Below.refl _ _) | (with_reducible assumption) | (with_reducible refine Below.alloc ?_ ?_ _) | (with_reducible refine below_drewN ?_ _) | (with_reducible refine Below.drew ?_) | (with_reducible refine Below.setCell ?_ ?_ _) | (with_reducible refine below_via (by assumption) ?_ ?_) | (with_reducible refine below_via (later_below _) ?_ ?_) | (with_reducible exact Nat.le_refl _) | omega | (simp; omega) | (simp; done)))
end
end Go.Proofs.YtplphejillkdeaaGreatDoor

/- The program's formStat for every kind; an expression's tests: has, subject, Multi. -/
namespace Go.Proofs.YtplphejillkdeaaGreatDoor
open Go.RowKit Go.Instr
set_option linter.unusedVariables false

set_option maxHeartbeats 3200000 in
set_option maxRecDepth 100000 in
theorem form_out (s : TS) (last : Bool) (w : World) (hk : s.k < 1 ∨ 14 < s.k) : Calls Tryz.prog 77 #[s.v, .bool last] w fun e w' => e = .returned (.bool (fsB s last)) ∧ Below w.heap.size w w' := by
  have hF : fsB s last = false := by unfold fsB; repeat (rw [if_neg (by omega)])
  rw [hF]
  clear hF
  have d1 : (s.k == 1) = false := by simp; omega
  have d2 : (s.k == 2) = false := by simp; omega
  have d3 : (s.k == 3) = false := by simp; omega
  have d4 : (s.k == 4) = false := by simp; omega
  have d5 : (s.k == 5) = false := by simp; omega
  have d6 : (s.k == 6) = false := by simp; omega
  have d7 : (s.k == 7) = false := by simp; omega
  have d8 : (s.k == 8) = false := by simp; omega
  have d9 : (s.k == 9) = false := by simp; omega
  have d10 : (s.k == 10) = false := by simp; omega
  have d11 : (s.k == 11) = false := by simp; omega
  have d12 : (s.k == 12) = false := by simp; omega
  have d13 : (s.k == 13) = false := by simp; omega
  have d14 : (s.k == 14) = false := by simp; omega
  clear hk
  go_enter Tryz.func77, Tryz.ntmps77
  go_wp2_with fail
  go_returns
  exact ⟨rfl, by (repeat' (first | (with_reducible exact Below.refl _ _) | (with_reducible assumption) | (with_reducible refine Below.alloc ?_ ?_ _) | (with_reducible refine below_drewN ?_ _) | (with_reducible refine Below.drew ?_) | (with_reducible refine Below.setCell ?_ ?_ _) | (with_reducible refine below_via (by assumption) ?_ ?_) | (with_reducible refine below_via (later_below _) ?_ ?_) | (with_reducible exact Nat.le_refl _) | omega | (simp; omega) | (simp; done)))⟩
theorem formStat_any (s : TS) (last : Bool) (w : World) (hin : InS w w.heap.size s) : Calls Tryz.prog 77 #[s.v, .bool last] w fun e w' => e = .returned (.bool (fsB s last)) ∧ Below w.heap.size w w' := by
  by_cases h : s.k < 1 ∨ 14 < s.k
  · exact form_out s last w h
  by_cases h1 : s.k = 1
  · exact form1 s last w hin h1
  by_cases h2 : s.k = 2
  · exact form2 s last w hin h2
  by_cases h3 : s.k = 3
  · exact form3 s last w hin h3
  by_cases h4 : s.k = 4
  · exact form4 s last w hin h4
  by_cases h5 : s.k = 5
  · exact form5 s last w h5
  by_cases h6 : s.k = 6
  · exact form6 s last w h6
  by_cases h7 : s.k = 7
  · exact form7 s last w h7
  by_cases h8 : s.k = 8
  · exact form8 s last w hin h8
  by_cases h9 : s.k = 9
  · exact form9 s last w hin h9
  by_cases h10 : s.k = 10
  · exact form10 s last w hin h10
  by_cases h11 : s.k = 11
  · exact form11 s last w h11
  by_cases h12 : s.k = 12
  · exact form12 s last w h12
  by_cases h13 : s.k = 13
  · exact form13 s last w h13
  by_cases h14 : s.k = 14
  · exact form14 s last w h14
  omega

end Go.Proofs.YtplphejillkdeaaGreatDoor
