/- The law ValueOrders holds: for every input it returns true, and each argument reads as it did, where the library's tables read as its text lays them. No other conditions. -/
import Derived.Test.YtpahemohpaaeoaaDoorValAw
import Derived.Test.YtpahemohpaaeoaaDoorValLaw
import Derived.Test.YtpahemohpaaeoaaDoorRatLaw
import Derived.Test.YtpahemohpaaeoaaDoorLaid
import Derived.Test.YtpahemohpaaeoaaDoorCards
import Derived.Test.YtpahemohpaaeoaaDoorTie
namespace Go.Proofs.YtpahemohpaaeoaaDoor.valueOrders
open Go.ChangeShapes Go.WideShapes Go.ChangeAt Go.RowKit Go.Joins
open Go.ChangeMaps (open_string shut_string)
set_option linter.unusedVariables false

theorem long_v (k p q : Int) (s : ByteArray) (r : Int) (w : World) : Calls Tryd.prog 9 #[vV k p q s r] w fun e w' => e = .returned (.bool (decide (4106 < (s.size : Int)))) ∧ Below w.heap.size w w' := by
  go_enter Tryd.func9, Tryd.ntmps9
  go_wp2_with fail
  ((try simp only [Exit.inBlock, Exit.then]); refine bodyPost_ret (by first | (simp [results, Tryd.results9, go_sem, *]; done) | (simp [results, Tryd.results9, go_sem, *]; rfl) | (simp [results, Tryd.results9, go_sem, ↓IntWalk.iteOmega, *]; try rfl)) rfl ?_)
  refine ⟨rfl, ?_⟩
  (repeat' (first | (with_reducible exact Below.refl _ _) | (with_reducible assumption) | (with_reducible refine Below.alloc ?_ ?_ _) | (with_reducible refine below_drewN ?_ _) | (with_reducible refine Below.drew ?_) | (with_reducible refine Below.setCell ?_ ?_ _) | (with_reducible refine below_via (by assumption) ?_ ?_) | (with_reducible refine below_via (later_below _) ?_ ?_) | (with_reducible exact Nat.le_refl _) | omega | (simp; omega) | (simp; done)))

def orderedV (aK aP aQ : Int) (aS : ByteArray) (aR bK bP bQ : Int) (bS : ByteArray) (bR : Int) : Bool := aK == bK && ((aK == 2 || aK == 3) && (validV aK aP aQ aS aR && validV bK bP bQ bS bR))
set_option maxHeartbeats 2000000 in
set_option maxRecDepth 100000 in
theorem ordered_v (k p q : Int) (s : ByteArray) (r k' p' q' : Int) (s' : ByteArray) (r' : Int) (w : World) (hs : s.size ≤ 9223372036854775807) (hs' : s'.size ≤ 9223372036854775807) (hp : -9223372036854775808 ≤ p) (hp2 : p ≤ 9223372036854775807) (hq : -9223372036854775808 ≤ p') (hq2 : p' ≤ 9223372036854775807)
    (h1 : validV k p q s r = true) (h2 : validV k' p' q' s' r' = true) :
    Calls Tryd.prog 23 #[vV k p q s r, vV k' p' q' s' r'] w fun e w' => e = .returned (.bool (k == k' && (k == 2 || k == 3))) ∧ Below w.heap.size w w' := by
  have c1 : Hid (∀ w', Calls Tryd.prog 12 #[vV k p q s r] w' fun e w'' => e = .returned (.bool true) ∧ Below w'.heap.size w' w'') := fun w' => by have h := rvv_v k p q s r w' hs hp hp2; rw [h1] at h; exact h
  have c2 : Hid (∀ w', Calls Tryd.prog 12 #[vV k' p' q' s' r'] w' fun e w'' => e = .returned (.bool true) ∧ Below w'.heap.size w' w'') := fun w' => by have h := rvv_v k' p' q' s' r' w' hs' hq hq2; rw [h2] at h; exact h
  clear h1 h2
  by_cases hk : k = k'
  · subst hk
    by_cases hk2 : k = 2
    · subst hk2
      go_enter Tryd.func23, Tryd.ntmps23
      go_wp2_with (first | (go_at_call 12; (first | (with_reducible refine (c1.out _).mono ?_) | (with_reducible refine (c2.out _).mono ?_)); (rintro e w9 ⟨rfl, hb⟩); (refine mem hb ?_; intro N hN hz hc hf; (try simp at hN); subst hN)))
      ((try simp only [Exit.inBlock, Exit.then]); refine bodyPost_ret (by first | (simp [results, Tryd.results23, go_sem, *]; done) | (simp [results, Tryd.results23, go_sem, *]; rfl) | (simp [results, Tryd.results23, go_sem, ↓IntWalk.iteOmega, *]; try rfl)) rfl ?_)
      refine ⟨rfl, ?_⟩
      (repeat' (first | (with_reducible exact Below.refl _ _) | (with_reducible assumption) | (with_reducible refine Below.alloc ?_ ?_ _) | (with_reducible refine below_drewN ?_ _) | (with_reducible refine Below.drew ?_) | (with_reducible refine Below.setCell ?_ ?_ _) | (with_reducible refine below_via (by assumption) ?_ ?_) | (with_reducible refine below_via (later_below _) ?_ ?_) | (with_reducible exact Nat.le_refl _) | omega | (simp; omega) | (simp; done)))
    · by_cases hk3 : k = 3
      · subst hk3
        go_enter Tryd.func23, Tryd.ntmps23
        go_wp2_with (first | (go_at_call 12; (first | (with_reducible refine (c1.out _).mono ?_) | (with_reducible refine (c2.out _).mono ?_)); (rintro e w9 ⟨rfl, hb⟩); (refine mem hb ?_; intro N hN hz hc hf; (try simp at hN); subst hN)))
        ((try simp only [Exit.inBlock, Exit.then]); refine bodyPost_ret (by first | (simp [results, Tryd.results23, go_sem, *]; done) | (simp [results, Tryd.results23, go_sem, *]; rfl) | (simp [results, Tryd.results23, go_sem, ↓IntWalk.iteOmega, *]; try rfl)) rfl ?_)
        refine ⟨rfl, ?_⟩
        (repeat' (first | (with_reducible exact Below.refl _ _) | (with_reducible assumption) | (with_reducible refine Below.alloc ?_ ?_ _) | (with_reducible refine below_drewN ?_ _) | (with_reducible refine Below.drew ?_) | (with_reducible refine Below.setCell ?_ ?_ _) | (with_reducible refine below_via (by assumption) ?_ ?_) | (with_reducible refine below_via (later_below _) ?_ ?_) | (with_reducible exact Nat.le_refl _) | omega | (simp; omega) | (simp; done)))
      · have e2 : (k == 2) = false := by simpa using hk2
        have e3 : (k == 3) = false := by simpa using hk3
        have er : (k == k && (k == 2 || k == 3)) = false := by rw [e2, e3]; simp
        rw [er]; clear er
        go_enter Tryd.func23, Tryd.ntmps23
        go_wp2_with fail
        ((try simp only [Exit.inBlock, Exit.then]); refine bodyPost_ret (by first | (simp [results, Tryd.results23, go_sem, *]; done) | (simp [results, Tryd.results23, go_sem, *]; rfl) | (simp [results, Tryd.results23, go_sem, ↓IntWalk.iteOmega, *]; try rfl)) rfl ?_)
        refine ⟨rfl, ?_⟩
        (repeat' (first | (with_reducible exact Below.refl _ _) | (with_reducible assumption) | (with_reducible refine Below.alloc ?_ ?_ _) | (with_reducible refine below_drewN ?_ _) | (with_reducible refine Below.drew ?_) | (with_reducible refine Below.setCell ?_ ?_ _) | (with_reducible refine below_via (by assumption) ?_ ?_) | (with_reducible refine below_via (later_below _) ?_ ?_) | (with_reducible exact Nat.le_refl _) | omega | (simp; omega) | (simp; done)))
  · have e1 : (k == k') = false := by simpa using hk
    have er : (k == k' && (k == 2 || k == 3)) = false := by rw [e1]; simp
    rw [er]; clear er
    go_enter Tryd.func23, Tryd.ntmps23
    go_wp2_with fail
    ((try simp only [Exit.inBlock, Exit.then]); refine bodyPost_ret (by first | (simp [results, Tryd.results23, go_sem, *]; done) | (simp [results, Tryd.results23, go_sem, *]; rfl) | (simp [results, Tryd.results23, go_sem, ↓IntWalk.iteOmega, *]; try rfl)) rfl ?_)
    refine ⟨rfl, ?_⟩
    (repeat' (first | (with_reducible exact Below.refl _ _) | (with_reducible assumption) | (with_reducible refine Below.alloc ?_ ?_ _) | (with_reducible refine below_drewN ?_ _) | (with_reducible refine Below.drew ?_) | (with_reducible refine Below.setCell ?_ ?_ _) | (with_reducible refine below_via (by assumption) ?_ ?_) | (with_reducible refine below_via (later_below _) ?_ ?_) | (with_reducible exact Nat.le_refl _) | omega | (simp; omega) | (simp; done)))

theorem bl_irr : ∀ x : List UInt8, Op.bytesLess x x = false
  | [] => rfl
  | a :: x => by simp [Op.bytesLess, bl_irr x]
theorem bl_tri : ∀ x y : List UInt8, (Op.bytesLess x y = true ∧ Op.bytesLess y x = false ∧ x ≠ y) ∨ (Op.bytesLess x y = false ∧ Op.bytesLess y x = true ∧ x ≠ y) ∨ (Op.bytesLess x y = false ∧ Op.bytesLess y x = false ∧ x = y)
  | [], [] => by simp [Op.bytesLess]
  | [], b :: y => by simp [Op.bytesLess]
  | a :: x, [] => by simp [Op.bytesLess]
  | a :: x, b :: y => by
    have ih := bl_tri x y
    rcases Nat.lt_trichotomy a.toNat b.toNat with h | h | h
    · have h1 : a < b := UInt8.lt_iff_toNat_lt.2 h
      have h2 : ¬ b < a := fun k => by have := UInt8.lt_iff_toNat_lt.1 k; omega
      have h3 : ¬ a = b := fun k => by rw [k] at h; omega
      have h4 : ¬ b = a := fun k => h3 k.symm
      left
      simp [Op.bytesLess, h1, h2, h3, h4]
    · obtain rfl : a = b := UInt8.toNat_inj.1 h
      have h2 : ¬ a < a := fun k => by have := UInt8.lt_iff_toNat_lt.1 k; omega
      simpa [Op.bytesLess, h2] using ih
    · have h1 : b < a := UInt8.lt_iff_toNat_lt.2 h
      have h2 : ¬ a < b := fun k => by have := UInt8.lt_iff_toNat_lt.1 k; omega
      have h3 : ¬ a = b := fun k => by rw [k] at h; omega
      right; left
      simp [Op.bytesLess, h1, h2, h3]
theorem bl_trans : ∀ x y z : List UInt8, Op.bytesLess x y = true → Op.bytesLess y z = true → Op.bytesLess x z = true
  | x, y, [], _, h2 => by cases y <;> simp [Op.bytesLess] at h2
  | x, [], c :: z, h1, _ => by cases x <;> simp [Op.bytesLess] at h1
  | [], b :: y, c :: z, _, _ => rfl
  | a :: x, b :: y, c :: z, h1, h2 => by
    simp only [Op.bytesLess, Bool.or_eq_true, decide_eq_true_eq, Bool.and_eq_true, beq_iff_eq] at h1 h2 ⊢
    rcases h1 with h1 | ⟨rfl, h1⟩
    · rcases h2 with h2 | ⟨rfl, h2⟩
      · left
        rw [UInt8.lt_iff_toNat_lt] at h1 h2 ⊢
        omega
      · left; exact h1
    · rcases h2 with h2 | ⟨rfl, h2⟩
      · left; exact h2
      · right; exact ⟨rfl, bl_trans x y z h1 h2⟩
theorem toList_inj {s t : ByteArray} : s.toList = t.toList ↔ s = t := by
  rw [Lib.toList_data, Lib.toList_data]
  constructor
  · intro h
    cases s; cases t
    congr 1
    exact Array.toList_inj.1 h
  · rintro rfl; rfl

theorem valid_num {p q : Int} {s : ByteArray} {r : Int} (h : validV 2 p q s r = true) : vldB p q = true ∧ s.toList = [] ∧ r = 0 := by
  have e : validV 2 p q s r = (vldB p q && (s.toList.isEmpty && r == 0)) := rfl
  rw [e] at h
  simpa using h
theorem valid_st {p q : Int} {s : ByteArray} {r : Int} (h : validV 3 p q s r = true) : p = 0 ∧ q = 0 ∧ r = 0 := by
  have e : validV 3 p q s r = (decide (s.size ≤ 4096) && (p == 0 && (q == 0 && r == 0))) := rfl
  rw [e] at h
  simp at h
  exact ⟨h.2.1, h.2.2.1, h.2.2.2⟩

/-- What Less answers for valid values that are ordered. -/
theorem order_facts {aK aP aQ : Int} {aS : ByteArray} {aR bK bP bQ : Int} {bS : ByteArray} {bR cK cP cQ : Int} {cS : ByteArray} {cR : Int} (h1 : validV aK aP aQ aS aR = true) (h2 : validV bK bP bQ bS bR = true) (h3 : validV cK cP cQ cS cR = true) (hk : aK = bK) (ho : aK = 2 ∨ aK = 3) :
    ∃ X Y M Z W : Bool, lessV aK aP aQ aS bK bP bQ bS = (X, 0) ∧ lessV bK bP bQ bS aK aP aQ aS = (Y, 0) ∧ sameV aK aP aQ aS aR bK bP bQ bS bR = M ∧ (lessV bK bP bQ bS cK cP cQ cS).1 = Z ∧ (lessV aK aP aQ aS cK cP cQ cS).1 = W ∧
      ((X = true ∧ Y = false ∧ M = false) ∨ (X = false ∧ Y = true ∧ M = false) ∨ (X = false ∧ Y = false ∧ M = true)) ∧ (X = false ∨ Z = false ∨ W = true) := by
  subst hk
  rcases ho with rfl | rfl
  · obtain ⟨v1, s1, r1⟩ := valid_num h1
    obtain ⟨v2, s2, r2⟩ := valid_num h2
    have e1 : lessV 2 aP aQ aS 2 bP bQ bS = (decide (cmpT aP aQ bP bQ < 0), 0) := by unfold lessV; rw [if_pos ⟨rfl, rfl, v1, v2⟩]
    have e2 : lessV 2 bP bQ bS 2 aP aQ aS = (decide (cmpT bP bQ aP aQ < 0), 0) := by unfold lessV; rw [if_pos ⟨rfl, rfl, v2, v1⟩]
    have hm : sameV 2 aP aQ aS aR 2 bP bQ bS bR = decide (cmpT aP aQ bP bQ = 0) := by
      unfold sameV
      rw [s1, s2, r1, r2, Bool.eq_iff_iff]
      have := (ord_eq_T v1 v2).1
      simp [this]
    have ha := cmp_anti_T aP aQ bP bQ
    refine ⟨_, _, _, _, _, e1, e2, hm, rfl, rfl, ?_, ?_⟩
    · rcases Int.lt_trichotomy (cmpT aP aQ bP bQ) 0 with h | h | h
      · left; refine ⟨by simpa using h, by simp; omega, by simp; omega⟩
      · right; right; refine ⟨by simp; omega, by simp; omega, by simpa using h⟩
      · right; left; refine ⟨by simp; omega, by simp; omega, by simp; omega⟩
    · by_cases hx : cmpT aP aQ bP bQ < 0
      · by_cases hc : cK = 2
        · subst hc
          obtain ⟨v3, s3, r3⟩ := valid_num h3
          have e3 : lessV 2 bP bQ bS 2 cP cQ cS = (decide (cmpT bP bQ cP cQ < 0), 0) := by unfold lessV; rw [if_pos ⟨rfl, rfl, v2, v3⟩]
          have e4 : lessV 2 aP aQ aS 2 cP cQ cS = (decide (cmpT aP aQ cP cQ < 0), 0) := by unfold lessV; rw [if_pos ⟨rfl, rfl, v1, v3⟩]
          rw [e3, e4]
          by_cases hz : cmpT bP bQ cP cQ < 0
          · right; right
            rw [cmpT_R v1 v2] at hx
            rw [cmpT_R v2 v3] at hz
            have h12 : Rat.divInt aP aQ < Rat.divInt bP bQ := by rcases cmpR_cases (Rat.divInt aP aQ) (Rat.divInt bP bQ) with h | h | h <;> first | exact h.2 | omega
            have h23 : Rat.divInt bP bQ < Rat.divInt cP cQ := by rcases cmpR_cases (Rat.divInt bP bQ) (Rat.divInt cP cQ) with h | h | h <;> first | exact h.2 | omega
            simp only [decide_eq_true_eq]
            rw [cmpT_R v1 v3, cmpR_of_lt (Std.lt_trans h12 h23)]
            omega
          · right; left; simp only [decide_eq_false_iff_not]; exact hz
        · right; left
          unfold lessV
          rw [if_neg (fun h => hc h.2.1), if_neg (fun h => by have := h.1; omega)]
      · left; simp only [decide_eq_false_iff_not]; exact hx
  · obtain ⟨p1, q1, r1⟩ := valid_st h1
    obtain ⟨p2, q2, r2⟩ := valid_st h2
    have e : ∀ (P Q P' Q' : Int) (S T : ByteArray), lessV 3 P Q S 3 P' Q' T = (Op.bytesLess S.toList T.toList, 0) := fun P Q P' Q' S T => by unfold lessV; rw [if_neg (by omega), if_pos ⟨rfl, rfl⟩]
    have hm : sameV 3 aP aQ aS aR 3 bP bQ bS bR = decide (aS.toList = bS.toList) := by
      unfold sameV
      rw [p1, q1, r1, p2, q2, r2, Bool.eq_iff_iff]
      simp
    refine ⟨_, _, _, _, _, e _ _ _ _ _ _, e _ _ _ _ _ _, hm, rfl, rfl, ?_, ?_⟩
    · rcases bl_tri aS.toList bS.toList with ⟨h, h', h''⟩ | ⟨h, h', h''⟩ | ⟨h, h', h''⟩
      · left; exact ⟨h, h', by simpa using h''⟩
      · right; left; exact ⟨h, h', by simpa using h''⟩
      · right; right; exact ⟨h, h', by simpa using h''⟩
    · by_cases hc : cK = 3
      · subst hc
        rw [e, e]
        cases hx : Op.bytesLess aS.toList bS.toList
        · left; rfl
        · cases hz : Op.bytesLess bS.toList cS.toList
          · right; left; rfl
          · right; right; exact bl_trans _ _ _ hx hz
      · right; left
        unfold lessV
        rw [if_neg (by omega), if_neg (fun h => hc h.2)]
theorem order_not {aK aP aQ : Int} {aS : ByteArray} {aR bK bP bQ : Int} {bS : ByteArray} {bR : Int} (ho : (aK == bK && (aK == 2 || aK == 3)) = false) : lessV aK aP aQ aS bK bP bQ bS = (false, 8) ∧ lessV bK bP bQ bS aK aP aQ aS = (false, 8) := by
  have h : ¬ (aK = bK ∧ (aK = 2 ∨ aK = 3)) := by
    intro ⟨h, h'⟩
    subst h
    rcases h' with rfl | rfl <;> simp at ho
  unfold lessV
  refine ⟨?_, ?_⟩
  · rw [if_neg (fun k => h ⟨by omega, by omega⟩), if_neg (fun k => h ⟨by omega, by omega⟩)]
  · rw [if_neg (fun k => h ⟨by omega, by omega⟩), if_neg (fun k => h ⟨by omega, by omega⟩)]
theorem or6 (a b c d e f : Bool) : a = true ∨ (a = false ∧ b = true) ∨ (a = false ∧ b = false ∧ c = true) ∨ (a = false ∧ b = false ∧ c = false ∧ d = false) ∨ (a = false ∧ b = false ∧ c = false ∧ d = true ∧ e = false) ∨ (a = false ∧ b = false ∧ c = false ∧ d = true ∧ e = true ∧ f = false) ∨ (a = false ∧ b = false ∧ c = false ∧ d = true ∧ e = true ∧ f = true) := by
  cases a <;> cases b <;> cases c <;> cases d <;> cases e <;> cases f <;> simp

set_option maxHeartbeats 4000000 in
set_option maxRecDepth 100000 in
theorem walk (aK aP aQ : Int) (aS : ByteArray) (aR : Int) (waK : (Lit.int .i64 aK).wf = true) (waP : (Lit.int .i64 aP).wf = true) (waQ : (Lit.int .i64 aQ).wf = true) (waS : aS.size ≤ maxLen) (waR : (Lit.int .i64 aR).wf = true) (bK bP bQ : Int) (bS : ByteArray) (bR : Int) (wbK : (Lit.int .i64 bK).wf = true) (wbP : (Lit.int .i64 bP).wf = true) (wbQ : (Lit.int .i64 bQ).wf = true) (wbS : bS.size ≤ maxLen) (wbR : (Lit.int .i64 bR).wf = true) (cK cP cQ : Int) (cS : ByteArray) (cR : Int) (wcK : (Lit.int .i64 cK).wf = true) (wcP : (Lit.int .i64 cP).wf = true) (wcQ : (Lit.int .i64 cQ).wf = true) (wcS : cS.size ≤ maxLen) (wcR : (Lit.int .i64 cR).wf = true) (w : World) (hT : Tabs w) :
    Calls Tryd.prog 5 #[vV aK aP aQ aS aR, vV bK bP bQ bS bR, vV cK cP cQ cS cR] w fun e w' => e = .returned (.bool true) ∧ Below w.heap.size w w' := by
  obtain ⟨ak1, ak2⟩ := bounds_i64 waK
  obtain ⟨ap1, ap2⟩ := bounds_i64 waP
  obtain ⟨ar1, ar2⟩ := bounds_i64 waR
  have asz : aS.size ≤ 9223372036854775807 := by unfold maxLen at waS; omega
  obtain ⟨bk1, bk2⟩ := bounds_i64 wbK
  obtain ⟨bp1, bp2⟩ := bounds_i64 wbP
  obtain ⟨br1, br2⟩ := bounds_i64 wbR
  have bsz : bS.size ≤ 9223372036854775807 := by unfold maxLen at wbS; omega
  obtain ⟨ck1, ck2⟩ := bounds_i64 wcK
  obtain ⟨cp1, cp2⟩ := bounds_i64 wcP
  obtain ⟨cr1, cr2⟩ := bounds_i64 wcR
  have csz : cS.size ≤ 9223372036854775807 := by unfold maxLen at wcS; omega
  have HT := Lib.hid hT
  clear hT
  have HW : Hid (∀ w', Tabs w' → Calls Tryd.prog 10 #[] w' fun e w'' => e = .returned (.bool true) ∧ Below w'.heap.size w' w'') := fun w' hT' => awake_any w' hT'
  have HLOa : Hid (∀ w', Calls Tryd.prog 9 #[vV aK aP aQ aS aR] w' fun e w'' => e = .returned (.bool (decide (4106 < (aS.size : Int)))) ∧ Below w'.heap.size w' w'') := fun w' => long_v _ _ _ _ _ w'
  have HLOb : Hid (∀ w', Calls Tryd.prog 9 #[vV bK bP bQ bS bR] w' fun e w'' => e = .returned (.bool (decide (4106 < (bS.size : Int)))) ∧ Below w'.heap.size w' w'') := fun w' => long_v _ _ _ _ _ w'
  have HLOc : Hid (∀ w', Calls Tryd.prog 9 #[vV cK cP cQ cS cR] w' fun e w'' => e = .returned (.bool (decide (4106 < (cS.size : Int)))) ∧ Below w'.heap.size w' w'') := fun w' => long_v _ _ _ _ _ w'
  have HVa : Hid (∀ w', Calls Tryd.prog 11 #[vV aK aP aQ aS aR] w' fun e w'' => e = .returned (.bool (validV aK aP aQ aS aR)) ∧ Below w'.heap.size w' w'') := fun w' => valid_v _ _ _ _ _ w' asz ap1 ap2
  have HVb : Hid (∀ w', Calls Tryd.prog 11 #[vV bK bP bQ bS bR] w' fun e w'' => e = .returned (.bool (validV bK bP bQ bS bR)) ∧ Below w'.heap.size w' w'') := fun w' => valid_v _ _ _ _ _ w' bsz bp1 bp2
  have HVc : Hid (∀ w', Calls Tryd.prog 11 #[vV cK cP cQ cS cR] w' fun e w'' => e = .returned (.bool (validV cK cP cQ cS cR)) ∧ Below w'.heap.size w' w'') := fun w' => valid_v _ _ _ _ _ w' csz cp1 cp2
  obtain ⟨la, hla⟩ : ∃ x, decide (4106 < (aS.size : Int)) = x := ⟨_, rfl⟩
  obtain ⟨lb, hlb⟩ : ∃ x, decide (4106 < (bS.size : Int)) = x := ⟨_, rfl⟩
  obtain ⟨lc, hlc⟩ : ∃ x, decide (4106 < (cS.size : Int)) = x := ⟨_, rfl⟩
  obtain ⟨va, hva⟩ : ∃ x, validV aK aP aQ aS aR = x := ⟨_, rfl⟩
  obtain ⟨vb, hvb⟩ : ∃ x, validV bK bP bQ bS bR = x := ⟨_, rfl⟩
  obtain ⟨vc, hvc⟩ : ∃ x, validV cK cP cQ cS cR = x := ⟨_, rfl⟩
  rw [hla] at HLOa
  rw [hlb] at HLOb
  rw [hlc] at HLOc
  rw [hva] at HVa
  rw [hvb] at HVb
  rw [hvc] at HVc
  have HVA := Lib.hid hva
  have HVB := Lib.hid hvb
  have HVC := Lib.hid hvc
  clear hla hlb hlc hva hvb hvc
  have hcs := or6 la lb lc va vb vc
  rcases hcs with rfl | ⟨rfl, rfl⟩ | ⟨rfl, rfl, rfl⟩ | ⟨rfl, rfl, rfl, rfl⟩ | ⟨rfl, rfl, rfl, rfl, rfl⟩ | ⟨rfl, rfl, rfl, rfl, rfl, rfl⟩ | ⟨rfl, rfl, rfl, rfl, rfl, rfl⟩
  · go_enter Tryd.func5, Tryd.ntmps5
    go_wp2_with (first | (go_at_call 9; (first | (with_reducible refine (HLOa.out _).mono ?_) | (with_reducible refine (HLOb.out _).mono ?_) | (with_reducible refine (HLOc.out _).mono ?_)); (rintro e w9 ⟨rfl, hb⟩); (refine mem hb ?_; intro N hN hz hc hf; (try simp at hN); subst hN)) | (go_at_call 11; (first | (with_reducible refine (HVa.out _).mono ?_) | (with_reducible refine (HVb.out _).mono ?_) | (with_reducible refine (HVc.out _).mono ?_)); (rintro e w9 ⟨rfl, hb⟩); (refine mem hb ?_; intro N hN hz hc hf; (try simp at hN); subst hN)) | (go_at_call 10; refine (HW.out _ (HT.out.later ?_)).mono ?_; (focus ((repeat' (first | (with_reducible exact Below.refl _ _) | (with_reducible assumption) | (with_reducible refine Below.alloc ?_ ?_ _) | (with_reducible refine below_drewN ?_ _) | (with_reducible refine Below.drew ?_) | (with_reducible refine Below.setCell ?_ ?_ _) | (with_reducible refine below_via (by assumption) ?_ ?_) | (with_reducible refine below_via (later_below _) ?_ ?_) | (with_reducible exact Nat.le_refl _) | omega | (simp; omega) | (simp; done))))); rintro e w9 ⟨rfl, hb⟩; (refine mem hb ?_; intro N hN hz hc hf; (try simp at hN); subst hN)))
    ((try simp only [Exit.inBlock, Exit.then]); refine bodyPost_ret (by first | (simp [results, Tryd.results5, go_sem, *]; done) | (simp [results, Tryd.results5, go_sem, *]; rfl) | (simp [results, Tryd.results5, go_sem, ↓IntWalk.iteOmega, *]; try rfl)) rfl ?_)
    refine ⟨rfl, ?_⟩
    (repeat' (first | (with_reducible exact Below.refl _ _) | (with_reducible assumption) | (with_reducible refine Below.alloc ?_ ?_ _) | (with_reducible refine below_drewN ?_ _) | (with_reducible refine Below.drew ?_) | (with_reducible refine Below.setCell ?_ ?_ _) | (with_reducible refine below_via (by assumption) ?_ ?_) | (with_reducible refine below_via (later_below _) ?_ ?_) | (with_reducible exact Nat.le_refl _) | omega | (simp; omega) | (simp; done)))
  · go_enter Tryd.func5, Tryd.ntmps5
    go_wp2_with (first | (go_at_call 9; (first | (with_reducible refine (HLOa.out _).mono ?_) | (with_reducible refine (HLOb.out _).mono ?_) | (with_reducible refine (HLOc.out _).mono ?_)); (rintro e w9 ⟨rfl, hb⟩); (refine mem hb ?_; intro N hN hz hc hf; (try simp at hN); subst hN)) | (go_at_call 11; (first | (with_reducible refine (HVa.out _).mono ?_) | (with_reducible refine (HVb.out _).mono ?_) | (with_reducible refine (HVc.out _).mono ?_)); (rintro e w9 ⟨rfl, hb⟩); (refine mem hb ?_; intro N hN hz hc hf; (try simp at hN); subst hN)) | (go_at_call 10; refine (HW.out _ (HT.out.later ?_)).mono ?_; (focus ((repeat' (first | (with_reducible exact Below.refl _ _) | (with_reducible assumption) | (with_reducible refine Below.alloc ?_ ?_ _) | (with_reducible refine below_drewN ?_ _) | (with_reducible refine Below.drew ?_) | (with_reducible refine Below.setCell ?_ ?_ _) | (with_reducible refine below_via (by assumption) ?_ ?_) | (with_reducible refine below_via (later_below _) ?_ ?_) | (with_reducible exact Nat.le_refl _) | omega | (simp; omega) | (simp; done))))); rintro e w9 ⟨rfl, hb⟩; (refine mem hb ?_; intro N hN hz hc hf; (try simp at hN); subst hN)))
    ((try simp only [Exit.inBlock, Exit.then]); refine bodyPost_ret (by first | (simp [results, Tryd.results5, go_sem, *]; done) | (simp [results, Tryd.results5, go_sem, *]; rfl) | (simp [results, Tryd.results5, go_sem, ↓IntWalk.iteOmega, *]; try rfl)) rfl ?_)
    refine ⟨rfl, ?_⟩
    (repeat' (first | (with_reducible exact Below.refl _ _) | (with_reducible assumption) | (with_reducible refine Below.alloc ?_ ?_ _) | (with_reducible refine below_drewN ?_ _) | (with_reducible refine Below.drew ?_) | (with_reducible refine Below.setCell ?_ ?_ _) | (with_reducible refine below_via (by assumption) ?_ ?_) | (with_reducible refine below_via (later_below _) ?_ ?_) | (with_reducible exact Nat.le_refl _) | omega | (simp; omega) | (simp; done)))
  · go_enter Tryd.func5, Tryd.ntmps5
    go_wp2_with (first | (go_at_call 9; (first | (with_reducible refine (HLOa.out _).mono ?_) | (with_reducible refine (HLOb.out _).mono ?_) | (with_reducible refine (HLOc.out _).mono ?_)); (rintro e w9 ⟨rfl, hb⟩); (refine mem hb ?_; intro N hN hz hc hf; (try simp at hN); subst hN)) | (go_at_call 11; (first | (with_reducible refine (HVa.out _).mono ?_) | (with_reducible refine (HVb.out _).mono ?_) | (with_reducible refine (HVc.out _).mono ?_)); (rintro e w9 ⟨rfl, hb⟩); (refine mem hb ?_; intro N hN hz hc hf; (try simp at hN); subst hN)) | (go_at_call 10; refine (HW.out _ (HT.out.later ?_)).mono ?_; (focus ((repeat' (first | (with_reducible exact Below.refl _ _) | (with_reducible assumption) | (with_reducible refine Below.alloc ?_ ?_ _) | (with_reducible refine below_drewN ?_ _) | (with_reducible refine Below.drew ?_) | (with_reducible refine Below.setCell ?_ ?_ _) | (with_reducible refine below_via (by assumption) ?_ ?_) | (with_reducible refine below_via (later_below _) ?_ ?_) | (with_reducible exact Nat.le_refl _) | omega | (simp; omega) | (simp; done))))); rintro e w9 ⟨rfl, hb⟩; (refine mem hb ?_; intro N hN hz hc hf; (try simp at hN); subst hN)))
    ((try simp only [Exit.inBlock, Exit.then]); refine bodyPost_ret (by first | (simp [results, Tryd.results5, go_sem, *]; done) | (simp [results, Tryd.results5, go_sem, *]; rfl) | (simp [results, Tryd.results5, go_sem, ↓IntWalk.iteOmega, *]; try rfl)) rfl ?_)
    refine ⟨rfl, ?_⟩
    (repeat' (first | (with_reducible exact Below.refl _ _) | (with_reducible assumption) | (with_reducible refine Below.alloc ?_ ?_ _) | (with_reducible refine below_drewN ?_ _) | (with_reducible refine Below.drew ?_) | (with_reducible refine Below.setCell ?_ ?_ _) | (with_reducible refine below_via (by assumption) ?_ ?_) | (with_reducible refine below_via (later_below _) ?_ ?_) | (with_reducible exact Nat.le_refl _) | omega | (simp; omega) | (simp; done)))
  · go_enter Tryd.func5, Tryd.ntmps5
    go_wp2_with (first | (go_at_call 9; (first | (with_reducible refine (HLOa.out _).mono ?_) | (with_reducible refine (HLOb.out _).mono ?_) | (with_reducible refine (HLOc.out _).mono ?_)); (rintro e w9 ⟨rfl, hb⟩); (refine mem hb ?_; intro N hN hz hc hf; (try simp at hN); subst hN)) | (go_at_call 11; (first | (with_reducible refine (HVa.out _).mono ?_) | (with_reducible refine (HVb.out _).mono ?_) | (with_reducible refine (HVc.out _).mono ?_)); (rintro e w9 ⟨rfl, hb⟩); (refine mem hb ?_; intro N hN hz hc hf; (try simp at hN); subst hN)) | (go_at_call 10; refine (HW.out _ (HT.out.later ?_)).mono ?_; (focus ((repeat' (first | (with_reducible exact Below.refl _ _) | (with_reducible assumption) | (with_reducible refine Below.alloc ?_ ?_ _) | (with_reducible refine below_drewN ?_ _) | (with_reducible refine Below.drew ?_) | (with_reducible refine Below.setCell ?_ ?_ _) | (with_reducible refine below_via (by assumption) ?_ ?_) | (with_reducible refine below_via (later_below _) ?_ ?_) | (with_reducible exact Nat.le_refl _) | omega | (simp; omega) | (simp; done))))); rintro e w9 ⟨rfl, hb⟩; (refine mem hb ?_; intro N hN hz hc hf; (try simp at hN); subst hN)))
    ((try simp only [Exit.inBlock, Exit.then]); refine bodyPost_ret (by first | (simp [results, Tryd.results5, go_sem, *]; done) | (simp [results, Tryd.results5, go_sem, *]; rfl) | (simp [results, Tryd.results5, go_sem, ↓IntWalk.iteOmega, *]; try rfl)) rfl ?_)
    refine ⟨rfl, ?_⟩
    (repeat' (first | (with_reducible exact Below.refl _ _) | (with_reducible assumption) | (with_reducible refine Below.alloc ?_ ?_ _) | (with_reducible refine below_drewN ?_ _) | (with_reducible refine Below.drew ?_) | (with_reducible refine Below.setCell ?_ ?_ _) | (with_reducible refine below_via (by assumption) ?_ ?_) | (with_reducible refine below_via (later_below _) ?_ ?_) | (with_reducible exact Nat.le_refl _) | omega | (simp; omega) | (simp; done)))
  · go_enter Tryd.func5, Tryd.ntmps5
    go_wp2_with (first | (go_at_call 9; (first | (with_reducible refine (HLOa.out _).mono ?_) | (with_reducible refine (HLOb.out _).mono ?_) | (with_reducible refine (HLOc.out _).mono ?_)); (rintro e w9 ⟨rfl, hb⟩); (refine mem hb ?_; intro N hN hz hc hf; (try simp at hN); subst hN)) | (go_at_call 11; (first | (with_reducible refine (HVa.out _).mono ?_) | (with_reducible refine (HVb.out _).mono ?_) | (with_reducible refine (HVc.out _).mono ?_)); (rintro e w9 ⟨rfl, hb⟩); (refine mem hb ?_; intro N hN hz hc hf; (try simp at hN); subst hN)) | (go_at_call 10; refine (HW.out _ (HT.out.later ?_)).mono ?_; (focus ((repeat' (first | (with_reducible exact Below.refl _ _) | (with_reducible assumption) | (with_reducible refine Below.alloc ?_ ?_ _) | (with_reducible refine below_drewN ?_ _) | (with_reducible refine Below.drew ?_) | (with_reducible refine Below.setCell ?_ ?_ _) | (with_reducible refine below_via (by assumption) ?_ ?_) | (with_reducible refine below_via (later_below _) ?_ ?_) | (with_reducible exact Nat.le_refl _) | omega | (simp; omega) | (simp; done))))); rintro e w9 ⟨rfl, hb⟩; (refine mem hb ?_; intro N hN hz hc hf; (try simp at hN); subst hN)))
    ((try simp only [Exit.inBlock, Exit.then]); refine bodyPost_ret (by first | (simp [results, Tryd.results5, go_sem, *]; done) | (simp [results, Tryd.results5, go_sem, *]; rfl) | (simp [results, Tryd.results5, go_sem, ↓IntWalk.iteOmega, *]; try rfl)) rfl ?_)
    refine ⟨rfl, ?_⟩
    (repeat' (first | (with_reducible exact Below.refl _ _) | (with_reducible assumption) | (with_reducible refine Below.alloc ?_ ?_ _) | (with_reducible refine below_drewN ?_ _) | (with_reducible refine Below.drew ?_) | (with_reducible refine Below.setCell ?_ ?_ _) | (with_reducible refine below_via (by assumption) ?_ ?_) | (with_reducible refine below_via (later_below _) ?_ ?_) | (with_reducible exact Nat.le_refl _) | omega | (simp; omega) | (simp; done)))
  · go_enter Tryd.func5, Tryd.ntmps5
    go_wp2_with (first | (go_at_call 9; (first | (with_reducible refine (HLOa.out _).mono ?_) | (with_reducible refine (HLOb.out _).mono ?_) | (with_reducible refine (HLOc.out _).mono ?_)); (rintro e w9 ⟨rfl, hb⟩); (refine mem hb ?_; intro N hN hz hc hf; (try simp at hN); subst hN)) | (go_at_call 11; (first | (with_reducible refine (HVa.out _).mono ?_) | (with_reducible refine (HVb.out _).mono ?_) | (with_reducible refine (HVc.out _).mono ?_)); (rintro e w9 ⟨rfl, hb⟩); (refine mem hb ?_; intro N hN hz hc hf; (try simp at hN); subst hN)) | (go_at_call 10; refine (HW.out _ (HT.out.later ?_)).mono ?_; (focus ((repeat' (first | (with_reducible exact Below.refl _ _) | (with_reducible assumption) | (with_reducible refine Below.alloc ?_ ?_ _) | (with_reducible refine below_drewN ?_ _) | (with_reducible refine Below.drew ?_) | (with_reducible refine Below.setCell ?_ ?_ _) | (with_reducible refine below_via (by assumption) ?_ ?_) | (with_reducible refine below_via (later_below _) ?_ ?_) | (with_reducible exact Nat.le_refl _) | omega | (simp; omega) | (simp; done))))); rintro e w9 ⟨rfl, hb⟩; (refine mem hb ?_; intro N hN hz hc hf; (try simp at hN); subst hN)))
    ((try simp only [Exit.inBlock, Exit.then]); refine bodyPost_ret (by first | (simp [results, Tryd.results5, go_sem, *]; done) | (simp [results, Tryd.results5, go_sem, *]; rfl) | (simp [results, Tryd.results5, go_sem, ↓IntWalk.iteOmega, *]; try rfl)) rfl ?_)
    refine ⟨rfl, ?_⟩
    (repeat' (first | (with_reducible exact Below.refl _ _) | (with_reducible assumption) | (with_reducible refine Below.alloc ?_ ?_ _) | (with_reducible refine below_drewN ?_ _) | (with_reducible refine Below.drew ?_) | (with_reducible refine Below.setCell ?_ ?_ _) | (with_reducible refine below_via (by assumption) ?_ ?_) | (with_reducible refine below_via (later_below _) ?_ ?_) | (with_reducible exact Nat.le_refl _) | omega | (simp; omega) | (simp; done)))
  · obtain ⟨o, ho⟩ : ∃ o, (aK == bK && (aK == 2 || aK == 3)) = o := ⟨_, rfl⟩
    have HO : Hid (∀ w', Calls Tryd.prog 23 #[vV aK aP aQ aS aR, vV bK bP bQ bS bR] w' fun e w'' => e = .returned (.bool o) ∧ Below w'.heap.size w' w'') := fun w' => by have h := ordered_v aK aP aQ aS aR bK bP bQ bS bR w' asz bsz ap1 ap2 bp1 bp2 HVA.out HVB.out; rw [ho] at h; exact h
    cases o
    · obtain ⟨e1, e2⟩ := order_not (aP := aP) (aQ := aQ) (aS := aS) (aR := aR) (bP := bP) (bQ := bQ) (bS := bS) (bR := bR) ho
      have H1 : Hid (∀ w', Calls Tryd.prog 19 #[vV aK aP aQ aS aR, vV bK bP bQ bS bR] w' fun e w'' => e = .returned (.tuple #[.bool false, .int .i64 8]) ∧ Below w'.heap.size w' w'') := fun w' => by have h := less_v aK aP aQ aS aR bK bP bQ bS bR w' ap1 ap2 bp1 bp2; rw [e1] at h; exact h
      have H2 : Hid (∀ w', Calls Tryd.prog 19 #[vV bK bP bQ bS bR, vV aK aP aQ aS aR] w' fun e w'' => e = .returned (.tuple #[.bool false, .int .i64 8]) ∧ Below w'.heap.size w' w'') := fun w' => by have h := less_v bK bP bQ bS bR aK aP aQ aS aR w' bp1 bp2 ap1 ap2; rw [e2] at h; exact h
      clear e1 e2 ho HVA HVB HVC
      go_enter Tryd.func5, Tryd.ntmps5
      go_wp2_with (first | (go_at_call 9; (first | (with_reducible refine (HLOa.out _).mono ?_) | (with_reducible refine (HLOb.out _).mono ?_) | (with_reducible refine (HLOc.out _).mono ?_)); (rintro e w9 ⟨rfl, hb⟩); (refine mem hb ?_; intro N hN hz hc hf; (try simp at hN); subst hN)) | (go_at_call 11; (first | (with_reducible refine (HVa.out _).mono ?_) | (with_reducible refine (HVb.out _).mono ?_) | (with_reducible refine (HVc.out _).mono ?_)); (rintro e w9 ⟨rfl, hb⟩); (refine mem hb ?_; intro N hN hz hc hf; (try simp at hN); subst hN)) | (go_at_call 19; (first | (with_reducible refine (H1.out _).mono ?_) | (with_reducible refine (H2.out _).mono ?_)); (rintro e w9 ⟨rfl, hb⟩); (refine mem hb ?_; intro N hN hz hc hf; (try simp at hN); subst hN)) | (go_at_call 23; refine (HO.out _).mono ?_; rintro e w9 ⟨rfl, hb⟩; (refine mem hb ?_; intro N hN hz hc hf; (try simp at hN); subst hN)) | (go_at_call 10; refine (HW.out _ (HT.out.later ?_)).mono ?_; (focus ((repeat' (first | (with_reducible exact Below.refl _ _) | (with_reducible assumption) | (with_reducible refine Below.alloc ?_ ?_ _) | (with_reducible refine below_drewN ?_ _) | (with_reducible refine Below.drew ?_) | (with_reducible refine Below.setCell ?_ ?_ _) | (with_reducible refine below_via (by assumption) ?_ ?_) | (with_reducible refine below_via (later_below _) ?_ ?_) | (with_reducible exact Nat.le_refl _) | omega | (simp; omega) | (simp; done))))); rintro e w9 ⟨rfl, hb⟩; (refine mem hb ?_; intro N hN hz hc hf; (try simp at hN); subst hN)))
      ((try simp only [Exit.inBlock, Exit.then]); refine bodyPost_ret (by first | (simp [results, Tryd.results5, go_sem, *]; done) | (simp [results, Tryd.results5, go_sem, *]; rfl) | (simp [results, Tryd.results5, go_sem, ↓IntWalk.iteOmega, *]; try rfl)) rfl ?_)
      refine ⟨rfl, ?_⟩
      (repeat' (first | (with_reducible exact Below.refl _ _) | (with_reducible assumption) | (with_reducible refine Below.alloc ?_ ?_ _) | (with_reducible refine below_drewN ?_ _) | (with_reducible refine Below.drew ?_) | (with_reducible refine Below.setCell ?_ ?_ _) | (with_reducible refine below_via (by assumption) ?_ ?_) | (with_reducible refine below_via (later_below _) ?_ ?_) | (with_reducible exact Nat.le_refl _) | omega | (simp; omega) | (simp; done)))
    · have ho2 : aK = bK ∧ (aK = 2 ∨ aK = 3) := by simpa using ho
      obtain ⟨X, Y, M, Z, W, f1, f2, f3, f4, f5, f6, f7⟩ := order_facts HVA.out HVB.out HVC.out ho2.1 ho2.2
      have H1 : Hid (∀ w', Calls Tryd.prog 19 #[vV aK aP aQ aS aR, vV bK bP bQ bS bR] w' fun e w'' => e = .returned (.tuple #[.bool X, .int .i64 0]) ∧ Below w'.heap.size w' w'') := fun w' => by have h := less_v aK aP aQ aS aR bK bP bQ bS bR w' ap1 ap2 bp1 bp2; rw [f1] at h; exact h
      have H2 : Hid (∀ w', Calls Tryd.prog 19 #[vV bK bP bQ bS bR, vV aK aP aQ aS aR] w' fun e w'' => e = .returned (.tuple #[.bool Y, .int .i64 0]) ∧ Below w'.heap.size w' w'') := fun w' => by have h := less_v bK bP bQ bS bR aK aP aQ aS aR w' bp1 bp2 ap1 ap2; rw [f2] at h; exact h
      have H3 : Hid (∀ w', Calls Tryd.prog 19 #[vV bK bP bQ bS bR, vV cK cP cQ cS cR] w' fun e w'' => e = .returned (.tuple #[.bool Z, .int .i64 (lessV bK bP bQ bS cK cP cQ cS).2]) ∧ Below w'.heap.size w' w'') := fun w' => by have h := less_v bK bP bQ bS bR cK cP cQ cS cR w' bp1 bp2 cp1 cp2; rw [f4] at h; exact h
      have H4 : Hid (∀ w', Calls Tryd.prog 19 #[vV aK aP aQ aS aR, vV cK cP cQ cS cR] w' fun e w'' => e = .returned (.tuple #[.bool W, .int .i64 (lessV aK aP aQ aS cK cP cQ cS).2]) ∧ Below w'.heap.size w' w'') := fun w' => by have h := less_v aK aP aQ aS aR cK cP cQ cS cR w' ap1 ap2 cp1 cp2; rw [f5] at h; exact h
      have H5 : Hid (∀ w', Calls Tryd.prog 21 #[vV aK aP aQ aS aR, vV bK bP bQ bS bR] w' fun e w'' => e = .returned (.bool M) ∧ Below w'.heap.size w' w'') := fun w' => by have h := same_v aK aP aQ aS aR bK bP bQ bS bR w'; rw [f3] at h; exact h
      generalize (lessV bK bP bQ bS cK cP cQ cS).2 = E3 at H3
      generalize (lessV aK aP aQ aS cK cP cQ cS).2 = E4 at H4
      clear f1 f2 f3 f4 f5 ho ho2 HVA HVB HVC
      have f8 : (X = true ∧ Y = false ∧ M = false ∧ (Z = false ∨ (Z = true ∧ W = true))) ∨ (X = false ∧ Y = true ∧ M = false) ∨ (X = false ∧ Y = false ∧ M = true) := by cases X <;> cases Y <;> cases M <;> cases Z <;> cases W <;> simp at f6 f7 ⊢
      clear f6 f7
      rcases f8 with ⟨rfl, rfl, rfl, rfl | ⟨rfl, rfl⟩⟩ | ⟨rfl, rfl, rfl⟩ | ⟨rfl, rfl, rfl⟩
      all_goals
        go_enter Tryd.func5, Tryd.ntmps5
        go_wp2_with (first | (go_at_call 9; (first | (with_reducible refine (HLOa.out _).mono ?_) | (with_reducible refine (HLOb.out _).mono ?_) | (with_reducible refine (HLOc.out _).mono ?_)); (rintro e w9 ⟨rfl, hb⟩); (refine mem hb ?_; intro N hN hz hc hf; (try simp at hN); subst hN)) | (go_at_call 11; (first | (with_reducible refine (HVa.out _).mono ?_) | (with_reducible refine (HVb.out _).mono ?_) | (with_reducible refine (HVc.out _).mono ?_)); (rintro e w9 ⟨rfl, hb⟩); (refine mem hb ?_; intro N hN hz hc hf; (try simp at hN); subst hN)) | (go_at_call 19; (first | (with_reducible refine (H1.out _).mono ?_) | (with_reducible refine (H2.out _).mono ?_) | (with_reducible refine (H3.out _).mono ?_) | (with_reducible refine (H4.out _).mono ?_)); (rintro e w9 ⟨rfl, hb⟩); (refine mem hb ?_; intro N hN hz hc hf; (try simp at hN); subst hN)) | (go_at_call 23; refine (HO.out _).mono ?_; rintro e w9 ⟨rfl, hb⟩; (refine mem hb ?_; intro N hN hz hc hf; (try simp at hN); subst hN)) | (go_at_call 21; refine (H5.out _).mono ?_; rintro e w9 ⟨rfl, hb⟩; (refine mem hb ?_; intro N hN hz hc hf; (try simp at hN); subst hN)) | (go_at_call 10; refine (HW.out _ (HT.out.later ?_)).mono ?_; (focus ((repeat' (first | (with_reducible exact Below.refl _ _) | (with_reducible assumption) | (with_reducible refine Below.alloc ?_ ?_ _) | (with_reducible refine below_drewN ?_ _) | (with_reducible refine Below.drew ?_) | (with_reducible refine Below.setCell ?_ ?_ _) | (with_reducible refine below_via (by assumption) ?_ ?_) | (with_reducible refine below_via (later_below _) ?_ ?_) | (with_reducible exact Nat.le_refl _) | omega | (simp; omega) | (simp; done))))); rintro e w9 ⟨rfl, hb⟩; (refine mem hb ?_; intro N hN hz hc hf; (try simp at hN); subst hN)))
        ((try simp only [Exit.inBlock, Exit.then]); refine bodyPost_ret (by first | (simp [results, Tryd.results5, go_sem, *]; done) | (simp [results, Tryd.results5, go_sem, *]; rfl) | (simp [results, Tryd.results5, go_sem, ↓IntWalk.iteOmega, *]; try rfl)) rfl ?_)
        refine ⟨rfl, ?_⟩
        (repeat' (first | (with_reducible exact Below.refl _ _) | (with_reducible assumption) | (with_reducible refine Below.alloc ?_ ?_ _) | (with_reducible refine below_drewN ?_ _) | (with_reducible refine Below.drew ?_) | (with_reducible refine Below.setCell ?_ ?_ _) | (with_reducible refine below_via (by assumption) ?_ ?_) | (with_reducible refine below_via (later_below _) ?_ ?_) | (with_reducible exact Nat.le_refl _) | omega | (simp; omega) | (simp; done)))

set_option maxRecDepth 100000 in
theorem lifted (os : Os) (started : os.Started) (H : Type) (enc : TypeId × Value → H) :
    ReturnsInHanded {} Tryd.checked os 5 .any (fun w args => (Rows.valueOrdersSpec.pre enc Tryd.prog Tryd.f5 Rows.valueOrdersRow.domain false w args ∧ laidMetH Tryd.prog laidS w) ∧ sizedMet enc Tryd.prog Tryd.f5 (OpenSpec.ofChange Rows.valueOrdersSpec) false w args) (Rows.valueOrdersSpec.post enc Tryd.prog Tryd.f5 false true false false) := by
  refine returnsInHanded_of_change_and (C := Tryd.checked) (X := fun w _ => laidMetH Tryd.prog laidS w) (fun _ _ _ hh h => h.of_heap hh) own started (by kernel_rfl) Tryd.func5
    (ChangeSpec.witness_shaped (enc := enc) (C := Tryd.checked) (os := os) (X := fun w _ => laidMetH Tryd.prog laidS w) false (World.laidAll Tryd.prog os laidS) #[.agg #[.int .i64 0, .int .i64 0, .int .i64 0, .string ⟨#[]⟩, .int .i64 0], .agg #[.int .i64 0, .int .i64 0, .int .i64 0, .string ⟨#[]⟩, .int .i64 0], .agg #[.int .i64 0, .int .i64 0, .int .i64 0, .string ⟨#[]⟩, .int .i64 0]] 8 (World.laidAll_os _ _ _) (start_shaped os) (by kernel_rfl) (by kernel_rfl) (by kernel_rfl) (start_met os _)) ?_
  intro W base args ds gs before hval0 hW hcnd _ hL _
  have hT := laid_tabs hL
  have hval : ∀ (j : Nat) t v, Tryd.f5.params[j]? = some t → args[j]? = some v → Value.okWide Tryd.prog W .any base t v := hval0
  have hW' := hW
  obtain ⟨p, q, hA0, hV, rfl, hfz, hnd⟩ := hW
  have hA : DataW.TrodAll enc Tryd.prog W 0 (fun _ => true) true Tryd.f5.params.toList args.toList ds p := hA0
  rw [Tryd.params5] at hA hval
  obtain ⟨v0, vs0, d0, ds0, p0, q0, hargs, rfl, rfl, h0, r0⟩ := trodAll_cons hA
  obtain ⟨v1, vs1, d1, ds1, p1, q1, rfl, rfl, rfl, h1, r1⟩ := trodAll_cons r0
  obtain ⟨v2, vs2, d2, ds2, p2, q2, rfl, rfl, rfl, h2, r2⟩ := trodAll_cons r1
  obtain ⟨rfl, rfl, rfl⟩ := trodAll_nil r2
  obtain rfl : args = #[v0, v1, v2] := by cases args; simp_all
  obtain ⟨rfl, rfl⟩ := trodVars_none hV
  have k0 := h0
  have lt0 : ∀ x ∈ p0, x.block < W.heap.size := by obtain ⟨m, hm⟩ := k0; exact DataW.trod_lt m _ _ _ hm
  obtain ⟨aK, aP, aQ, aS, aR, rfl, waK, waP, waQ, waS, waR⟩ := open_val (hval 0 25 v0 rfl rfl) h0
  have k1 := h1
  have lt1 : ∀ x ∈ p1, x.block < W.heap.size := by obtain ⟨m, hm⟩ := k1; exact DataW.trod_lt m _ _ _ hm
  obtain ⟨bK, bP, bQ, bS, bR, rfl, wbK, wbP, wbQ, wbS, wbR⟩ := open_val (hval 1 25 v1 rfl rfl) h1
  have k2 := h2
  have lt2 : ∀ x ∈ p2, x.block < W.heap.size := by obtain ⟨m, hm⟩ := k2; exact DataW.trod_lt m _ _ _ hm
  obtain ⟨cK, cP, cQ, cS, cR, rfl, wcK, wcP, wcQ, wcS, wcR⟩ := open_val (hval 2 25 v2 rfl rfl) h2
  clear hA0 hval0
  refine (walk aK aP aQ aS aR waK waP waQ waS waR bK bP bQ bS bR wbK wbP wbQ wbS wbR cK cP cQ cS cR wcK wcP wcQ wcS wcR W hT).mono fun e W' ⟨he, bel⟩ => ?_
  subst he
  exact ⟨_, rfl, _, _, _, [], _, [], hW', trodAll_mk1 (shut_bool Tryd.underlying4 _), (trodAll_cons_mk (Below.trod laidOut (by kernel_rfl) (of_decide_eq_true (by kernel_rfl)) k0 bel lt0) (trodAll_cons_mk (Below.trod laidOut (by kernel_rfl) (of_decide_eq_true (by kernel_rfl)) k1 bel lt1) (trodAll_cons_mk (Below.trod laidOut (by kernel_rfl) (of_decide_eq_true (by kernel_rfl)) k2 bel lt2) trodAll_mk0))), rfl, bel.frame _, fun h => by cases h⟩

theorem over : Rows.valueOrdersRow.holds Tryd.pinned (OpenSpec.ofChange Rows.valueOrdersSpec) :=
  OpenClaim.holds_of_wide 5 Tryd.f5 rfl rfl rfl rfl rfl rfl rfl ⟨rfl, rfl, rfl, rfl, rfl⟩ rfl rfl rfl rfl rfl (by kernel_rfl) Tryd.func5 (by kernel_rfl)
    (of_decide_eq_true (by kernel_rfl)) (by unfold Func.isWrapper; first | (rw [if_pos (by decide +kernel)]; kernel_rfl) | (rw [if_neg (by decide +kernel)]; exact ⟨rfl, rfl⟩))
    (fun os started H enc _ => lifted os started H enc)

/-- The given statement: the row, tied. -/
theorem proved : Rows.ValueOrdersCardSaid :=
  Claim7.holds_tied_plain_at .later [] [.data, .data, .data, .data, .pinned] true _ false over (fun _ h => by cases h) (by kernel_rfl) (fun _ h => by cases h) valueOrders_row_tie rfl ⟨rfl, rfl⟩ (by kernel_rfl) rfl
    (fun f fn hf hfn => by
      obtain rfl : f = 5 := Option.some.inj ((show Tryd.prog.funcNamed Rows.valueOrdersRow.func = some 5 by kernel_rfl).symm.trans hf) |>.symm
      obtain rfl : fn = Tryd.f5 := (Option.some.inj (Tryd.func5.symm.trans hfn)).symm
      exact ⟨by kernel_rfl, fun j t ht => by
        rw [Tryd.params5] at ht
        have hm : t ∈ [25, 25, 25] := by simpa using Array.mem_of_getElem? ht
        have hall : ([25, 25, 25].all fun u => !Tryd.prog.wantsStandIn u) = true := by kernel_rfl
        exact (show Tryd.prog.wantsStandIn t = false by simpa using List.all_eq_true.1 hall t hm)⟩)
    (by kernel_rfl)
#print axioms proved
end Go.Proofs.YtpahemohpaaeoaaDoor.valueOrders
