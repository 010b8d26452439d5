/- The program's number and integer of an argument. -/
import Derived.Test.YtemlijadhdejeaaGreatDoorMFmA
import Derived.Test.YtemlijadhdejeaaGreatDoorMRatW
import Derived.Test.YtemlijadhdejeaaGreatDoorMNumC
import Derived.Test.YtemlijadhdejeaaGreatDoorMRat
import Derived.Test.YtemlijadhdejeaaGreatDoorMFmB
import Derived.Test.YtemlijadhdejeaaGreatDoorMNumD
namespace Go.Proofs.YtemlijadhdejeaaGreatDoor
open Go.RowKit Go.Instr
set_option linter.unusedVariables false

/-- A value as the walk has it. -/
abbrev vV (k p q : Int) (s : ByteArray) (r : Int) : Value := .agg #[.int .i64 k, .int .i64 p, .int .i64 q, .string s, .int .i64 r]
abbrev FNumSays (k p q : Int) (s : ByteArray) (r P Q : Int) (B : Bool) : Prop := ∀ w, Calls Tryz.prog 76 #[vV k p q s r] w fun e w' => e = .returned (.tuple #[.agg #[.int .i64 P, .int .i64 Q], .bool B]) ∧ Below w.heap.size w w'
set_option maxHeartbeats 1000000 in
set_option maxRecDepth 100000 in
theorem fnum_num (p q : Int) (s : ByteArray) (r : Int) (hp : -9223372036854775808 ≤ p) (hp' : p ≤ 9223372036854775807) : FNumSays 2 p q s r p q (vldB p q) := by
  intro w
  go_enter Tryz.func76, Tryz.ntmps76
  go_wp2_with fail
  go_region_with (first | (go_at_call 75; refine (valid_any _ _ _ (by omega) (by omega)).mono ?_; rintro e w1 ⟨rfl, hb⟩; (refine mem hb ?_; intro N hN hz hc hf; (try simp at hN); subst hN)))
  all_goals
    go_wp2_with fail
    ((try simp only [Exit.inBlock, Exit.then]); refine bodyPost_ret (by first | (simp [results, Tryz.results76, go_sem, *]; done) | (simp [results, Tryz.results76, go_sem, *]; rfl) | (simp [results, Tryz.results76, go_sem, ↓IntWalk.iteOmega, *]; try rfl)) rfl ?_)
    refine ⟨rfl, ?_⟩
    (repeat' (first | (with_reducible exact Below.refl _ _) | (with_reducible assumption) | (with_reducible refine Below.alloc ?_ ?_ _) | (with_reducible refine below_drewN ?_ _) | (with_reducible refine Below.drew ?_) | (with_reducible refine Below.setCell ?_ ?_ _) | (with_reducible refine below_via (by assumption) ?_ ?_) | (with_reducible refine below_via (later_below _) ?_ ?_) | (with_reducible exact Nat.le_refl _) | omega | (simp; omega) | (simp; done)))
set_option maxHeartbeats 1000000 in
set_option maxRecDepth 100000 in
theorem fnum_str (p q : Int) (s : ByteArray) (r : Int) (hs : s.size ≤ 1000000) : FNumSays 3 p q s r (parseL s.data.toList).1 (parseL s.data.toList).2.1 (decide ((parseL s.data.toList).2.2 = 0)) := by
  intro w
  obtain ⟨P, Q, E, hE⟩ : ∃ P Q E, parseL s.data.toList = (P, Q, E) := ⟨_, _, _, rfl⟩
  have HP : Hid (∀ w, Calls Tryz.prog 100 #[.string s] w fun e w' => e = .returned (.tuple #[.agg #[.int .i64 P, .int .i64 Q], .int .i64 E]) ∧ Below w.heap.size w w') := fun w => by have := parse_any s (by omega) w; rw [hE] at this; exact this
  rw [hE]
  clear hE
  go_enter Tryz.func76, Tryz.ntmps76
  go_wp2_with (first | (go_at_call 100; refine (HP.out _).mono ?_; rintro e w1 ⟨rfl, hb⟩; (refine mem hb ?_; intro N hN hz hc hf; (try simp at hN); subst hN)))
  ((try simp only [Exit.inBlock, Exit.then]); refine bodyPost_ret (by first | (simp [results, Tryz.results76, go_sem, *]; done) | (simp [results, Tryz.results76, go_sem, *]; rfl) | (simp [results, Tryz.results76, go_sem, ↓IntWalk.iteOmega, *]; try rfl)) rfl ?_)
  refine ⟨by first | rfl | (congr), ?_⟩
  (repeat' (first | (with_reducible exact Below.refl _ _) | (with_reducible assumption) | (with_reducible refine Below.alloc ?_ ?_ _) | (with_reducible refine below_drewN ?_ _) | (with_reducible refine Below.drew ?_) | (with_reducible refine Below.setCell ?_ ?_ _) | (with_reducible refine below_via (by assumption) ?_ ?_) | (with_reducible refine below_via (later_below _) ?_ ?_) | (with_reducible exact Nat.le_refl _) | omega | (simp; omega) | (simp; done)))
set_option maxHeartbeats 1000000 in
set_option maxRecDepth 100000 in
theorem fnum_no (k p q : Int) (s : ByteArray) (r : Int) (h2 : ¬ k = 2) (h3 : ¬ k = 3) : FNumSays k p q s r 0 0 false := by
  intro w
  have e2 : (k == 2) = false := by simpa using h2
  have e3 : (k == 3) = false := by simpa using h3
  clear h2 h3
  go_enter Tryz.func76, Tryz.ntmps76
  go_wp2_with fail
  ((try simp only [Exit.inBlock, Exit.then]); refine bodyPost_ret (by first | (simp [results, Tryz.results76, go_sem, *]; done) | (simp [results, Tryz.results76, go_sem, *]; rfl) | (simp [results, Tryz.results76, go_sem, ↓IntWalk.iteOmega, *]; try rfl)) rfl ?_)
  refine ⟨rfl, ?_⟩
  (repeat' (first | (with_reducible exact Below.refl _ _) | (with_reducible assumption) | (with_reducible refine Below.alloc ?_ ?_ _) | (with_reducible refine below_drewN ?_ _) | (with_reducible refine Below.drew ?_) | (with_reducible refine Below.setCell ?_ ?_ _) | (with_reducible refine below_via (by assumption) ?_ ?_) | (with_reducible refine below_via (later_below _) ?_ ?_) | (with_reducible exact Nat.le_refl _) | omega | (simp; omega) | (simp; done)))
theorem fnumber_any (v : VV) (hv : v.ok) (hs : v.s.size ≤ 1000000) : FNumSays v.k v.p v.q v.s v.r (numF v).1 (numF v).2.1 (numF v).2.2 := by
  obtain ⟨k, p, q, s, r⟩ := v
  obtain ⟨h1, h2, -⟩ := hv
  unfold numF
  dsimp only at *
  by_cases hk2 : k = 2
  · subst hk2
    rw [if_pos rfl]
    exact fnum_num p q s r h1 h2
  · rw [if_neg hk2]
    by_cases hk3 : k = 3
    · subst hk3
      rw [if_pos rfl]
      exact fnum_str p q s r hs
    · rw [if_neg hk3]
      exact fnum_no k p q s r hk2 hk3

set_option maxHeartbeats 1000000 in
set_option maxRecDepth 100000 in
theorem fwhole_any (v : VV) (hv : v.ok) (w : World) : Calls Tryz.prog 72 #[vV v.k v.p v.q v.s v.r] w fun e w' => e = .returned (.tuple #[.int .i64 (wholeF v).1, .bool (wholeF v).2]) ∧ Below w.heap.size w w' := by
  have hn := fnumber_any v hv hv.2.2
  have hbd := numF_bd hv
  unfold wholeF
  obtain ⟨P, Q, B, hE⟩ : ∃ P Q B, numF v = (P, Q, B) := ⟨_, _, _, rfl⟩
  rw [hE] at hn hbd ⊢
  obtain ⟨k, p, q, s, r⟩ := v
  dsimp only at *
  obtain ⟨b1, b2⟩ := hbd
  have HN := Lib.hid hn
  have HW := Lib.hid (fun w' => whole_any P Q w' b1 b2)
  clear hn hE hv
  cases B
  · rw [if_neg (by decide)]
    go_enter Tryz.func72, Tryz.ntmps72
    go_wp2_with (first | (go_at_call 76; (with_reducible refine (HN.out _).mono ?_); rintro e w1 ⟨rfl, hb⟩; (refine mem hb ?_; intro N hN hz hc hf; (try simp at hN); subst hN)))
    go_returns
    refine ⟨rfl, ?_⟩
    (repeat' (first | (with_reducible exact Below.refl _ _) | (with_reducible assumption) | (with_reducible refine Below.alloc ?_ ?_ _) | (with_reducible refine below_drewN ?_ _) | (with_reducible refine Below.drew ?_) | (with_reducible refine Below.setCell ?_ ?_ _) | (with_reducible refine below_via (by assumption) ?_ ?_) | (with_reducible refine below_via (later_below _) ?_ ?_) | (with_reducible exact Nat.le_refl _) | omega | (simp; omega) | (simp; done)))
  · rw [if_pos rfl]
    obtain ⟨V, hV⟩ : ∃ V, wholeV P Q = V := ⟨_, rfl⟩
    obtain ⟨B, hB⟩ : ∃ B, wholeB P Q = B := ⟨_, rfl⟩
    rw [hV, hB] at HW ⊢
    clear hV hB
    go_enter Tryz.func72, Tryz.ntmps72
    go_wp2_with (first | (go_at_call 76; (with_reducible refine (HN.out _).mono ?_); rintro e w1 ⟨rfl, hb⟩; (refine mem hb ?_; intro N hN hz hc hf; (try simp at hN); subst hN)) | (go_at_call 95; (with_reducible refine (HW.out _).mono ?_); rintro e w2 ⟨rfl, hb⟩; (refine mem hb ?_; intro N hN hz hc hf; (try simp at hN); subst hN)))
    go_returns
    refine ⟨rfl, ?_⟩
    (repeat' (first | (with_reducible exact Below.refl _ _) | (with_reducible assumption) | (with_reducible refine Below.alloc ?_ ?_ _) | (with_reducible refine below_drewN ?_ _) | (with_reducible refine Below.drew ?_) | (with_reducible refine Below.setCell ?_ ?_ _) | (with_reducible refine below_via (by assumption) ?_ ?_) | (with_reducible refine below_via (later_below _) ?_ ?_) | (with_reducible exact Nat.le_refl _) | omega | (simp; omega) | (simp; done)))
end Go.Proofs.YtemlijadhdejeaaGreatDoor

/- The program's text of an argument for a verb. -/
namespace Go.Proofs.YtemlijadhdejeaaGreatDoor
open Go.RowKit Go.Instr
set_option linter.unusedVariables false

/-- A directive as the walk has it. -/
abbrev pV (t : ByteArray) (v : Int) (mi ze pl : Bool) (W N : Int) : Value := .agg #[.string t, .int .u8 v, .bool mi, .bool ze, .bool pl, .int .i64 W, .int .i64 N]
theorem upC_dec : ∀ c : Fin 256, Lib.upperB (UInt8.ofNat c.val) = upC (UInt8.ofNat c.val) := by decide +kernel
theorem upC_is (l : List UInt8) : Lib.toUpperA l = l.map upC := by
  unfold Lib.toUpperA
  refine List.map_congr_left fun c _ => ?_
  have := upC_dec ⟨c.toNat, UInt8.toNat_lt c⟩
  simpa using this
theorem str_one (c : UInt8) (w1 : World) : (convert 52 9 (.slice (some ⟨w1.heap.size, 0, none⟩) 1 1)).run Tryz.prog (w1.alloc (.cells #[.int .u8 (c.toNat : Int)] 5)) = .ok (.string (mkS [c])) (w1.alloc (.cells #[.int .u8 (c.toNat : Int)] 5)) :=
  (Buf.lit w1 w1 w1.heap.size 5 (u8s [c]) (Below.refl _ _) (Nat.le_refl _) (by rw [u8s_len]; unfold maxLen; simp)).str (P := Tryz.prog) (L := [c]) (by simp) 52 9 Tryz.underlying52 Tryz.underlying5 Tryz.underlying9
theorem ret_sb {a b : ByteArray} {c d : Bool} (h : a = b) (h2 : c = d) : Ending.returned (.tuple #[.string a, .bool c]) = .returned (.tuple #[.string b, .bool d]) := by rw [h, h2]
set_option maxHeartbeats 2000000 in
set_option maxRecDepth 100000 in
theorem fdig_f (v : VV) (hv : v.ok) (t : ByteArray) (mi ze pl : Bool) (W N : Int) (w : World) (hT : Tabs w) : Calls Tryz.prog 50 #[pV t 102 mi ze pl W N, vV v.k v.p v.q v.s v.r] w fun e w' => e = .returned (.tuple #[.string (mkS (fixL (numF v).1 (numF v).2.1 (placesF N)).1), .bool ((numF v).2.2 && decide ((fixL (numF v).1 (numF v).2.1 (placesF N)).2 = 0))]) ∧ Below w.heap.size w w' := by
  have hn := fnumber_any v hv hv.2.2
  have hbd := numF_bd hv
  obtain ⟨P, Q, B, hE⟩ : ∃ P Q B, numF v = (P, Q, B) := ⟨_, _, _, rfl⟩
  rw [hE] at hn hbd ⊢
  obtain ⟨k, p, q, s, r⟩ := v
  dsimp only at *
  obtain ⟨b1, b2⟩ := hbd
  have HN := Lib.hid hn
  have HT := Lib.hid hT
  clear hn hE hv hT
  have hX := fun w' => fixed_any P Q (placesF N) w' b1 b2
  unfold strE at hX
  obtain ⟨X, E, hXE⟩ : ∃ X E, fixL P Q (placesF N) = (X, E) := ⟨_, _, rfl⟩
  rw [hXE] at hX ⊢
  dsimp only at hX ⊢
  clear hXE
  have HX0 := Lib.hid hX
  clear hX
  by_cases hN : N < 0
  all_goals
    have HX : Hid (∀ w', Tabs w' → Calls Tryz.prog 77 #[.agg #[.int .i64 P, .int .i64 Q], .int .i64 (if N < 0 then 6 else N)] w' fun e w'' => e = .returned (.tuple #[.string (mkS X), .int .i64 E]) ∧ Below w'.heap.size w' w'') := HX0.out
    first | rw [if_pos hN] at HX | rw [if_neg hN] at HX
    cases B
    all_goals
      go_enter Tryz.func50, Tryz.ntmps50
      go_wp2_with (first | (go_at_call 76; (with_reducible refine (HN.out _).mono ?_); rintro e w1 ⟨rfl, hb⟩; (refine mem hb ?_; intro N hN hz hc hf; (try simp at hN); subst hN)) | (go_at_call 77; (with_reducible refine (HX.out _ (HT.out.later ?_)).mono ?_); (focus ((repeat' (first | (with_reducible exact Below.refl _ _) | (with_reducible assumption) | (with_reducible refine Below.alloc ?_ ?_ _) | (with_reducible refine below_drewN ?_ _) | (with_reducible refine Below.drew ?_) | (with_reducible refine Below.setCell ?_ ?_ _) | (with_reducible refine below_via (by assumption) ?_ ?_) | (with_reducible refine below_via (later_below _) ?_ ?_) | (with_reducible exact Nat.le_refl _) | omega | (simp; omega) | (simp; done))))); rintro e w2 ⟨rfl, hb⟩; (refine mem hb ?_; intro N hN hz hc hf; (try simp at hN); subst hN)))
      go_returns
      refine ⟨ret_sb rfl (by first | rfl | (simp; done) | (by_cases h : E = 0 <;> simp [h])), ?_⟩
      (repeat' (first | (with_reducible exact Below.refl _ _) | (with_reducible assumption) | (with_reducible refine Below.alloc ?_ ?_ _) | (with_reducible refine below_drewN ?_ _) | (with_reducible refine Below.drew ?_) | (with_reducible refine Below.setCell ?_ ?_ _) | (with_reducible refine below_via (by assumption) ?_ ?_) | (with_reducible refine below_via (later_below _) ?_ ?_) | (with_reducible exact Nat.le_refl _) | omega | (simp; omega) | (simp; done)))
set_option maxHeartbeats 2000000 in
set_option maxRecDepth 100000 in
theorem fdig_g (v : VV) (hv : v.ok) (t : ByteArray) (mi ze pl : Bool) (W N : Int) (w : World) (hT : Tabs w) : Calls Tryz.prog 50 #[pV t 103 mi ze pl W N, vV v.k v.p v.q v.s v.r] w fun e w' => e = .returned (.tuple #[.string (mkS (textL (numF v).1 (numF v).2.1)), .bool (numF v).2.2]) ∧ Below w.heap.size w w' := by
  have hn := fnumber_any v hv hv.2.2
  have hbd := numF_bd hv
  obtain ⟨P, Q, B, hE⟩ : ∃ P Q B, numF v = (P, Q, B) := ⟨_, _, _, rfl⟩
  rw [hE] at hn hbd ⊢
  obtain ⟨k, p, q, s, r⟩ := v
  dsimp only at *
  obtain ⟨b1, b2⟩ := hbd
  have HN := Lib.hid hn
  have HT := Lib.hid hT
  clear hn hE hv hT
  have HX := Lib.hid (fun w' => text_any P Q w' b1 b2)
  obtain ⟨X, hX⟩ : ∃ X, textL P Q = X := ⟨_, rfl⟩
  rw [hX] at HX ⊢
  clear hX
  go_enter Tryz.func50, Tryz.ntmps50
  go_wp2_with (first | (go_at_call 76; (with_reducible refine (HN.out _).mono ?_); rintro e w1 ⟨rfl, hb⟩; (refine mem hb ?_; intro N hN hz hc hf; (try simp at hN); subst hN)) | (go_at_call 74; (with_reducible refine (HX.out _ (HT.out.later ?_)).mono ?_); (focus ((repeat' (first | (with_reducible exact Below.refl _ _) | (with_reducible assumption) | (with_reducible refine Below.alloc ?_ ?_ _) | (with_reducible refine below_drewN ?_ _) | (with_reducible refine Below.drew ?_) | (with_reducible refine Below.setCell ?_ ?_ _) | (with_reducible refine below_via (by assumption) ?_ ?_) | (with_reducible refine below_via (later_below _) ?_ ?_) | (with_reducible exact Nat.le_refl _) | omega | (simp; omega) | (simp; done))))); rintro e w2 ⟨rfl, hb⟩; (refine mem hb ?_; intro N hN hz hc hf; (try simp at hN); subst hN)))
  go_returns
  refine ⟨rfl, ?_⟩
  (repeat' (first | (with_reducible exact Below.refl _ _) | (with_reducible assumption) | (with_reducible refine Below.alloc ?_ ?_ _) | (with_reducible refine below_drewN ?_ _) | (with_reducible refine Below.drew ?_) | (with_reducible refine Below.setCell ?_ ?_ _) | (with_reducible refine below_via (by assumption) ?_ ?_) | (with_reducible refine below_via (later_below _) ?_ ?_) | (with_reducible exact Nat.le_refl _) | omega | (simp; omega) | (simp; done)))
set_option maxHeartbeats 2000000 in
set_option maxRecDepth 100000 in
theorem fdig_d (v : VV) (hv : v.ok) (t : ByteArray) (mi ze pl : Bool) (W N : Int) (w : World) (hT : Tabs w) : Calls Tryz.prog 50 #[pV t 100 mi ze pl W N, vV v.k v.p v.q v.s v.r] w fun e w' => e = .returned (.tuple #[.string (mkS (baseL (wholeF v).1 10).1), .bool ((wholeF v).2 && (decide (0 ≤ (wholeF v).1) || decide ((10 : Int) = 10)))]) ∧ Below w.heap.size w w' := by
  have hn := fwhole_any v hv
  have hbd := @wholeF_bd v
  obtain ⟨n, B, hE⟩ : ∃ n B, wholeF v = (n, B) := ⟨_, _, rfl⟩
  rw [hE] at hn hbd ⊢
  obtain ⟨k, p, q, s, r⟩ := v
  dsimp only at *
  obtain ⟨b1, b2⟩ := hbd
  have HN := Lib.hid hn
  have HT := Lib.hid hT
  clear hn hE hT
  clear hv
  have hX := fun w' => base_any n 10 (by omega) (by omega) w'
  unfold strE at hX
  rw [baseL_is (by omega)] at hX ⊢
  dsimp only at hX ⊢
  obtain ⟨X, hX2⟩ : ∃ X, bText (10 : Int).toNat n = X := ⟨_, rfl⟩
  rw [hX2] at hX ⊢
  have HX := Lib.hid hX
  clear hX hX2
  by_cases h0 : 0 ≤ n
  all_goals
    first | rw [decide_eq_true h0] | rw [decide_eq_false h0]
    first | (have d0 : decide (0 ≤ n) = true := decide_eq_true h0) | (have d0 : decide (0 ≤ n) = false := decide_eq_false h0)
    clear h0
    cases B
    all_goals
      go_enter Tryz.func50, Tryz.ntmps50
      go_wp2_with (first | (go_at_call 72; (with_reducible refine (HN.out _).mono ?_); rintro e w1 ⟨rfl, hb⟩; (refine mem hb ?_; intro N hN hz hc hf; (try simp at hN); subst hN)) | (go_at_call 78; (with_reducible refine (HX.out _ (HT.out.later ?_)).mono ?_); (focus ((repeat' (first | (with_reducible exact Below.refl _ _) | (with_reducible assumption) | (with_reducible refine Below.alloc ?_ ?_ _) | (with_reducible refine below_drewN ?_ _) | (with_reducible refine Below.drew ?_) | (with_reducible refine Below.setCell ?_ ?_ _) | (with_reducible refine below_via (by assumption) ?_ ?_) | (with_reducible refine below_via (later_below _) ?_ ?_) | (with_reducible exact Nat.le_refl _) | omega | (simp; omega) | (simp; done))))); rintro e w2 ⟨rfl, hb⟩; (refine mem hb ?_; intro N hN hz hc hf; (try simp at hN); subst hN)))
      go_returns
      refine ⟨ret_sb rfl (by first | rfl | (simp; done)), ?_⟩
      (repeat' (first | (with_reducible exact Below.refl _ _) | (with_reducible assumption) | (with_reducible refine Below.alloc ?_ ?_ _) | (with_reducible refine below_drewN ?_ _) | (with_reducible refine Below.drew ?_) | (with_reducible refine Below.setCell ?_ ?_ _) | (with_reducible refine below_via (by assumption) ?_ ?_) | (with_reducible refine below_via (later_below _) ?_ ?_) | (with_reducible exact Nat.le_refl _) | omega | (simp; omega) | (simp; done)))
set_option maxHeartbeats 2000000 in
set_option maxRecDepth 100000 in
theorem fdig_x (v : VV) (hv : v.ok) (t : ByteArray) (mi ze pl : Bool) (W N : Int) (w : World) (hT : Tabs w) : Calls Tryz.prog 50 #[pV t 120 mi ze pl W N, vV v.k v.p v.q v.s v.r] w fun e w' => e = .returned (.tuple #[.string (mkS (baseL (wholeF v).1 16).1), .bool ((wholeF v).2 && (decide (0 ≤ (wholeF v).1) || decide ((16 : Int) = 10)))]) ∧ Below w.heap.size w w' := by
  have hn := fwhole_any v hv
  have hbd := @wholeF_bd v
  obtain ⟨n, B, hE⟩ : ∃ n B, wholeF v = (n, B) := ⟨_, _, rfl⟩
  rw [hE] at hn hbd ⊢
  obtain ⟨k, p, q, s, r⟩ := v
  dsimp only at *
  obtain ⟨b1, b2⟩ := hbd
  have HN := Lib.hid hn
  have HT := Lib.hid hT
  clear hn hE hT
  clear hv
  have hX := fun w' => base_any n 16 (by omega) (by omega) w'
  unfold strE at hX
  rw [baseL_is (by omega)] at hX ⊢
  dsimp only at hX ⊢
  obtain ⟨X, hX2⟩ : ∃ X, bText (16 : Int).toNat n = X := ⟨_, rfl⟩
  rw [hX2] at hX ⊢
  have HX := Lib.hid hX
  clear hX hX2
  by_cases h0 : 0 ≤ n
  all_goals
    first | rw [decide_eq_true h0] | rw [decide_eq_false h0]
    first | (have d0 : decide (0 ≤ n) = true := decide_eq_true h0) | (have d0 : decide (0 ≤ n) = false := decide_eq_false h0)
    clear h0
    cases B
    all_goals
      go_enter Tryz.func50, Tryz.ntmps50
      go_wp2_with (first | (go_at_call 72; (with_reducible refine (HN.out _).mono ?_); rintro e w1 ⟨rfl, hb⟩; (refine mem hb ?_; intro N hN hz hc hf; (try simp at hN); subst hN)) | (go_at_call 78; (with_reducible refine (HX.out _ (HT.out.later ?_)).mono ?_); (focus ((repeat' (first | (with_reducible exact Below.refl _ _) | (with_reducible assumption) | (with_reducible refine Below.alloc ?_ ?_ _) | (with_reducible refine below_drewN ?_ _) | (with_reducible refine Below.drew ?_) | (with_reducible refine Below.setCell ?_ ?_ _) | (with_reducible refine below_via (by assumption) ?_ ?_) | (with_reducible refine below_via (later_below _) ?_ ?_) | (with_reducible exact Nat.le_refl _) | omega | (simp; omega) | (simp; done))))); rintro e w2 ⟨rfl, hb⟩; (refine mem hb ?_; intro N hN hz hc hf; (try simp at hN); subst hN)))
      go_returns
      refine ⟨ret_sb rfl (by first | rfl | (simp; done)), ?_⟩
      (repeat' (first | (with_reducible exact Below.refl _ _) | (with_reducible assumption) | (with_reducible refine Below.alloc ?_ ?_ _) | (with_reducible refine below_drewN ?_ _) | (with_reducible refine Below.drew ?_) | (with_reducible refine Below.setCell ?_ ?_ _) | (with_reducible refine below_via (by assumption) ?_ ?_) | (with_reducible refine below_via (later_below _) ?_ ?_) | (with_reducible exact Nat.le_refl _) | omega | (simp; omega) | (simp; done)))
set_option maxHeartbeats 2000000 in
set_option maxRecDepth 100000 in
theorem fdig_o (v : VV) (hv : v.ok) (t : ByteArray) (mi ze pl : Bool) (W N : Int) (w : World) (hT : Tabs w) : Calls Tryz.prog 50 #[pV t 111 mi ze pl W N, vV v.k v.p v.q v.s v.r] w fun e w' => e = .returned (.tuple #[.string (mkS (baseL (wholeF v).1 8).1), .bool ((wholeF v).2 && (decide (0 ≤ (wholeF v).1) || decide ((8 : Int) = 10)))]) ∧ Below w.heap.size w w' := by
  have hn := fwhole_any v hv
  have hbd := @wholeF_bd v
  obtain ⟨n, B, hE⟩ : ∃ n B, wholeF v = (n, B) := ⟨_, _, rfl⟩
  rw [hE] at hn hbd ⊢
  obtain ⟨k, p, q, s, r⟩ := v
  dsimp only at *
  obtain ⟨b1, b2⟩ := hbd
  have HN := Lib.hid hn
  have HT := Lib.hid hT
  clear hn hE hT
  clear hv
  have hX := fun w' => base_any n 8 (by omega) (by omega) w'
  unfold strE at hX
  rw [baseL_is (by omega)] at hX ⊢
  dsimp only at hX ⊢
  obtain ⟨X, hX2⟩ : ∃ X, bText (8 : Int).toNat n = X := ⟨_, rfl⟩
  rw [hX2] at hX ⊢
  have HX := Lib.hid hX
  clear hX hX2
  by_cases h0 : 0 ≤ n
  all_goals
    first | rw [decide_eq_true h0] | rw [decide_eq_false h0]
    first | (have d0 : decide (0 ≤ n) = true := decide_eq_true h0) | (have d0 : decide (0 ≤ n) = false := decide_eq_false h0)
    clear h0
    cases B
    all_goals
      go_enter Tryz.func50, Tryz.ntmps50
      go_wp2_with (first | (go_at_call 72; (with_reducible refine (HN.out _).mono ?_); rintro e w1 ⟨rfl, hb⟩; (refine mem hb ?_; intro N hN hz hc hf; (try simp at hN); subst hN)) | (go_at_call 78; (with_reducible refine (HX.out _ (HT.out.later ?_)).mono ?_); (focus ((repeat' (first | (with_reducible exact Below.refl _ _) | (with_reducible assumption) | (with_reducible refine Below.alloc ?_ ?_ _) | (with_reducible refine below_drewN ?_ _) | (with_reducible refine Below.drew ?_) | (with_reducible refine Below.setCell ?_ ?_ _) | (with_reducible refine below_via (by assumption) ?_ ?_) | (with_reducible refine below_via (later_below _) ?_ ?_) | (with_reducible exact Nat.le_refl _) | omega | (simp; omega) | (simp; done))))); rintro e w2 ⟨rfl, hb⟩; (refine mem hb ?_; intro N hN hz hc hf; (try simp at hN); subst hN)))
      go_returns
      refine ⟨ret_sb rfl (by first | rfl | (simp; done)), ?_⟩
      (repeat' (first | (with_reducible exact Below.refl _ _) | (with_reducible assumption) | (with_reducible refine Below.alloc ?_ ?_ _) | (with_reducible refine below_drewN ?_ _) | (with_reducible refine Below.drew ?_) | (with_reducible refine Below.setCell ?_ ?_ _) | (with_reducible refine below_via (by assumption) ?_ ?_) | (with_reducible refine below_via (later_below _) ?_ ?_) | (with_reducible exact Nat.le_refl _) | omega | (simp; omega) | (simp; done)))
set_option maxHeartbeats 2000000 in
set_option maxRecDepth 100000 in
theorem fdig_X (v : VV) (hv : v.ok) (t : ByteArray) (mi ze pl : Bool) (W N : Int) (w : World) (hT : Tabs w) : Calls Tryz.prog 50 #[pV t 88 mi ze pl W N, vV v.k v.p v.q v.s v.r] w fun e w' => e = .returned (.tuple #[.string (mkS ((baseL (wholeF v).1 16).1.map upC)), .bool ((wholeF v).2 && (decide (0 ≤ (wholeF v).1) || decide ((16 : Int) = 10)))]) ∧ Below w.heap.size w w' := by
  have hn := fwhole_any v hv
  have hbd := @wholeF_bd v
  obtain ⟨n, B, hE⟩ : ∃ n B, wholeF v = (n, B) := ⟨_, _, rfl⟩
  rw [hE] at hn hbd ⊢
  obtain ⟨k, p, q, s, r⟩ := v
  dsimp only at *
  obtain ⟨b1, b2⟩ := hbd
  have HN := Lib.hid hn
  have HT := Lib.hid hT
  clear hn hE hT
  clear hv
  have hX := fun w' => base_any n 16 (by omega) (by omega) w'
  unfold strE at hX
  rw [baseL_is (by omega)] at hX ⊢
  dsimp only at hX ⊢
  have HU : Hid (∀ w', Calls Tryz.prog 79 #[.string (mkS (bText 16 n))] w' fun e w'' => e = .returned (.string (mkS ((bText 16 n).map upC))) ∧ Below w'.heap.size w' w'') := fun w' => by
    have h := upper_any (mkS (bText 16 n)) w' (by rw [mkS_size]; have := bText_len (n := n) (b := 16) (by omega) b1 b2; omega) (by rw [mkS_list]; exact bText_ascii (by omega) (by omega))
    rw [mkS_list, upC_is] at h
    exact h
  rw [show (16 : Int).toNat = 16 from rfl] at hX ⊢
  obtain ⟨Y, hY⟩ : ∃ Y, (bText 16 n).map upC = Y := ⟨_, rfl⟩
  rw [hY] at HU ⊢
  clear hY
  obtain ⟨X, hX2⟩ : ∃ X, bText 16 n = X := ⟨_, rfl⟩
  rw [hX2] at hX HU
  have HX := Lib.hid hX
  clear hX hX2
  by_cases h0 : 0 ≤ n
  all_goals
    first | rw [decide_eq_true h0] | rw [decide_eq_false h0]
    first | (have d0 : decide (0 ≤ n) = true := decide_eq_true h0) | (have d0 : decide (0 ≤ n) = false := decide_eq_false h0)
    clear h0
    cases B
    all_goals
      go_enter Tryz.func50, Tryz.ntmps50
      go_wp2_with (first | (go_at_call 72; (with_reducible refine (HN.out _).mono ?_); rintro e w1 ⟨rfl, hb⟩; (refine mem hb ?_; intro N hN hz hc hf; (try simp at hN); subst hN)) | (go_at_call 78; (with_reducible refine (HX.out _ (HT.out.later ?_)).mono ?_); (focus ((repeat' (first | (with_reducible exact Below.refl _ _) | (with_reducible assumption) | (with_reducible refine Below.alloc ?_ ?_ _) | (with_reducible refine below_drewN ?_ _) | (with_reducible refine Below.drew ?_) | (with_reducible refine Below.setCell ?_ ?_ _) | (with_reducible refine below_via (by assumption) ?_ ?_) | (with_reducible refine below_via (later_below _) ?_ ?_) | (with_reducible exact Nat.le_refl _) | omega | (simp; omega) | (simp; done))))); rintro e w2 ⟨rfl, hb⟩; (refine mem hb ?_; intro N hN hz hc hf; (try simp at hN); subst hN)) | (go_at_call 79; (with_reducible refine (HU.out _).mono ?_); rintro e w3 ⟨rfl, hb⟩; (refine mem hb ?_; intro N hN hz hc hf; (try simp at hN); subst hN)))
      go_returns
      refine ⟨ret_sb rfl (by first | rfl | (simp; done)), ?_⟩
      (repeat' (first | (with_reducible exact Below.refl _ _) | (with_reducible assumption) | (with_reducible refine Below.alloc ?_ ?_ _) | (with_reducible refine below_drewN ?_ _) | (with_reducible refine Below.drew ?_) | (with_reducible refine Below.setCell ?_ ?_ _) | (with_reducible refine below_via (by assumption) ?_ ?_) | (with_reducible refine below_via (later_below _) ?_ ?_) | (with_reducible exact Nat.le_refl _) | omega | (simp; omega) | (simp; done)))
set_option maxHeartbeats 2000000 in
set_option maxRecDepth 100000 in
theorem ftxt_c (v : VV) (hv : v.ok) (t : ByteArray) (mi ze pl : Bool) (W N : Int) (w : World) : Calls Tryz.prog 49 #[pV t 99 mi ze pl W N, vV v.k v.p v.q v.s v.r] w fun e w' => e = .returned (.tuple #[.string (mkS [UInt8.ofNat ((wholeF v).1 % 256).toNat]), .bool ((wholeF v).2 && (decide (0 ≤ (wholeF v).1) && decide ((wholeF v).1 ≤ 255)))]) ∧ Below w.heap.size w w' := by
  have hn := fwhole_any v hv
  have hbd := @wholeF_bd v
  obtain ⟨n, B, hE⟩ : ∃ n B, wholeF v = (n, B) := ⟨_, _, rfl⟩
  rw [hE] at hn hbd ⊢
  obtain ⟨k, p, q, s, r⟩ := v
  dsimp only at *
  obtain ⟨b1, b2⟩ := hbd
  have HN := Lib.hid hn
  clear hn hE
  clear hv
  by_cases h0 : 0 ≤ n
  all_goals
    first | rw [decide_eq_true h0] | rw [decide_eq_false h0]
    first | (have d0 : decide (0 ≤ n) = true := decide_eq_true h0) | (have d0 : decide (0 ≤ n) = false := decide_eq_false h0)
    by_cases h1 : n ≤ 255
    all_goals
      first | rw [decide_eq_true h1] | rw [decide_eq_false h1]
      first | (have d1 : decide (n ≤ 255) = true := decide_eq_true h1) | (have d1 : decide (n ≤ 255) = false := decide_eq_false h1)
      have hW8 : IntKind.u8.wrap n = ((UInt8.ofNat (n % 256).toNat).toNat : Int) := by
        rw [IntKind.wrap_u8]
        simp
        omega
      obtain ⟨c, hc⟩ : ∃ c : UInt8, UInt8.ofNat (n % 256).toNat = c := ⟨_, rfl⟩
      rw [hc] at hW8 ⊢
      clear hc h0 h1
      cases B
      all_goals
        go_enter Tryz.func49, Tryz.ntmps49
        go_wp2_with (first | (go_at_call 72; (with_reducible refine (HN.out _).mono ?_); rintro e w1 ⟨rfl, hb⟩; (refine mem hb ?_; intro N hN hz hc hf; (try simp at hN); subst hN); have hcv := str_one c w1))
        go_returns
        refine ⟨ret_sb rfl (by first | rfl | (simp; done)), ?_⟩
        (repeat' (first | (with_reducible exact Below.refl _ _) | (with_reducible assumption) | (with_reducible refine Below.alloc ?_ ?_ _) | (with_reducible refine below_drewN ?_ _) | (with_reducible refine Below.drew ?_) | (with_reducible refine Below.setCell ?_ ?_ _) | (with_reducible refine below_via (by assumption) ?_ ?_) | (with_reducible refine below_via (later_below _) ?_ ?_) | (with_reducible exact Nat.le_refl _) | omega | (simp; omega) | (simp; done)))
set_option maxHeartbeats 2000000 in
set_option maxRecDepth 100000 in
theorem ftxt_q (v : VV) (hv : v.ok) (t : ByteArray) (mi ze pl : Bool) (W N : Int) (w : World) : Calls Tryz.prog 49 #[pV t 113 mi ze pl W N, vV v.k v.p v.q v.s v.r] w fun e w' => e = .returned (.tuple #[.string (mkS (quoteL v.s.data.toList)), .bool (decide (v.k = 3))]) ∧ Below w.heap.size w w' := by
  obtain ⟨k, p, q, s, r⟩ := v
  have hs := hv.2.2
  dsimp only at *
  have HX := Lib.hid (fun w' => fquoted_any s w' hs)
  obtain ⟨X, hX⟩ : ∃ X, quoteL s.data.toList = X := ⟨_, rfl⟩
  rw [hX] at HX ⊢
  clear hX hv
  go_enter Tryz.func49, Tryz.ntmps49
  go_wp2_with fail
  (refine wp_region_calm (by kernel_rfl) (by kernel_rfl) ?_; refine calm_mem ?_; intro N hN hne hcu; (try simp at hN); subst hN; (repeat ((refine wpQuiet_step (fun K hK => ?_)); go_simp; (repeat (simp only [↓IntWalk.iteOmega]; go_simp)); (first | (refine hK _ ?_; clear hK K) | (apply Exists.intro; refine ⟨fun _ => ?_, hK _ ?_⟩; (first | (go_at_call 73; exact calm_of (HX.out _))); clear hK K)))); refine wpQuiet_nil ?_; intro _ hw'; obtain ⟨⟨w1, hb⟩, hw''⟩ := hw'; subst hw''; clear hcu hne; (try dsimp only); (refine mem hb ?_; intro N hN hz hc hf; (try simp at hN); subst hN))
  go_wp2_with fail
  go_returns
  refine ⟨ret_sb rfl (by first | rfl | (simp; done)), ?_⟩
  (repeat' (first | (with_reducible exact Below.refl _ _) | (with_reducible assumption) | (with_reducible refine Below.alloc ?_ ?_ _) | (with_reducible refine below_drewN ?_ _) | (with_reducible refine Below.drew ?_) | (with_reducible refine Below.setCell ?_ ?_ _) | (with_reducible refine below_via (by assumption) ?_ ?_) | (with_reducible refine below_via (later_below _) ?_ ?_) | (with_reducible exact Nat.le_refl _) | omega | (simp; omega) | (simp; done)))
set_option maxHeartbeats 2000000 in
set_option maxRecDepth 100000 in
theorem ftxt_s (v : VV) (hv : v.ok) (t : ByteArray) (mi ze pl : Bool) (W N : Int) (w : World) (hT : Tabs w) (hN : N ≤ 12) :
    Calls Tryz.prog 49 #[pV t 115 mi ze pl W N, vV v.k v.p v.q v.s v.r] w fun e w' => e = .returned (.tuple #[.string (mkS (cutA ⟨[], 115, mi, ze, pl, 0, N⟩ (if v.k = 2 then textL v.p v.q else v.s.data.toList))), .bool (decide (v.k = 3) || (decide (v.k = 2) && vldB v.p v.q))]) ∧ Below w.heap.size w w' := by
  obtain ⟨k, p, q, s, r⟩ := v
  obtain ⟨b1, b2, hs⟩ := hv
  dsimp only at *
  have HX := Lib.hid (fun w' => text_any p q w' b1 b2)
  have HV := Lib.hid (fun w' => valid_any p q w' b1 b2)
  have hl := textL_len p q
  have HT := Lib.hid hT
  clear hT
  have hXs : (mkS (textL p q)).size ≤ 100 := by rw [mkS_size]; exact hl
  obtain ⟨X, hX⟩ : ∃ X, mkS (textL p q) = X := ⟨_, rfl⟩
  have hX2 : textL p q = X.data.toList := by rw [← hX, mkS_list]
  rw [hX] at HX hXs
  rw [hX2]
  obtain ⟨B, hB⟩ : ∃ B, vldB p q = B := ⟨_, rfl⟩
  rw [hB] at HV ⊢
  have HC : Hid (∀ S : ByteArray, 0 ≤ N → S.extract 0 (min (S.size : Int) N).toNat = mkS (cutA ⟨[], 115, mi, ze, pl, 0, N⟩ S.data.toList)) := by
    intro S h0
    apply mkS_ext
    unfold cutA
    simp only []
    rw [if_neg (by omega), take_extract]
    by_cases hx : N ≤ S.size
    · rw [Int.min_eq_right hx]
    · rw [Int.min_eq_left (by omega), List.take_of_length_le (by simp), List.take_of_length_le (by simp; omega)]
  have HC2 : Hid (∀ S : ByteArray, N < 0 → S = mkS (cutA ⟨[], 115, mi, ze, pl, 0, N⟩ S.data.toList)) := fun S h0 => by unfold cutA; simp only []; rw [if_pos h0, mkS_of]
  clear hX hX2 hB hl
  by_cases h2 : k = 2
  · subst h2
    rw [if_pos rfl]
    by_cases h0 : 0 ≤ N
    · have HE := Lib.hid (HC.out X h0)
      obtain ⟨Y, hY⟩ : ∃ Y, mkS (cutA ⟨[], 115, mi, ze, pl, 0, N⟩ X.data.toList) = Y := ⟨_, rfl⟩
      rw [hY] at HE ⊢
      clear hY HC HC2
      go_enter Tryz.func49, Tryz.ntmps49
      go_wp2_with (first | (go_at_call 74; (with_reducible refine (HX.out _ (HT.out.later ?_)).mono ?_); (focus ((repeat' (first | (with_reducible exact Below.refl _ _) | (with_reducible assumption) | (with_reducible refine Below.alloc ?_ ?_ _) | (with_reducible refine below_drewN ?_ _) | (with_reducible refine Below.drew ?_) | (with_reducible refine Below.setCell ?_ ?_ _) | (with_reducible refine below_via (by assumption) ?_ ?_) | (with_reducible refine below_via (later_below _) ?_ ?_) | (with_reducible exact Nat.le_refl _) | omega | (simp; omega) | (simp; done))))); rintro e w2 ⟨rfl, hb⟩; (refine mem hb ?_; intro N hN hz hc hf; (try simp at hN); subst hN)) | (go_at_call 75; (with_reducible refine (HV.out _).mono ?_); rintro e w3 ⟨rfl, hb⟩; (refine mem hb ?_; intro N hN hz hc hf; (try simp at hN); subst hN)))
      go_returns
      refine ⟨ret_sb HE.out (by first | rfl | (simp; done)), ?_⟩
      (repeat' (first | (with_reducible exact Below.refl _ _) | (with_reducible assumption) | (with_reducible refine Below.alloc ?_ ?_ _) | (with_reducible refine below_drewN ?_ _) | (with_reducible refine Below.drew ?_) | (with_reducible refine Below.setCell ?_ ?_ _) | (with_reducible refine below_via (by assumption) ?_ ?_) | (with_reducible refine below_via (later_below _) ?_ ?_) | (with_reducible exact Nat.le_refl _) | omega | (simp; omega) | (simp; done)))
    · have HE := Lib.hid (HC2.out X (by omega))
      obtain ⟨Y, hY⟩ : ∃ Y, mkS (cutA ⟨[], 115, mi, ze, pl, 0, N⟩ X.data.toList) = Y := ⟨_, rfl⟩
      rw [hY] at HE ⊢
      clear hY HC HC2
      go_enter Tryz.func49, Tryz.ntmps49
      go_wp2_with (first | (go_at_call 74; (with_reducible refine (HX.out _ (HT.out.later ?_)).mono ?_); (focus ((repeat' (first | (with_reducible exact Below.refl _ _) | (with_reducible assumption) | (with_reducible refine Below.alloc ?_ ?_ _) | (with_reducible refine below_drewN ?_ _) | (with_reducible refine Below.drew ?_) | (with_reducible refine Below.setCell ?_ ?_ _) | (with_reducible refine below_via (by assumption) ?_ ?_) | (with_reducible refine below_via (later_below _) ?_ ?_) | (with_reducible exact Nat.le_refl _) | omega | (simp; omega) | (simp; done))))); rintro e w2 ⟨rfl, hb⟩; (refine mem hb ?_; intro N hN hz hc hf; (try simp at hN); subst hN)) | (go_at_call 75; (with_reducible refine (HV.out _).mono ?_); rintro e w3 ⟨rfl, hb⟩; (refine mem hb ?_; intro N hN hz hc hf; (try simp at hN); subst hN)))
      go_returns
      refine ⟨ret_sb HE.out (by first | rfl | (simp; done)), ?_⟩
      (repeat' (first | (with_reducible exact Below.refl _ _) | (with_reducible assumption) | (with_reducible refine Below.alloc ?_ ?_ _) | (with_reducible refine below_drewN ?_ _) | (with_reducible refine Below.drew ?_) | (with_reducible refine Below.setCell ?_ ?_ _) | (with_reducible refine below_via (by assumption) ?_ ?_) | (with_reducible refine below_via (later_below _) ?_ ?_) | (with_reducible exact Nat.le_refl _) | omega | (simp; omega) | (simp; done)))
  · have b2' : (k == 2) = false := by simpa using h2
    rw [if_neg h2, decide_eq_false h2]
    clear h2
    by_cases h3 : k = 3
    all_goals
      first | rw [decide_eq_true h3] | rw [decide_eq_false h3]
      first | (have b3 : (k == 3) = true := by simpa using h3) | (have b3 : (k == 3) = false := by simpa using h3)
      clear h3
      by_cases h0 : 0 ≤ N
      · have HE := Lib.hid (HC.out s h0)
        obtain ⟨Y, hY⟩ : ∃ Y, mkS (cutA ⟨[], 115, mi, ze, pl, 0, N⟩ s.data.toList) = Y := ⟨_, rfl⟩
        rw [hY] at HE ⊢
        clear hY HC HC2
        go_enter Tryz.func49, Tryz.ntmps49
        go_wp2_with (first | (go_at_call 74; (with_reducible refine (HX.out _ (HT.out.later ?_)).mono ?_); (focus ((repeat' (first | (with_reducible exact Below.refl _ _) | (with_reducible assumption) | (with_reducible refine Below.alloc ?_ ?_ _) | (with_reducible refine below_drewN ?_ _) | (with_reducible refine Below.drew ?_) | (with_reducible refine Below.setCell ?_ ?_ _) | (with_reducible refine below_via (by assumption) ?_ ?_) | (with_reducible refine below_via (later_below _) ?_ ?_) | (with_reducible exact Nat.le_refl _) | omega | (simp; omega) | (simp; done))))); rintro e w2 ⟨rfl, hb⟩; (refine mem hb ?_; intro N hN hz hc hf; (try simp at hN); subst hN)) | (go_at_call 75; (with_reducible refine (HV.out _).mono ?_); rintro e w3 ⟨rfl, hb⟩; (refine mem hb ?_; intro N hN hz hc hf; (try simp at hN); subst hN)))
        go_returns
        refine ⟨ret_sb HE.out (by first | rfl | (simp; done)), ?_⟩
        (repeat' (first | (with_reducible exact Below.refl _ _) | (with_reducible assumption) | (with_reducible refine Below.alloc ?_ ?_ _) | (with_reducible refine below_drewN ?_ _) | (with_reducible refine Below.drew ?_) | (with_reducible refine Below.setCell ?_ ?_ _) | (with_reducible refine below_via (by assumption) ?_ ?_) | (with_reducible refine below_via (later_below _) ?_ ?_) | (with_reducible exact Nat.le_refl _) | omega | (simp; omega) | (simp; done)))
      · have HE := Lib.hid (HC2.out s (by omega))
        obtain ⟨Y, hY⟩ : ∃ Y, mkS (cutA ⟨[], 115, mi, ze, pl, 0, N⟩ s.data.toList) = Y := ⟨_, rfl⟩
        rw [hY] at HE ⊢
        clear hY HC HC2
        go_enter Tryz.func49, Tryz.ntmps49
        go_wp2_with (first | (go_at_call 74; (with_reducible refine (HX.out _ (HT.out.later ?_)).mono ?_); (focus ((repeat' (first | (with_reducible exact Below.refl _ _) | (with_reducible assumption) | (with_reducible refine Below.alloc ?_ ?_ _) | (with_reducible refine below_drewN ?_ _) | (with_reducible refine Below.drew ?_) | (with_reducible refine Below.setCell ?_ ?_ _) | (with_reducible refine below_via (by assumption) ?_ ?_) | (with_reducible refine below_via (later_below _) ?_ ?_) | (with_reducible exact Nat.le_refl _) | omega | (simp; omega) | (simp; done))))); rintro e w2 ⟨rfl, hb⟩; (refine mem hb ?_; intro N hN hz hc hf; (try simp at hN); subst hN)) | (go_at_call 75; (with_reducible refine (HV.out _).mono ?_); rintro e w3 ⟨rfl, hb⟩; (refine mem hb ?_; intro N hN hz hc hf; (try simp at hN); subst hN)))
        go_returns
        refine ⟨ret_sb HE.out (by first | rfl | (simp; done)), ?_⟩
        (repeat' (first | (with_reducible exact Below.refl _ _) | (with_reducible assumption) | (with_reducible refine Below.alloc ?_ ?_ _) | (with_reducible refine below_drewN ?_ _) | (with_reducible refine Below.drew ?_) | (with_reducible refine Below.setCell ?_ ?_ _) | (with_reducible refine below_via (by assumption) ?_ ?_) | (with_reducible refine below_via (later_below _) ?_ ?_) | (with_reducible exact Nat.le_refl _) | omega | (simp; omega) | (simp; done)))
end Go.Proofs.YtemlijadhdejeaaGreatDoor
