/- The reference's text of an argument for a verb. -/
import Derived.Test.YtemlijadhdejeaaGreatDoorMFmR5
import Derived.Test.YtemlijadhdejeaaGreatDoorMFmR3
import Derived.Test.YtemlijadhdejeaaGreatDoorMLxQ
import Derived.Test.YtemlijadhdejeaaGreatDoorMRefB
namespace Go.Proofs.YtemlijadhdejeaaGreatDoor
open Go.RowKit Go.Instr
set_option linter.unusedVariables false

theorem verb_cases2 {V : Nat} (h : ∃ c, verbB c = true ∧ V = c.toNat) : V = 100 ∨ V = 120 ∨ V = 88 ∨ V = 111 ∨ V = 102 ∨ V = 115 ∨ V = 99 ∨ V = 113 ∨ V = 103 := by
  obtain ⟨c, h1, rfl⟩ := h
  unfold verbB verbs at h1
  simp at h1
  rcases h1 with h | h | h | h | h | h | h | h | h <;> subst h <;> simp
/-- A text, or none. -/
def pickL (b : Bool) (D : List UInt8) : List UInt8 := if b = true then D else []
theorem pick_yes {b : Bool} (h : b = true) (D : List UInt8) : pickL b D = D := if_pos h
/-- The text that the reference's text hands back. -/
def rtxtL (v : VV) : List UInt8 := if v.k = 3 then v.s.data.toList else if v.k = 2 ∧ vldB v.p v.q = true then textL v.p v.q else []
set_option maxHeartbeats 4000000 in
set_option maxRecDepth 100000 in
theorem rwh_d (v : VV) (hv : v.ok) (hs : v.s.size ≤ 4000) (t : ByteArray) (mi ze pl : Bool) (W N : Int) (w : World) : Calls Tryz.prog 51 #[pV t 100 mi ze pl W N, vV v.k v.p v.q v.s v.r] w (fun e w' => e = .returned (.tuple #[.string (mkS (pickL ((wholeF v).2 && (decide (0 ≤ (wholeF v).1) || decide ((10 : Int) = 10))) (baseL (wholeF v).1 10).1)), .bool ((wholeF v).2 && (decide (0 ≤ (wholeF v).1) || decide ((10 : Int) = 10)))]) ∧ Below w.heap.size w w') := by
  have hn := r9int_any v hv hs
  have hbd := @wholeF_bd v
  obtain ⟨n, B, hE⟩ : ∃ n B, wholeF v = (n, B) := ⟨_, _, rfl⟩
  rw [hE] at hn hbd ⊢
  obtain ⟨k, p, q, s, r⟩ := v
  dsimp only at *
  obtain ⟨b1, b2⟩ := hbd
  have HN := Lib.hid hn
  clear hn hE
  have hX := rbase_any n 10 (by omega) (by omega)
  unfold strE at hX
  rw [baseL_is (by omega)] at hX ⊢
  dsimp only at hX ⊢
  obtain ⟨X, hX2⟩ : ∃ X, bText (10 : Int).toNat n = X := ⟨_, rfl⟩
  rw [hX2] at hX ⊢
  have HX := Lib.hid hX
  clear hX hX2 hv
  by_cases h0 : 0 ≤ n
  all_goals
    first | rw [decide_eq_true h0] | rw [decide_eq_false h0]
    first | (have d0 : decide (n < 0) = false := decide_eq_false (by omega)) | (have d0 : decide (n < 0) = true := decide_eq_true (by omega))
    clear h0
    cases B
    all_goals
      go_enter Tryz.func51, Tryz.ntmps51
      go_wp2_with (first | (go_at_call 56; (with_reducible refine (HN.out _).mono ?_); rintro e w1 ⟨rfl, hb⟩; (refine mem hb ?_; intro N hN hz hc hf; (try simp at hN); subst hN)) | (go_at_call 80; (with_reducible refine (HX.out _).mono ?_); rintro e w2 ⟨rfl, hb⟩; (refine mem hb ?_; intro N hN hz hc hf; (try simp at hN); subst hN)))
      go_returns
      refine ⟨ret_sb (by first | rfl | (simp [pickL]; done)) (by first | rfl | (simp; done)), ?_⟩
      (repeat' (first | (with_reducible exact Below.refl _ _) | (with_reducible assumption) | (with_reducible refine Below.alloc ?_ ?_ _) | (with_reducible refine below_drewN ?_ _) | (with_reducible refine Below.drew ?_) | (with_reducible refine Below.setCell ?_ ?_ _) | (with_reducible refine below_via (by assumption) ?_ ?_) | (with_reducible refine below_via (later_below _) ?_ ?_) | (with_reducible exact Nat.le_refl _) | omega | (simp; omega) | (simp; done)))
set_option maxHeartbeats 4000000 in
set_option maxRecDepth 100000 in
theorem rwh_x (v : VV) (hv : v.ok) (hs : v.s.size ≤ 4000) (t : ByteArray) (mi ze pl : Bool) (W N : Int) (w : World) : Calls Tryz.prog 51 #[pV t 120 mi ze pl W N, vV v.k v.p v.q v.s v.r] w (fun e w' => e = .returned (.tuple #[.string (mkS (pickL ((wholeF v).2 && (decide (0 ≤ (wholeF v).1) || decide ((16 : Int) = 10))) (baseL (wholeF v).1 16).1)), .bool ((wholeF v).2 && (decide (0 ≤ (wholeF v).1) || decide ((16 : Int) = 10)))]) ∧ Below w.heap.size w w') := by
  have hn := r9int_any v hv hs
  have hbd := @wholeF_bd v
  obtain ⟨n, B, hE⟩ : ∃ n B, wholeF v = (n, B) := ⟨_, _, rfl⟩
  rw [hE] at hn hbd ⊢
  obtain ⟨k, p, q, s, r⟩ := v
  dsimp only at *
  obtain ⟨b1, b2⟩ := hbd
  have HN := Lib.hid hn
  clear hn hE
  have hX := rbase_any n 16 (by omega) (by omega)
  unfold strE at hX
  rw [baseL_is (by omega)] at hX ⊢
  dsimp only at hX ⊢
  obtain ⟨X, hX2⟩ : ∃ X, bText (16 : Int).toNat n = X := ⟨_, rfl⟩
  rw [hX2] at hX ⊢
  have HX := Lib.hid hX
  clear hX hX2 hv
  by_cases h0 : 0 ≤ n
  all_goals
    first | rw [decide_eq_true h0] | rw [decide_eq_false h0]
    first | (have d0 : decide (n < 0) = false := decide_eq_false (by omega)) | (have d0 : decide (n < 0) = true := decide_eq_true (by omega))
    clear h0
    cases B
    all_goals
      go_enter Tryz.func51, Tryz.ntmps51
      go_wp2_with (first | (go_at_call 56; (with_reducible refine (HN.out _).mono ?_); rintro e w1 ⟨rfl, hb⟩; (refine mem hb ?_; intro N hN hz hc hf; (try simp at hN); subst hN)) | (go_at_call 80; (with_reducible refine (HX.out _).mono ?_); rintro e w2 ⟨rfl, hb⟩; (refine mem hb ?_; intro N hN hz hc hf; (try simp at hN); subst hN)))
      go_returns
      refine ⟨ret_sb (by first | rfl | (simp [pickL]; done)) (by first | rfl | (simp; done)), ?_⟩
      (repeat' (first | (with_reducible exact Below.refl _ _) | (with_reducible assumption) | (with_reducible refine Below.alloc ?_ ?_ _) | (with_reducible refine below_drewN ?_ _) | (with_reducible refine Below.drew ?_) | (with_reducible refine Below.setCell ?_ ?_ _) | (with_reducible refine below_via (by assumption) ?_ ?_) | (with_reducible refine below_via (later_below _) ?_ ?_) | (with_reducible exact Nat.le_refl _) | omega | (simp; omega) | (simp; done)))
set_option maxHeartbeats 4000000 in
set_option maxRecDepth 100000 in
theorem rwh_o (v : VV) (hv : v.ok) (hs : v.s.size ≤ 4000) (t : ByteArray) (mi ze pl : Bool) (W N : Int) (w : World) : Calls Tryz.prog 51 #[pV t 111 mi ze pl W N, vV v.k v.p v.q v.s v.r] w (fun e w' => e = .returned (.tuple #[.string (mkS (pickL ((wholeF v).2 && (decide (0 ≤ (wholeF v).1) || decide ((8 : Int) = 10))) (baseL (wholeF v).1 8).1)), .bool ((wholeF v).2 && (decide (0 ≤ (wholeF v).1) || decide ((8 : Int) = 10)))]) ∧ Below w.heap.size w w') := by
  have hn := r9int_any v hv hs
  have hbd := @wholeF_bd v
  obtain ⟨n, B, hE⟩ : ∃ n B, wholeF v = (n, B) := ⟨_, _, rfl⟩
  rw [hE] at hn hbd ⊢
  obtain ⟨k, p, q, s, r⟩ := v
  dsimp only at *
  obtain ⟨b1, b2⟩ := hbd
  have HN := Lib.hid hn
  clear hn hE
  have hX := rbase_any n 8 (by omega) (by omega)
  unfold strE at hX
  rw [baseL_is (by omega)] at hX ⊢
  dsimp only at hX ⊢
  obtain ⟨X, hX2⟩ : ∃ X, bText (8 : Int).toNat n = X := ⟨_, rfl⟩
  rw [hX2] at hX ⊢
  have HX := Lib.hid hX
  clear hX hX2 hv
  by_cases h0 : 0 ≤ n
  all_goals
    first | rw [decide_eq_true h0] | rw [decide_eq_false h0]
    first | (have d0 : decide (n < 0) = false := decide_eq_false (by omega)) | (have d0 : decide (n < 0) = true := decide_eq_true (by omega))
    clear h0
    cases B
    all_goals
      go_enter Tryz.func51, Tryz.ntmps51
      go_wp2_with (first | (go_at_call 56; (with_reducible refine (HN.out _).mono ?_); rintro e w1 ⟨rfl, hb⟩; (refine mem hb ?_; intro N hN hz hc hf; (try simp at hN); subst hN)) | (go_at_call 80; (with_reducible refine (HX.out _).mono ?_); rintro e w2 ⟨rfl, hb⟩; (refine mem hb ?_; intro N hN hz hc hf; (try simp at hN); subst hN)))
      go_returns
      refine ⟨ret_sb (by first | rfl | (simp [pickL]; done)) (by first | rfl | (simp; done)), ?_⟩
      (repeat' (first | (with_reducible exact Below.refl _ _) | (with_reducible assumption) | (with_reducible refine Below.alloc ?_ ?_ _) | (with_reducible refine below_drewN ?_ _) | (with_reducible refine Below.drew ?_) | (with_reducible refine Below.setCell ?_ ?_ _) | (with_reducible refine below_via (by assumption) ?_ ?_) | (with_reducible refine below_via (later_below _) ?_ ?_) | (with_reducible exact Nat.le_refl _) | omega | (simp; omega) | (simp; done)))
set_option maxHeartbeats 4000000 in
set_option maxRecDepth 100000 in
theorem rwh_X (v : VV) (hv : v.ok) (hs : v.s.size ≤ 4000) (t : ByteArray) (mi ze pl : Bool) (W N : Int) (w : World) : Calls Tryz.prog 51 #[pV t 88 mi ze pl W N, vV v.k v.p v.q v.s v.r] w (fun e w' => e = .returned (.tuple #[.string (mkS (pickL ((wholeF v).2 && (decide (0 ≤ (wholeF v).1) || decide ((16 : Int) = 10))) ((baseL (wholeF v).1 16).1.map upC))), .bool ((wholeF v).2 && (decide (0 ≤ (wholeF v).1) || decide ((16 : Int) = 10)))]) ∧ Below w.heap.size w w') := by
  have hn := r9int_any v hv hs
  have hbd := @wholeF_bd v
  obtain ⟨n, B, hE⟩ : ∃ n B, wholeF v = (n, B) := ⟨_, _, rfl⟩
  rw [hE] at hn hbd ⊢
  obtain ⟨k, p, q, s, r⟩ := v
  dsimp only at *
  obtain ⟨b1, b2⟩ := hbd
  have HN := Lib.hid hn
  clear hn hE
  have hX := rbase_any n 16 (by omega) (by omega)
  unfold strE at hX
  rw [baseL_is (by omega)] at hX ⊢
  dsimp only at hX ⊢
  have HU : Hid (∀ w', Calls Tryz.prog 81 #[.string (mkS (bText 16 n))] w' fun e w'' => e = .returned (.string (mkS ((bText 16 n).map upC))) ∧ Below w'.heap.size w' w'') := fun w' => by
    have h := rupper_any (mkS (bText 16 n)) w' (by rw [mkS_size]; have := bText_len (n := n) (b := 16) (by omega) b1 b2; omega)
    rw [mkS_list] at h
    exact h
  rw [show (16 : Int).toNat = 16 from rfl] at hX ⊢
  obtain ⟨Y, hY⟩ : ∃ Y, (bText 16 n).map upC = Y := ⟨_, rfl⟩
  rw [hY] at HU ⊢
  obtain ⟨X, hX2⟩ : ∃ X, bText 16 n = X := ⟨_, rfl⟩
  rw [hX2] at hX HU
  clear hY
  have HX := Lib.hid hX
  clear hX hX2 hv
  by_cases h0 : 0 ≤ n
  all_goals
    first | rw [decide_eq_true h0] | rw [decide_eq_false h0]
    first | (have d0 : decide (n < 0) = false := decide_eq_false (by omega)) | (have d0 : decide (n < 0) = true := decide_eq_true (by omega))
    clear h0
    cases B
    all_goals
      go_enter Tryz.func51, Tryz.ntmps51
      go_wp2_with (first | (go_at_call 56; (with_reducible refine (HN.out _).mono ?_); rintro e w1 ⟨rfl, hb⟩; (refine mem hb ?_; intro N hN hz hc hf; (try simp at hN); subst hN)) | (go_at_call 80; (with_reducible refine (HX.out _).mono ?_); rintro e w2 ⟨rfl, hb⟩; (refine mem hb ?_; intro N hN hz hc hf; (try simp at hN); subst hN)) | (go_at_call 81; (with_reducible refine (HU.out _).mono ?_); rintro e w3 ⟨rfl, hb⟩; (refine mem hb ?_; intro N hN hz hc hf; (try simp at hN); subst hN)))
      go_returns
      refine ⟨ret_sb (by first | rfl | (simp [pickL]; done)) (by first | rfl | (simp; done)), ?_⟩
      (repeat' (first | (with_reducible exact Below.refl _ _) | (with_reducible assumption) | (with_reducible refine Below.alloc ?_ ?_ _) | (with_reducible refine below_drewN ?_ _) | (with_reducible refine Below.drew ?_) | (with_reducible refine Below.setCell ?_ ?_ _) | (with_reducible refine below_via (by assumption) ?_ ?_) | (with_reducible refine below_via (later_below _) ?_ ?_) | (with_reducible exact Nat.le_refl _) | omega | (simp; omega) | (simp; done)))
set_option maxHeartbeats 4000000 in
set_option maxRecDepth 100000 in
theorem r9text_any (v : VV) (hv : v.ok) (w : World) : Calls Tryz.prog 55 #[vV v.k v.p v.q v.s v.r] w fun e w' =>
    e = .returned (.tuple #[.string (mkS (rtxtL v)), .bool (decide (v.k = 3) || (decide (v.k = 2) && vldB v.p v.q))]) ∧ Below w.heap.size w w' := by
  obtain ⟨k, p, q, s, r⟩ := v
  obtain ⟨b1, b2, hs⟩ := hv
  unfold rtxtL
  dsimp only at *
  have HX := Lib.hid (fun w' => rtext_any p q w' b1 b2)
  have HV := Lib.hid (fun w' => rvalid_any p q w' b1 b2)
  obtain ⟨X, hX⟩ : ∃ X, textL p q = X := ⟨_, rfl⟩
  rw [hX] at HX ⊢
  obtain ⟨B, hB⟩ : ∃ B, vldB p q = B := ⟨_, rfl⟩
  rw [hB] at HV ⊢
  clear hX hB
  by_cases h3 : k = 3
  · subst h3
    rw [if_pos rfl, mkS_of]
    go_enter Tryz.func55, Tryz.ntmps55
    go_wp2_with fail
    go_returns
    refine ⟨rfl, ?_⟩
    (repeat' (first | (with_reducible exact Below.refl _ _) | (with_reducible assumption) | (with_reducible refine Below.alloc ?_ ?_ _) | (with_reducible refine below_drewN ?_ _) | (with_reducible refine Below.drew ?_) | (with_reducible refine Below.setCell ?_ ?_ _) | (with_reducible refine below_via (by assumption) ?_ ?_) | (with_reducible refine below_via (later_below _) ?_ ?_) | (with_reducible exact Nat.le_refl _) | omega | (simp; omega) | (simp; done)))
  · have b3 : (k == 3) = false := by simpa using h3
    rw [decide_eq_false h3, if_neg h3]
    clear h3
    by_cases h2 : k = 2
    · subst h2
      cases B
      · rw [if_neg (by simp)]
        go_enter Tryz.func55, Tryz.ntmps55
        go_wp2_with (first | (go_at_call 54; (with_reducible refine (HX.out _).mono ?_); rintro e w2 ⟨rfl, hb⟩; (refine mem hb ?_; intro N hN hz hc hf; (try simp at hN); subst hN)) | (go_at_call 82; (with_reducible refine (HV.out _).mono ?_); rintro e w3 ⟨rfl, hb⟩; (refine mem hb ?_; intro N hN hz hc hf; (try simp at hN); subst hN)))
        go_returns
        refine ⟨rfl, ?_⟩
        (repeat' (first | (with_reducible exact Below.refl _ _) | (with_reducible assumption) | (with_reducible refine Below.alloc ?_ ?_ _) | (with_reducible refine below_drewN ?_ _) | (with_reducible refine Below.drew ?_) | (with_reducible refine Below.setCell ?_ ?_ _) | (with_reducible refine below_via (by assumption) ?_ ?_) | (with_reducible refine below_via (later_below _) ?_ ?_) | (with_reducible exact Nat.le_refl _) | omega | (simp; omega) | (simp; done)))
      · rw [if_pos (by simp)]
        go_enter Tryz.func55, Tryz.ntmps55
        go_wp2_with (first | (go_at_call 54; (with_reducible refine (HX.out _).mono ?_); rintro e w2 ⟨rfl, hb⟩; (refine mem hb ?_; intro N hN hz hc hf; (try simp at hN); subst hN)) | (go_at_call 82; (with_reducible refine (HV.out _).mono ?_); rintro e w3 ⟨rfl, hb⟩; (refine mem hb ?_; intro N hN hz hc hf; (try simp at hN); subst hN)))
        go_returns
        refine ⟨rfl, ?_⟩
        (repeat' (first | (with_reducible exact Below.refl _ _) | (with_reducible assumption) | (with_reducible refine Below.alloc ?_ ?_ _) | (with_reducible refine below_drewN ?_ _) | (with_reducible refine Below.drew ?_) | (with_reducible refine Below.setCell ?_ ?_ _) | (with_reducible refine below_via (by assumption) ?_ ?_) | (with_reducible refine below_via (later_below _) ?_ ?_) | (with_reducible exact Nat.le_refl _) | omega | (simp; omega) | (simp; done)))
    · have b2' : (k == 2) = false := by simpa using h2
      rw [decide_eq_false h2, if_neg (fun h => h2 h.1)]
      clear h2
      go_enter Tryz.func55, Tryz.ntmps55
      go_wp2_with fail
      go_returns
      refine ⟨rfl, ?_⟩
      (repeat' (first | (with_reducible exact Below.refl _ _) | (with_reducible assumption) | (with_reducible refine Below.alloc ?_ ?_ _) | (with_reducible refine below_drewN ?_ _) | (with_reducible refine Below.drew ?_) | (with_reducible refine Below.setCell ?_ ?_ _) | (with_reducible refine below_via (by assumption) ?_ ?_) | (with_reducible refine below_via (later_below _) ?_ ?_) | (with_reducible exact Nat.le_refl _) | omega | (simp; omega) | (simp; done)))
theorem rtxtL_len (v : VV) (hv : v.ok) : (rtxtL v).length ≤ 1000000 := by
  unfold rtxtL
  split
  · have := hv.2.2; simpa using this
  · split
    · have := textL_len v.p v.q; omega
    · simp
theorem rtxtL_is (v : VV) (h : (decide (v.k = 3) || (decide (v.k = 2) && vldB v.p v.q)) = true) : rtxtL v = if v.k = 2 then textL v.p v.q else v.s.data.toList := by
  unfold rtxtL
  by_cases h3 : v.k = 3
  · rw [if_pos h3, if_neg (by omega)]
  · rw [if_neg h3]
    simp [h3] at h
    rw [if_pos h, if_pos h.1]
set_option maxHeartbeats 4000000 in
set_option maxRecDepth 100000 in
theorem rdg_d (v : VV) (hv : v.ok) (hs : v.s.size ≤ 4000) (t : ByteArray) (mi ze pl : Bool) (W N : Int) (w : World) : Calls Tryz.prog 34 #[pV t 100 mi ze pl W N, vV v.k v.p v.q v.s v.r] w (fun e w' => e = .returned (.tuple #[.string (mkS (pickL ((wholeF v).2 && (decide (0 ≤ (wholeF v).1) || decide ((10 : Int) = 10))) (baseL (wholeF v).1 10).1)), .bool ((wholeF v).2 && (decide (0 ≤ (wholeF v).1) || decide ((10 : Int) = 10)))]) ∧ Below w.heap.size w w') := by
  have h := rwh_d v hv hs t mi ze pl W N
  obtain ⟨Y, hY⟩ : ∃ Y, pickL ((wholeF v).2 && (decide (0 ≤ (wholeF v).1) || decide ((10 : Int) = 10))) (baseL (wholeF v).1 10).1 = Y := ⟨_, rfl⟩
  obtain ⟨B, hB⟩ : ∃ B, ((wholeF v).2 && (decide (0 ≤ (wholeF v).1) || decide ((10 : Int) = 10))) = B := ⟨_, rfl⟩
  rw [hY, hB] at h ⊢
  obtain ⟨k, p, q, s, r⟩ := v
  dsimp only at *
  have H := Lib.hid h
  clear h hB hY hv
  go_enter Tryz.func34, Tryz.ntmps34
  go_wp2_with (first | (go_at_call 51; (with_reducible refine (H.out _).mono ?_); rintro e w1 ⟨rfl, hb⟩; (refine mem hb ?_; intro N hN hz hc hf; (try simp at hN); subst hN)))
  go_returns
  refine ⟨rfl, ?_⟩
  (repeat' (first | (with_reducible exact Below.refl _ _) | (with_reducible assumption) | (with_reducible refine Below.alloc ?_ ?_ _) | (with_reducible refine below_drewN ?_ _) | (with_reducible refine Below.drew ?_) | (with_reducible refine Below.setCell ?_ ?_ _) | (with_reducible refine below_via (by assumption) ?_ ?_) | (with_reducible refine below_via (later_below _) ?_ ?_) | (with_reducible exact Nat.le_refl _) | omega | (simp; omega) | (simp; done)))
set_option maxHeartbeats 4000000 in
set_option maxRecDepth 100000 in
theorem rdg_x (v : VV) (hv : v.ok) (hs : v.s.size ≤ 4000) (t : ByteArray) (mi ze pl : Bool) (W N : Int) (w : World) : Calls Tryz.prog 34 #[pV t 120 mi ze pl W N, vV v.k v.p v.q v.s v.r] w (fun e w' => e = .returned (.tuple #[.string (mkS (pickL ((wholeF v).2 && (decide (0 ≤ (wholeF v).1) || decide ((16 : Int) = 10))) (baseL (wholeF v).1 16).1)), .bool ((wholeF v).2 && (decide (0 ≤ (wholeF v).1) || decide ((16 : Int) = 10)))]) ∧ Below w.heap.size w w') := by
  have h := rwh_x v hv hs t mi ze pl W N
  obtain ⟨Y, hY⟩ : ∃ Y, pickL ((wholeF v).2 && (decide (0 ≤ (wholeF v).1) || decide ((16 : Int) = 10))) (baseL (wholeF v).1 16).1 = Y := ⟨_, rfl⟩
  obtain ⟨B, hB⟩ : ∃ B, ((wholeF v).2 && (decide (0 ≤ (wholeF v).1) || decide ((16 : Int) = 10))) = B := ⟨_, rfl⟩
  rw [hY, hB] at h ⊢
  obtain ⟨k, p, q, s, r⟩ := v
  dsimp only at *
  have H := Lib.hid h
  clear h hB hY hv
  go_enter Tryz.func34, Tryz.ntmps34
  go_wp2_with (first | (go_at_call 51; (with_reducible refine (H.out _).mono ?_); rintro e w1 ⟨rfl, hb⟩; (refine mem hb ?_; intro N hN hz hc hf; (try simp at hN); subst hN)))
  go_returns
  refine ⟨rfl, ?_⟩
  (repeat' (first | (with_reducible exact Below.refl _ _) | (with_reducible assumption) | (with_reducible refine Below.alloc ?_ ?_ _) | (with_reducible refine below_drewN ?_ _) | (with_reducible refine Below.drew ?_) | (with_reducible refine Below.setCell ?_ ?_ _) | (with_reducible refine below_via (by assumption) ?_ ?_) | (with_reducible refine below_via (later_below _) ?_ ?_) | (with_reducible exact Nat.le_refl _) | omega | (simp; omega) | (simp; done)))
set_option maxHeartbeats 4000000 in
set_option maxRecDepth 100000 in
theorem rdg_o (v : VV) (hv : v.ok) (hs : v.s.size ≤ 4000) (t : ByteArray) (mi ze pl : Bool) (W N : Int) (w : World) : Calls Tryz.prog 34 #[pV t 111 mi ze pl W N, vV v.k v.p v.q v.s v.r] w (fun e w' => e = .returned (.tuple #[.string (mkS (pickL ((wholeF v).2 && (decide (0 ≤ (wholeF v).1) || decide ((8 : Int) = 10))) (baseL (wholeF v).1 8).1)), .bool ((wholeF v).2 && (decide (0 ≤ (wholeF v).1) || decide ((8 : Int) = 10)))]) ∧ Below w.heap.size w w') := by
  have h := rwh_o v hv hs t mi ze pl W N
  obtain ⟨Y, hY⟩ : ∃ Y, pickL ((wholeF v).2 && (decide (0 ≤ (wholeF v).1) || decide ((8 : Int) = 10))) (baseL (wholeF v).1 8).1 = Y := ⟨_, rfl⟩
  obtain ⟨B, hB⟩ : ∃ B, ((wholeF v).2 && (decide (0 ≤ (wholeF v).1) || decide ((8 : Int) = 10))) = B := ⟨_, rfl⟩
  rw [hY, hB] at h ⊢
  obtain ⟨k, p, q, s, r⟩ := v
  dsimp only at *
  have H := Lib.hid h
  clear h hB hY hv
  go_enter Tryz.func34, Tryz.ntmps34
  go_wp2_with (first | (go_at_call 51; (with_reducible refine (H.out _).mono ?_); rintro e w1 ⟨rfl, hb⟩; (refine mem hb ?_; intro N hN hz hc hf; (try simp at hN); subst hN)))
  go_returns
  refine ⟨rfl, ?_⟩
  (repeat' (first | (with_reducible exact Below.refl _ _) | (with_reducible assumption) | (with_reducible refine Below.alloc ?_ ?_ _) | (with_reducible refine below_drewN ?_ _) | (with_reducible refine Below.drew ?_) | (with_reducible refine Below.setCell ?_ ?_ _) | (with_reducible refine below_via (by assumption) ?_ ?_) | (with_reducible refine below_via (later_below _) ?_ ?_) | (with_reducible exact Nat.le_refl _) | omega | (simp; omega) | (simp; done)))
set_option maxHeartbeats 4000000 in
set_option maxRecDepth 100000 in
theorem rdg_X (v : VV) (hv : v.ok) (hs : v.s.size ≤ 4000) (t : ByteArray) (mi ze pl : Bool) (W N : Int) (w : World) : Calls Tryz.prog 34 #[pV t 88 mi ze pl W N, vV v.k v.p v.q v.s v.r] w (fun e w' => e = .returned (.tuple #[.string (mkS (pickL ((wholeF v).2 && (decide (0 ≤ (wholeF v).1) || decide ((16 : Int) = 10))) ((baseL (wholeF v).1 16).1.map upC))), .bool ((wholeF v).2 && (decide (0 ≤ (wholeF v).1) || decide ((16 : Int) = 10)))]) ∧ Below w.heap.size w w') := by
  have h := rwh_X v hv hs t mi ze pl W N
  obtain ⟨Y, hY⟩ : ∃ Y, pickL ((wholeF v).2 && (decide (0 ≤ (wholeF v).1) || decide ((16 : Int) = 10))) ((baseL (wholeF v).1 16).1.map upC) = Y := ⟨_, rfl⟩
  obtain ⟨B, hB⟩ : ∃ B, ((wholeF v).2 && (decide (0 ≤ (wholeF v).1) || decide ((16 : Int) = 10))) = B := ⟨_, rfl⟩
  rw [hY, hB] at h ⊢
  obtain ⟨k, p, q, s, r⟩ := v
  dsimp only at *
  have H := Lib.hid h
  clear h hB hY hv
  go_enter Tryz.func34, Tryz.ntmps34
  go_wp2_with (first | (go_at_call 51; (with_reducible refine (H.out _).mono ?_); rintro e w1 ⟨rfl, hb⟩; (refine mem hb ?_; intro N hN hz hc hf; (try simp at hN); subst hN)))
  go_returns
  refine ⟨rfl, ?_⟩
  (repeat' (first | (with_reducible exact Below.refl _ _) | (with_reducible assumption) | (with_reducible refine Below.alloc ?_ ?_ _) | (with_reducible refine below_drewN ?_ _) | (with_reducible refine Below.drew ?_) | (with_reducible refine Below.setCell ?_ ?_ _) | (with_reducible refine below_via (by assumption) ?_ ?_) | (with_reducible refine below_via (later_below _) ?_ ?_) | (with_reducible exact Nat.le_refl _) | omega | (simp; omega) | (simp; done)))
set_option maxHeartbeats 4000000 in
set_option maxRecDepth 100000 in
theorem rdg_f (v : VV) (hv : v.ok) (hs : v.s.size ≤ 4000) (t : ByteArray) (mi ze pl : Bool) (W N : Int) (w : World) (hN : N ≤ 12) : Calls Tryz.prog 34 #[pV t 102 mi ze pl W N, vV v.k v.p v.q v.s v.r] w (fun e w' => e = .returned (.tuple #[.string (mkS ((fixL (numF v).1 (numF v).2.1 (placesF N)).1)), .bool ((numF v).2.2 && decide ((fixL (numF v).1 (numF v).2.1 (placesF N)).2 = 0))]) ∧ Below w.heap.size w w') := by
  have hn := r9number_any v hv hs
  have hbd := numF_bd hv
  have hok := @numF_ok v
  obtain ⟨P, Q, B, hE⟩ : ∃ P Q B, numF v = (P, Q, B) := ⟨_, _, _, rfl⟩
  rw [hE] at hn hbd hok ⊢
  obtain ⟨k, p, q, s, r⟩ := v
  dsimp only at *
  obtain ⟨b1, b2⟩ := hbd
  have HN := Lib.hid hn
  clear hn hE hv
  have hX := fun w' => rfixed_any P Q (placesF N) w' b1 b2
  have hEB : (B && decide ((fixL P Q (placesF N)).2 = 0)) = B := by
    cases B
    · rfl
    · rw [fixL_ok (hok rfl) (by unfold placesF; split <;> omega) (by unfold placesF; split <;> omega)]; rfl
  rw [hEB]
  unfold strE at hX
  obtain ⟨X, E, hXE⟩ : ∃ X E, fixL P Q (placesF N) = (X, E) := ⟨_, _, rfl⟩
  rw [hXE] at hX ⊢
  dsimp only at hX ⊢
  have HX0 := Lib.hid hX
  clear hX hXE hEB hok
  by_cases hN : N < 0
  all_goals
    have HX : Hid (∀ w', Calls Tryz.prog 53 #[.agg #[.int .i64 P, .int .i64 Q], .int .i64 (if N < 0 then 6 else N)] w' fun e w'' => e = .returned (.tuple #[.string (mkS X), .int .i64 E]) ∧ Below w'.heap.size w' w'') := HX0.out
    first | rw [if_pos hN] at HX | rw [if_neg hN] at HX
    go_enter Tryz.func34, Tryz.ntmps34
    go_wp2_with (first | (go_at_call 52; (with_reducible refine (HN.out _).mono ?_); rintro e w1 ⟨rfl, hb⟩; (refine mem hb ?_; intro N hN hz hc hf; (try simp at hN); subst hN)) | (go_at_call 53; (with_reducible refine (HX.out _).mono ?_); rintro e w2 ⟨rfl, hb⟩; (refine mem hb ?_; intro N hN hz hc hf; (try simp at hN); subst hN)))
    go_returns
    refine ⟨rfl, ?_⟩
    (repeat' (first | (with_reducible exact Below.refl _ _) | (with_reducible assumption) | (with_reducible refine Below.alloc ?_ ?_ _) | (with_reducible refine below_drewN ?_ _) | (with_reducible refine Below.drew ?_) | (with_reducible refine Below.setCell ?_ ?_ _) | (with_reducible refine below_via (by assumption) ?_ ?_) | (with_reducible refine below_via (later_below _) ?_ ?_) | (with_reducible exact Nat.le_refl _) | omega | (simp; omega) | (simp; done)))
set_option maxHeartbeats 4000000 in
set_option maxRecDepth 100000 in
theorem rdg_g (v : VV) (hv : v.ok) (hs : v.s.size ≤ 4000) (t : ByteArray) (mi ze pl : Bool) (W N : Int) (w : World) : Calls Tryz.prog 34 #[pV t 103 mi ze pl W N, vV v.k v.p v.q v.s v.r] w (fun e w' => e = .returned (.tuple #[.string (mkS (textL (numF v).1 (numF v).2.1)), .bool ((numF v).2.2)]) ∧ Below w.heap.size w w') := by
  have hn := r9number_any v hv hs
  have hbd := numF_bd hv
  have hok := @numF_ok v
  obtain ⟨P, Q, B, hE⟩ : ∃ P Q B, numF v = (P, Q, B) := ⟨_, _, _, rfl⟩
  rw [hE] at hn hbd hok ⊢
  obtain ⟨k, p, q, s, r⟩ := v
  dsimp only at *
  obtain ⟨b1, b2⟩ := hbd
  have HN := Lib.hid hn
  clear hn hE hv
  have HX := Lib.hid (fun w' => rtext_any P Q w' b1 b2)
  obtain ⟨X, hX⟩ : ∃ X, textL P Q = X := ⟨_, rfl⟩
  rw [hX] at HX ⊢
  clear hX hok
  go_enter Tryz.func34, Tryz.ntmps34
  go_wp2_with (first | (go_at_call 52; (with_reducible refine (HN.out _).mono ?_); rintro e w1 ⟨rfl, hb⟩; (refine mem hb ?_; intro N hN hz hc hf; (try simp at hN); subst hN)) | (go_at_call 54; (with_reducible refine (HX.out _).mono ?_); rintro e w2 ⟨rfl, hb⟩; (refine mem hb ?_; intro N hN hz hc hf; (try simp at hN); subst hN)))
  go_returns
  refine ⟨rfl, ?_⟩
  (repeat' (first | (with_reducible exact Below.refl _ _) | (with_reducible assumption) | (with_reducible refine Below.alloc ?_ ?_ _) | (with_reducible refine below_drewN ?_ _) | (with_reducible refine Below.drew ?_) | (with_reducible refine Below.setCell ?_ ?_ _) | (with_reducible refine below_via (by assumption) ?_ ?_) | (with_reducible refine below_via (later_below _) ?_ ?_) | (with_reducible exact Nat.le_refl _) | omega | (simp; omega) | (simp; done)))
set_option maxHeartbeats 4000000 in
set_option maxRecDepth 100000 in
theorem rdg_s (v : VV) (hv : v.ok) (hs : v.s.size ≤ 4000) (t : ByteArray) (mi ze pl : Bool) (W N : Int) (w : World) (hN : N ≤ 12) : Calls Tryz.prog 34 #[pV t 115 mi ze pl W N, vV v.k v.p v.q v.s v.r] w (fun e w' => e = .returned (.tuple #[.string (mkS (cutA ⟨[], 115, mi, ze, pl, 0, N⟩ (rtxtL v))), .bool (decide (v.k = 3) || (decide (v.k = 2) && vldB v.p v.q))]) ∧ Below w.heap.size w w') := by
  have h := r9text_any v hv
  have hlen := rtxtL_len v hv
  obtain ⟨B, hB⟩ : ∃ B, (decide (v.k = 3) || (decide (v.k = 2) && vldB v.p v.q)) = B := ⟨_, rfl⟩
  rw [hB] at h ⊢
  obtain ⟨L, hL⟩ : ∃ L, rtxtL v = L := ⟨_, rfl⟩
  rw [hL] at h hlen ⊢
  obtain ⟨k, p, q, s, r⟩ := v
  dsimp only at *
  have H := Lib.hid h
  have hLs := mkS_size L
  have HC : Hid (0 ≤ N → (mkS L).extract 0 N.toNat = mkS (cutA ⟨[], 115, mi, ze, pl, 0, N⟩ L)) := by
    intro h0
    apply mkS_ext
    unfold cutA
    simp only []
    rw [if_neg (by omega), take_extract, mkS_list]
  have HC2 : Hid (¬ (0 ≤ N ∧ N < L.length) → L = cutA ⟨[], 115, mi, ze, pl, 0, N⟩ L) := by
    intro h0
    unfold cutA
    simp only []
    split
    · rfl
    · rw [List.take_of_length_le (by omega)]
  clear h hB hv hL
  by_cases h0 : 0 ≤ N
  · have d0 := decide_eq_true h0
    by_cases h1 : N < L.length
    · have d1 := decide_eq_true h1
      have HE := Lib.hid (HC.out h0)
      clear HC HC2
      go_enter Tryz.func34, Tryz.ntmps34
      go_wp2_with (first | (go_at_call 55; (with_reducible refine (H.out _).mono ?_); rintro e w1 ⟨rfl, hb⟩; (refine mem hb ?_; intro N hN hz hc hf; (try simp at hN); subst hN)))
      go_returns
      refine ⟨ret_sb HE.out rfl, ?_⟩
      (repeat' (first | (with_reducible exact Below.refl _ _) | (with_reducible assumption) | (with_reducible refine Below.alloc ?_ ?_ _) | (with_reducible refine below_drewN ?_ _) | (with_reducible refine Below.drew ?_) | (with_reducible refine Below.setCell ?_ ?_ _) | (with_reducible refine below_via (by assumption) ?_ ?_) | (with_reducible refine below_via (later_below _) ?_ ?_) | (with_reducible exact Nat.le_refl _) | omega | (simp; omega) | (simp; done)))
    · have d1 := decide_eq_false h1
      have HE := Lib.hid (HC2.out (fun h => h1 h.2))
      clear HC HC2
      go_enter Tryz.func34, Tryz.ntmps34
      go_wp2_with (first | (go_at_call 55; (with_reducible refine (H.out _).mono ?_); rintro e w1 ⟨rfl, hb⟩; (refine mem hb ?_; intro N hN hz hc hf; (try simp at hN); subst hN)))
      go_returns
      refine ⟨ret_sb (by rw [← HE.out]) rfl, ?_⟩
      (repeat' (first | (with_reducible exact Below.refl _ _) | (with_reducible assumption) | (with_reducible refine Below.alloc ?_ ?_ _) | (with_reducible refine below_drewN ?_ _) | (with_reducible refine Below.drew ?_) | (with_reducible refine Below.setCell ?_ ?_ _) | (with_reducible refine below_via (by assumption) ?_ ?_) | (with_reducible refine below_via (later_below _) ?_ ?_) | (with_reducible exact Nat.le_refl _) | omega | (simp; omega) | (simp; done)))
  · have d0 := decide_eq_false h0
    have HE := Lib.hid (HC2.out (fun h => h0 h.1))
    clear HC HC2
    go_enter Tryz.func34, Tryz.ntmps34
    go_wp2_with (first | (go_at_call 55; (with_reducible refine (H.out _).mono ?_); rintro e w1 ⟨rfl, hb⟩; (refine mem hb ?_; intro N hN hz hc hf; (try simp at hN); subst hN)))
    go_returns
    refine ⟨ret_sb (by rw [← HE.out]) rfl, ?_⟩
    (repeat' (first | (with_reducible exact Below.refl _ _) | (with_reducible assumption) | (with_reducible refine Below.alloc ?_ ?_ _) | (with_reducible refine below_drewN ?_ _) | (with_reducible refine Below.drew ?_) | (with_reducible refine Below.setCell ?_ ?_ _) | (with_reducible refine below_via (by assumption) ?_ ?_) | (with_reducible refine below_via (later_below _) ?_ ?_) | (with_reducible exact Nat.le_refl _) | omega | (simp; omega) | (simp; done)))
set_option maxHeartbeats 4000000 in
set_option maxRecDepth 100000 in
theorem rdg_c (v : VV) (hv : v.ok) (hs : v.s.size ≤ 4000) (t : ByteArray) (mi ze pl : Bool) (W N : Int) (w : World) : Calls Tryz.prog 34 #[pV t 99 mi ze pl W N, vV v.k v.p v.q v.s v.r] w (fun e w' => e = .returned (.tuple #[.string (mkS (pickL ((wholeF v).2 && (decide (0 ≤ (wholeF v).1) && decide ((wholeF v).1 ≤ 255))) [UInt8.ofNat ((wholeF v).1 % 256).toNat])), .bool ((wholeF v).2 && (decide (0 ≤ (wholeF v).1) && decide ((wholeF v).1 ≤ 255)))]) ∧ Below w.heap.size w w') := by
  have hn := r9int_any v hv hs
  have hbd := @wholeF_bd v
  obtain ⟨n, B, hE⟩ : ∃ n B, wholeF v = (n, B) := ⟨_, _, rfl⟩
  rw [hE] at hn hbd ⊢
  obtain ⟨k, p, q, s, r⟩ := v
  dsimp only at *
  obtain ⟨b1, b2⟩ := hbd
  have HN := Lib.hid hn
  clear hn hE
  clear hv
  by_cases h0 : 0 ≤ n
  all_goals
    first | rw [decide_eq_true h0] | rw [decide_eq_false h0]
    first | (have d0 : decide (n < 0) = false := decide_eq_false (by omega)) | (have d0 : decide (n < 0) = true := decide_eq_true (by omega))
    by_cases h1 : n ≤ 255
    all_goals (try (exfalso; omega))
    all_goals
      first | rw [decide_eq_true h1] | rw [decide_eq_false h1]
      first | (have d1 : decide (255 < n) = false := decide_eq_false (by omega)) | (have d1 : decide (255 < n) = true := decide_eq_true (by omega))
      have hW8 : IntKind.u8.wrap n = ((UInt8.ofNat (n % 256).toNat).toNat : Int) := by
        rw [IntKind.wrap_u8]
        simp
        omega
      obtain ⟨c, hc⟩ : ∃ c : UInt8, UInt8.ofNat (n % 256).toNat = c := ⟨_, rfl⟩
      rw [hc] at hW8 ⊢
      clear hc
      cases B
      all_goals
        go_enter Tryz.func34, Tryz.ntmps34
        go_wp2_with (first | (go_at_call 56; (with_reducible refine (HN.out _).mono ?_); rintro e w1 ⟨rfl, hb⟩; (refine mem hb ?_; intro N hN hz hc hf; (try simp at hN); subst hN); have hcv := str_one c w1))
        go_returns
        refine ⟨ret_sb (by first | rfl | (simp [pickL]; done)) (by first | rfl | (simp; done)), ?_⟩
        (repeat' (first | (with_reducible exact Below.refl _ _) | (with_reducible assumption) | (with_reducible refine Below.alloc ?_ ?_ _) | (with_reducible refine below_drewN ?_ _) | (with_reducible refine Below.drew ?_) | (with_reducible refine Below.setCell ?_ ?_ _) | (with_reducible refine below_via (by assumption) ?_ ?_) | (with_reducible refine below_via (later_below _) ?_ ?_) | (with_reducible exact Nat.le_refl _) | omega | (simp; omega) | (simp; done)))
set_option maxHeartbeats 4000000 in
set_option maxRecDepth 100000 in
theorem rdg_q (v : VV) (hv : v.ok) (hs : v.s.size ≤ 4000) (t : ByteArray) (mi ze pl : Bool) (W N : Int) (w : World) : Calls Tryz.prog 34 #[pV t 113 mi ze pl W N, vV v.k v.p v.q v.s v.r] w (fun e w' => e = .returned (.tuple #[.string (mkS (pickL (decide (v.k = 3)) (quoteL v.s.data.toList))), .bool (decide (v.k = 3))]) ∧ Below w.heap.size w w') := by
  obtain ⟨k, p, q, s, r⟩ := v
  dsimp only at *
  have HX := Lib.hid (fun w' => rquote_any s w' (by omega))
  obtain ⟨X, hX⟩ : ∃ X, quoteL s.data.toList = X := ⟨_, rfl⟩
  rw [hX] at HX ⊢
  clear hX hv
  by_cases h3 : k = 3
  · subst h3
    go_enter Tryz.func34, Tryz.ntmps34
    go_wp2_with (first | (go_at_call 19; (with_reducible refine (HX.out _).mono ?_); rintro e w1 ⟨rfl, hb⟩; (refine mem hb ?_; intro N hN hz hc hf; (try simp at hN); subst hN)))
    go_returns
    refine ⟨ret_sb (by first | rfl | (simp [pickL]; done)) (by first | rfl | (simp; done)), ?_⟩
    (repeat' (first | (with_reducible exact Below.refl _ _) | (with_reducible assumption) | (with_reducible refine Below.alloc ?_ ?_ _) | (with_reducible refine below_drewN ?_ _) | (with_reducible refine Below.drew ?_) | (with_reducible refine Below.setCell ?_ ?_ _) | (with_reducible refine below_via (by assumption) ?_ ?_) | (with_reducible refine below_via (later_below _) ?_ ?_) | (with_reducible exact Nat.le_refl _) | omega | (simp; omega) | (simp; done)))
  · have b3 : (k == 3) = false := by simpa using h3
    have b3' : (k != 3) = true := by simpa using h3
    rw [decide_eq_false h3]
    clear h3
    go_enter Tryz.func34, Tryz.ntmps34
    go_wp2_with fail
    go_returns
    refine ⟨ret_sb (by first | rfl | (simp [pickL]; done)) (by first | rfl | (simp; done)), ?_⟩
    (repeat' (first | (with_reducible exact Below.refl _ _) | (with_reducible assumption) | (with_reducible refine Below.alloc ?_ ?_ _) | (with_reducible refine below_drewN ?_ _) | (with_reducible refine Below.drew ?_) | (with_reducible refine Below.setCell ?_ ?_ _) | (with_reducible refine below_via (by assumption) ?_ ?_) | (with_reducible refine below_via (later_below _) ?_ ?_) | (with_reducible exact Nat.le_refl _) | omega | (simp; omega) | (simp; done)))
/-- What the reference's digits hands back. -/
def rdX (p : Pc) (v : VV) : List UInt8 :=
  if p.v = 102 ∨ p.v = 103 then (digF p v).1
  else if p.v = 115 then cutA p (rtxtL v)
  else if p.v = 99 ∨ p.v = 113 then pickL (txtF p v).2 (txtF p v).1
  else pickL (digF p v).2 (digF p v).1
/-- Whether the argument fits, and its text. -/
def argT (p : Pc) (v : VV) : List UInt8 × Bool := if p.v = 115 ∨ p.v = 99 ∨ p.v = 113 then txtF p v else digF p v
theorem rdX_is {p : Pc} {v : VV} (h : (argT p v).2 = true) : rdX p v = (argT p v).1 := by
  unfold argT at h ⊢
  unfold rdX
  by_cases h1 : p.v = 115 ∨ p.v = 99 ∨ p.v = 113
  · rw [if_pos h1] at h ⊢
    rw [if_neg (by omega)]
    by_cases h2 : p.v = 115
    · rw [if_pos h2]
      unfold txtF at h ⊢
      rw [if_neg (by omega), if_neg (by omega)] at h ⊢
      simp only [] at h ⊢
      rw [rtxtL_is v h]
    · rw [if_neg h2, if_pos (by omega), pick_yes h]
  · rw [if_neg h1] at h ⊢
    by_cases h2 : p.v = 102 ∨ p.v = 103
    · rw [if_pos h2]
    · rw [if_neg h2, if_neg (by omega), if_neg (by omega), pick_yes h]
theorem rdig9_any (p : Pc) (v : VV) (hv : v.ok) (hs : v.s.size ≤ 4000) (t : ByteArray) (hp : ∃ c, verbB c = true ∧ p.v = c.toNat) (hN : p.n ≤ 12) (w : World) :
    Calls Tryz.prog 34 #[pV t p.v p.mi p.ze p.pl p.w p.n, vV v.k v.p v.q v.s v.r] w fun e w' => e = .returned (.tuple #[.string (mkS (rdX p v)), .bool (argT p v).2]) ∧ Below w.heap.size w w' := by
  obtain ⟨pt, V, mi, ze, pl, W, N⟩ := p
  dsimp only at *
  rcases verb_cases2 hp with h | h | h | h | h | h | h | h | h
  all_goals subst h
  · exact rdg_d v hv hs t mi ze pl W N w
  · exact rdg_x v hv hs t mi ze pl W N w
  · exact rdg_X v hv hs t mi ze pl W N w
  · exact rdg_o v hv hs t mi ze pl W N w
  · exact rdg_f v hv hs t mi ze pl W N w hN
  · exact rdg_s v hv hs t mi ze pl W N w hN
  · exact rdg_c v hv hs t mi ze pl W N w
  · exact rdg_q v hv hs t mi ze pl W N w
  · exact rdg_g v hv hs t mi ze pl W N w
end Go.Proofs.YtemlijadhdejeaaGreatDoor
