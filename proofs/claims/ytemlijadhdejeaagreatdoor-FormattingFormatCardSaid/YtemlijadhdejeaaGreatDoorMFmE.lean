/- The reference's digit, verb, number of a format. -/
import Derived.Test.YtemlijadhdejeaaGreatDoorMFmW9
namespace Go.Proofs.YtemlijadhdejeaaGreatDoor
open Go.RowKit Go.Instr
set_option linter.unusedVariables false

theorem rdg_in (s : ByteArray) (k : Nat) (w : World) (h : k < s.size) (hs : s.size ≤ 1000000) : Calls Tryz.prog 46 #[.string s, .int .i64 k] w fun e w' => e = .returned (.bool (digB (s[k]'h))) ∧ w = w' := by
  obtain ⟨c, hc⟩ : ∃ c, s[k]'h = c := ⟨_, rfl⟩
  rw [hc]
  have hc0 := UInt8.toNat_lt c
  by_cases h1 : 48 ≤ c.toNat
  · have a1 := decide_eq_true h1
    have d1 : decide ((48 : Int) ≤ (c.toNat : Int)) = true := by simp; omega
    by_cases h2 : c.toNat ≤ 57
    · have a2 := decide_eq_true h2
      have d2 : decide ((c.toNat : Int) ≤ 57) = true := by simp; omega
      rw [show digB c = true by unfold digB; rw [a1, a2]; rfl]
      clear h1 h2 a1 a2
      go_enter Tryz.func46, Tryz.ntmps46
      go_wp2
      go_returns
      exact ⟨rfl, rfl⟩
    · have a2 := decide_eq_false h2
      have d2 : decide ((c.toNat : Int) ≤ 57) = false := by simp; omega
      rw [show digB c = false by unfold digB; rw [a1, a2]; rfl]
      clear h1 h2 a1 a2
      go_enter Tryz.func46, Tryz.ntmps46
      go_wp2
      go_returns
      exact ⟨rfl, rfl⟩
  · have a1 := decide_eq_false h1
    have d1 : decide ((48 : Int) ≤ (c.toNat : Int)) = false := by simp; omega
    rw [show digB c = false by unfold digB; rw [a1]; rfl]
    clear h1 a1
    go_enter Tryz.func46, Tryz.ntmps46
    go_wp2
    go_returns
    exact ⟨rfl, rfl⟩
theorem rdg_out (s : ByteArray) (k : Nat) (w : World) (h : s.size ≤ k) (hs : k ≤ 1000000) : Calls Tryz.prog 46 #[.string s, .int .i64 k] w fun e w' => e = .returned (.bool false) ∧ w = w' := by
  have d1 : decide (k < s.size) = false := by simp; omega
  go_enter Tryz.func46, Tryz.ntmps46
  go_wp2
  go_returns
  exact ⟨rfl, rfl⟩
theorem rdg_any (s : ByteArray) (k : Nat) (w : World) (hk : k ≤ 1000000) (hs : s.size ≤ 1000000) : Calls Tryz.prog 46 #[.string s, .int .i64 k] w fun e w' => e = .returned (.bool (digAt s k)) ∧ w = w' := by
  unfold digAt
  by_cases h : k < s.size
  · rw [List.getElem?_eq_getElem (by simpa using h)]
    exact rdg_in s k w h hs
  · rw [List.getElem?_eq_none (by simp; omega)]
    exact rdg_out s k w (by omega) hk
theorem verb9 (c : UInt8) (h : verbB c = true) : c.toNat = 100 ∨ c.toNat = 120 ∨ c.toNat = 88 ∨ c.toNat = 111 ∨ c.toNat = 102 ∨ c.toNat = 115 ∨ c.toNat = 99 ∨ c.toNat = 113 ∨ c.toNat = 103 := by
  unfold verbB verbs at h
  simp at h
  rcases h with h | h | h | h | h | h | h | h | h <;> subst h <;> simp
theorem verb9_no (c : UInt8) (h : verbB c = false) : ¬ c.toNat = 100 ∧ ¬ c.toNat = 120 ∧ ¬ c.toNat = 88 ∧ ¬ c.toNat = 111 ∧ ¬ c.toNat = 102 ∧ ¬ c.toNat = 115 ∧ ¬ c.toNat = 99 ∧ ¬ c.toNat = 113 ∧ ¬ c.toNat = 103 := by
  have := (by decide +kernel : ∀ c : Fin 256, verbB (UInt8.ofNat c.val) = false → ¬ c.val = 100 ∧ ¬ c.val = 120 ∧ ¬ c.val = 88 ∧ ¬ c.val = 111 ∧ ¬ c.val = 102 ∧ ¬ c.val = 115 ∧ ¬ c.val = 99 ∧ ¬ c.val = 113 ∧ ¬ c.val = 103) ⟨c.toNat, UInt8.toNat_lt c⟩ (by simpa using h)
  exact this
set_option maxHeartbeats 2000000 in
theorem rverb_any (c : UInt8) (w : World) : Calls Tryz.prog 47 #[.int .u8 c.toNat] w fun e w' => e = .returned (.bool (verbB c)) ∧ w = w' := by
  cases h : verbB c
  · obtain ⟨h1, h2, h3, h4, h5, h6, h7, h8, h9⟩ := verb9_no c h
    have b1 : ((c.toNat : Int) == 100) = false := by simp; omega
    have b2 : ((c.toNat : Int) == 120) = false := by simp; omega
    have b3 : ((c.toNat : Int) == 88) = false := by simp; omega
    have b4 : ((c.toNat : Int) == 111) = false := by simp; omega
    have b5 : ((c.toNat : Int) == 102) = false := by simp; omega
    have b6 : ((c.toNat : Int) == 115) = false := by simp; omega
    have b7 : ((c.toNat : Int) == 99) = false := by simp; omega
    have b8 : ((c.toNat : Int) == 113) = false := by simp; omega
    have b9 : ((c.toNat : Int) == 103) = false := by simp; omega
    clear h h1 h2 h3 h4 h5 h6 h7 h8 h9
    go_enter Tryz.func47, Tryz.ntmps47
    go_wp2
    go_returns
    exact ⟨rfl, rfl⟩
  · have h9 := verb9 c h
    obtain ⟨n, hn⟩ : ∃ n, c.toNat = n := ⟨_, rfl⟩
    rw [hn] at h9 ⊢
    clear h hn
    rcases h9 with h | h | h | h | h | h | h | h | h
    all_goals
      subst h
      go_enter Tryz.func47, Tryz.ntmps47
      go_wp2
      go_returns
      exact ⟨rfl, rfl⟩
set_option maxHeartbeats 4000000 in
set_option maxRecDepth 100000 in
theorem rnum_any (s : ByteArray) (i : Nat) (w : World) (hi : i ≤ s.size) (hs : s.size ≤ 100000) :
    Calls Tryz.prog 45 #[.string s, .int .i64 i] w fun e w' => e = .returned (.tuple #[.int .i64 (twoD (s.data.toList.drop i)).1, .int .i64 ((i + (twoD (s.data.toList.drop i)).2 : Nat) : Int)]) ∧ Below w.heap.size w w' := by
  obtain ⟨r, hr⟩ : ∃ r, s.data.toList.drop i = r := ⟨_, rfl⟩
  have HRA : Hid (∀ j, r[j]? = s.data.toList[i + j]?) := fun j => by rw [← hr, List.getElem?_drop]
  have hrl : r.length = s.size - i := by rw [← hr, List.length_drop]; simp
  rw [hr]
  have HDG := Lib.hid (fun k w' h => rdg_any s k w' h (by omega))
  clear hr
  go_enter Tryz.func45, Tryz.ntmps45
  go_wp2_with fail
  go_loopw [6, 7, 1] (fun m u v wr => ∃ (j K W : Nat), i + j ≤ K ∧ K ≤ i + j ∧ j ≤ 2 ∧ K ≤ s.size ∧ W ≤ 99 ∧ m = .int .i64 W ∧ u = .int .i64 j ∧ v = .int .i64 K ∧ Hid (digsAt r j W) ∧ Hid (Below w.heap.size w wr)) (fun _ u _ _ => 2 - (intOf u).toNat)
  case atStart => exact ⟨0, i, 0, by omega, by omega, by omega, by omega, by omega, rfl, rfl, rfl, .inl ⟨rfl, rfl⟩, Below.refl _ _⟩
  case round =>
    obtain ⟨j, K, W, hK1, hK2, hj2, hKs, hW, rfl, rfl, rfl, HD, HB⟩ := hrel
    have hKe : K = i + j := by omega
    have HDK := Lib.hid (fun w' => HDG.out K w' (by omega))
    by_cases hgo : j < 2 ∧ digAt s K = true
    · obtain ⟨hjj, hda⟩ := hgo
      have hKlt : K < s.size := by
        by_cases h : K < s.size
        · exact h
        · unfold digAt at hda
          rw [List.getElem?_eq_none (by simp; omega)] at hda
          cases hda
      have hdc : digB (s[K]'hKlt) = true := by
        unfold digAt at hda
        rw [List.getElem?_eq_getElem (by simpa using hKlt)] at hda
        exact hda
      have hra : r[j]? = some (s[K]'hKlt) := by
        rw [HRA.out j, ← hKe, List.getElem?_eq_getElem (by simpa using hKlt)]; rfl
      have HS2 := Lib.hid (HD.out.step hjj hra hdc)
      rw [hda] at HDK
      obtain ⟨c, hc⟩ : ∃ c, s[K]'hKlt = c := ⟨_, rfl⟩
      rw [hc] at HS2 hdc
      obtain ⟨b48, b57⟩ := dig_bd9 hdc
      have z48 : (48 : Int) ≤ (c.toNat : Int) := by omega
      have z57 : (c.toNat : Int) ≤ 57 := by omega
      have bj : decide ((j : Int) < 2) = true := by rw [decide_eq_true_eq]; omega
      have hW2 := HS2.out.bd.2.1
      clear hda hdc hra hKe
      go_wp2_with (first | (go_at_call 46; (with_reducible refine (HDK.out _).mono ?_); rintro e w1 ⟨rfl, rfl⟩))
      refine ⟨⟨j + 1, K + 1, W * 10 + (c.toNat - 48), by omega, by omega, by omega, by omega, hW2, ?_, by go_num, by go_num, HS2.out, HB.out⟩, by simp [intOf]; omega⟩
      rw [show ((W * 10 + (c.toNat - 48) : Nat) : Int) = 10 * (W : Int) + ((c.toNat : Int) - 48) by omega]
    · have hdone : j = 2 ∨ (j < 2 ∧ digAt s K = false) := by
        by_cases h : j < 2
        · right; refine ⟨h, ?_⟩
          cases hb : digAt s K
          · rfl
          · exact absurd ⟨h, hb⟩ hgo
        · left; omega
      have htw : twoD r = (W, j) := HD.out.done (by
        rcases hdone with h | ⟨h, hb⟩
        · exact .inl h
        · right
          intro x hx
          rw [HRA.out j, ← hKe] at hx
          unfold digAt at hb
          rw [hx] at hb
          exact hb)
      have HTW : Hid (((i + (twoD r).2 : Nat) : Int) = (K : Int) ∧ (twoD r).1 = W) := by rw [htw]; exact ⟨by simp only []; rw [← hKe], rfl⟩
      clear hgo htw hKe
      rcases hdone with h | ⟨h, hb⟩
      · have bj : decide ((j : Int) < 2) = false := by rw [decide_eq_false_iff_not]; omega
        clear h
        go_wp2_with fail
        go_returns
        exact ⟨by rw [HTW.out.1, HTW.out.2]; rfl, HB.out⟩
      · have bj : decide ((j : Int) < 2) = true := by rw [decide_eq_true_eq]; omega
        rw [hb] at HDK
        clear hb
        go_wp2_with (first | (go_at_call 46; (with_reducible refine (HDK.out _).mono ?_); rintro e w1 ⟨rfl, rfl⟩))
        go_returns
        exact ⟨by rw [HTW.out.1, HTW.out.2]; rfl, HB.out⟩
end Go.Proofs.YtemlijadhdejeaaGreatDoor

/- The reference's directive of a format. -/
namespace Go.Proofs.YtemlijadhdejeaaGreatDoor
open Go.RowKit Go.Instr
set_option linter.unusedVariables false

/-- A piece at block B. -/
def QBox (w : World) (B : Nat) (v : Int) (mi ze pl : Bool) (W N : Int) : Prop :=
  w.heap[B]? = some (.cells #[.string ⟨#[]⟩, .int .u8 v, .bool mi, .bool ze, .bool pl, .int .i64 W, .int .i64 N] 32 (0, 0))
theorem QBox.lt {w : World} {B : Nat} {v : Int} {mi ze pl : Bool} {W N : Int} (h : QBox w B v mi ze pl W N) : B < w.heap.size := (Array.getElem?_eq_some_iff.1 h).1
theorem QBox.cells {w : World} {B : Nat} {v : Int} {mi ze pl : Bool} {W N : Int} (h : QBox w B v mi ze pl W N) :
    w.cell? ⟨B, 0, none⟩ = some (.string ⟨#[]⟩) ∧ w.cell? ⟨B, 1, none⟩ = some (.int .u8 v) ∧ w.cell? ⟨B, 2, none⟩ = some (.bool mi) ∧ w.cell? ⟨B, 3, none⟩ = some (.bool ze) ∧ w.cell? ⟨B, 4, none⟩ = some (.bool pl) ∧ w.cell? ⟨B, 5, none⟩ = some (.int .i64 W) ∧ w.cell? ⟨B, 6, none⟩ = some (.int .i64 N) ∧ ∀ i, w.frozen? ⟨B, i, none⟩ = false :=
  ⟨cell_of_row w B 0 _ _ (0, 0) h, cell_of_row w B 1 _ _ (0, 0) h, cell_of_row w B 2 _ _ (0, 0) h, cell_of_row w B 3 _ _ (0, 0) h, cell_of_row w B 4 _ _ (0, 0) h, cell_of_row w B 5 _ _ (0, 0) h, cell_of_row w B 6 _ _ (0, 0) h, fun i => frozen_of_row w B i _ _ h⟩
theorem QBox.later {w w' : World} {B : Nat} {v : Int} {mi ze pl : Bool} {W N : Int} (h : QBox w B v mi ze pl W N) (hb : Below w.heap.size w w') : QBox w' B v mi ze pl W N := (hb.block B h.lt).trans h
theorem QBox.setV {w : World} {B : Nat} {v : Int} {mi ze pl : Bool} {W N : Int} (h : QBox w B v mi ze pl W N) (x : Int) : QBox (w.setCell ⟨B, 1, none⟩ (.int .u8 x)) B x mi ze pl W N := heap_setCell_same w B 1 _ _ _ h
theorem QBox.setMi {w : World} {B : Nat} {v : Int} {mi ze pl : Bool} {W N : Int} (h : QBox w B v mi ze pl W N) (x : Bool) : QBox (w.setCell ⟨B, 2, none⟩ (.bool x)) B v x ze pl W N := heap_setCell_same w B 2 _ _ _ h
theorem QBox.setZe {w : World} {B : Nat} {v : Int} {mi ze pl : Bool} {W N : Int} (h : QBox w B v mi ze pl W N) (x : Bool) : QBox (w.setCell ⟨B, 3, none⟩ (.bool x)) B v mi x pl W N := heap_setCell_same w B 3 _ _ _ h
theorem QBox.setPl {w : World} {B : Nat} {v : Int} {mi ze pl : Bool} {W N : Int} (h : QBox w B v mi ze pl W N) (x : Bool) : QBox (w.setCell ⟨B, 4, none⟩ (.bool x)) B v mi ze x W N := heap_setCell_same w B 4 _ _ _ h
theorem QBox.setW {w : World} {B : Nat} {v : Int} {mi ze pl : Bool} {W N : Int} (h : QBox w B v mi ze pl W N) (x : Int) : QBox (w.setCell ⟨B, 5, none⟩ (.int .i64 x)) B v mi ze pl x N := heap_setCell_same w B 5 _ _ _ h
theorem QBox.setN {w : World} {B : Nat} {v : Int} {mi ze pl : Bool} {W N : Int} (h : QBox w B v mi ze pl W N) (x : Int) : QBox (w.setCell ⟨B, 6, none⟩ (.int .i64 x)) B v mi ze pl W x := heap_setCell_same w B 6 _ _ _ h
theorem qbox_far {w : World} {B C : Nat} {v : Int} {mi ze pl : Bool} {W N : Int} (h : QBox w B v mi ze pl W N) (hC : C ≠ B) (i : Nat) (x : Value) : QBox (w.setCell ⟨C, i, none⟩ x) B v mi ze pl W N := (Below.heap_setCell _ _ _ _ (by simpa using fun e => hC e.symm)).trans h
theorem drop_get3 (s : ByteArray) (i j : Nat) (h : i + j < s.size) : (s.data.toList.drop i)[j]? = some (s[i + j]'h) := by
  rw [List.getElem?_drop, List.getElem?_eq_getElem (by simpa using h)]; rfl
theorem heap_new_at2 (w : World) (o : Obj) (n : Nat) (h : w.heap.size = n) : (w.alloc o).heap[n]? = some o := by subst h; exact heap_alloc_new w o
set_option maxHeartbeats 8000000 in
set_option maxRecDepth 100000 in
theorem rdir_any (s : ByteArray) (i0 : Nat) (w : World) (hi0 : i0 < s.size) (hs : s.size ≤ 100000) :
    Calls Tryz.prog 29 #[.string s, .int .i64 i0] w fun e w' => e = .returned (dirV (i0 + 1) (dirT (s.data.toList.drop (i0 + 1)))) ∧ Below w.heap.size w w' := by
  obtain ⟨i, hi1⟩ : ∃ i, i0 + 1 = i := ⟨_, rfl⟩
  have hi : i ≤ s.size := by omega
  have hii : ((i0 : Int) + 1) = (i : Int) := by omega
  rw [hi1]
  obtain ⟨L, hL⟩ : ∃ L, s.data.toList.drop i = L := ⟨_, rfl⟩
  have hLl : L.length = s.size - i := by rw [← hL]; simp
  have HAT : Hid (∀ j, (h : i + j < s.size) → L[j]? = some (s[i + j]'h)) := fun j h => by rw [← hL]; exact drop_get3 s i j h
  have HDL : Hid (∀ m, L[m]? = s.data.toList[i + m]?) := fun m => by rw [← hL, List.getElem?_drop]
  rw [hL]
  have HDG := Lib.hid (fun k w' h => rdg_any s k w' h (by omega))
  have HNU := Lib.hid (fun k w' h => rnum_any s k w' h hs)
  clear hL hi1
  go_enter Tryz.func29, Tryz.ntmps29
  go_wp2_with fail
  go_loopw [1] (fun u wr => ∃ (n k : Nat) (mi ze pl : Bool), i + n ≤ k ∧ k ≤ i + n ∧ k ≤ s.size ∧ u = .int .i64 k ∧ Hid (flagsAt L n mi ze pl) ∧ Hid (QBox wr w.heap.size 0 false false false 0 0) ∧ Hid (QBox wr (w.heap.size + 1) 0 mi ze pl 0 (-1)) ∧ Hid (Below w.heap.size w wr)) (fun u _ => s.size - (intOf u).toNat)
  case atStart =>
    refine ⟨0, i, false, false, false, by omega, by omega, hi, rfl, ⟨Nat.zero_le _, rfl, rfl, rfl⟩, ?_, ?_, ?_⟩
    · show _ = _
      exact (heap_alloc_old _ _ (by simp)).trans (heap_new_at2 _ _ _ rfl)
    · show _ = _
      exact heap_new_at2 _ _ _ (by simp)
    · show Below _ _ _
      (repeat' (first | (with_reducible exact Below.refl _ _) | (with_reducible assumption) | (with_reducible refine Below.alloc ?_ ?_ _) | (with_reducible refine below_drewN ?_ _) | (with_reducible refine Below.drew ?_) | (with_reducible refine Below.setCell ?_ ?_ _) | (with_reducible refine below_via (by assumption) ?_ ?_) | (with_reducible refine below_via (later_below _) ?_ ?_) | (with_reducible exact Nat.le_refl _) | omega | (simp; omega) | (simp; done)))
  case round =>
    obtain ⟨n, k, mi, ze, pl, hk1, hk2, hks, rfl, HF, HR, HP, HB⟩ := hrel
    have hke : k = i + n := by omega
    have hsz := HP.out.lt
    clear hii
    by_cases hgo : ∃ h : k < s.size, flagB (s[k]'h) = true
    · obtain ⟨p0, p1, p2, p3, p4, p5, p6, pf⟩ := HP.out.cells
      obtain ⟨hlt, hf⟩ := hgo
      have hat : L[n]? = some (s[k]'hlt) := by subst hke; exact HAT.out n hlt
      have HS := Lib.hid (HF.out.step hat hf)
      obtain ⟨c, hc⟩ : ∃ c, s[k]'hlt = c := ⟨_, rfl⟩
      rw [hc] at HS hf
      have hc3 : c.toNat = 45 ∨ c.toNat = 48 ∨ c.toNat = 43 := by unfold flagB at hf; simpa using hf
      clear hat hf hke
      rcases hc3 with h | h | h
      · have b45 : ((c.toNat : Int) == 45) = true := by simp; omega
        have b48 : ((c.toNat : Int) == 48) = false := by simp; omega
        have b43 : ((c.toNat : Int) == 43) = false := by simp; omega
        have HS2 : Hid (flagsAt L (n + 1) true ze pl) := by have := HS.out; rw [decide_eq_true h, decide_eq_false (by omega : ¬ c.toNat = 48), decide_eq_false (by omega : ¬ c.toNat = 43), Bool.or_true, Bool.or_false, Bool.or_false] at this; exact this
        clear HS h
        go_wp2_with fail
        refine ⟨⟨n + 1, k + 1, true, ze, pl, by omega, by omega, by omega, by go_num, HS2.out, qbox_far HR.out (by omega) _ _, HP.out.setMi true, ?_⟩, by simp [intOf]; omega⟩
        have h0 := HB.out
        show Below _ _ _
        (repeat' (first | (with_reducible exact Below.refl _ _) | (with_reducible assumption) | (with_reducible refine Below.alloc ?_ ?_ _) | (with_reducible refine below_drewN ?_ _) | (with_reducible refine Below.drew ?_) | (with_reducible refine Below.setCell ?_ ?_ _) | (with_reducible refine below_via (by assumption) ?_ ?_) | (with_reducible refine below_via (later_below _) ?_ ?_) | (with_reducible exact Nat.le_refl _) | omega | (simp; omega) | (simp; done)))
      · have b45 : ((c.toNat : Int) == 45) = false := by simp; omega
        have b48 : ((c.toNat : Int) == 48) = true := by simp; omega
        have b43 : ((c.toNat : Int) == 43) = false := by simp; omega
        have HS2 : Hid (flagsAt L (n + 1) mi true pl) := by have := HS.out; rw [decide_eq_true h, decide_eq_false (by omega : ¬ c.toNat = 45), decide_eq_false (by omega : ¬ c.toNat = 43), Bool.or_true, Bool.or_false, Bool.or_false] at this; exact this
        clear HS h
        go_wp2_with fail
        refine ⟨⟨n + 1, k + 1, mi, true, pl, by omega, by omega, by omega, by go_num, HS2.out, qbox_far HR.out (by omega) _ _, HP.out.setZe true, ?_⟩, by simp [intOf]; omega⟩
        have h0 := HB.out
        show Below _ _ _
        (repeat' (first | (with_reducible exact Below.refl _ _) | (with_reducible assumption) | (with_reducible refine Below.alloc ?_ ?_ _) | (with_reducible refine below_drewN ?_ _) | (with_reducible refine Below.drew ?_) | (with_reducible refine Below.setCell ?_ ?_ _) | (with_reducible refine below_via (by assumption) ?_ ?_) | (with_reducible refine below_via (later_below _) ?_ ?_) | (with_reducible exact Nat.le_refl _) | omega | (simp; omega) | (simp; done)))
      · have b45 : ((c.toNat : Int) == 45) = false := by simp; omega
        have b48 : ((c.toNat : Int) == 48) = false := by simp; omega
        have b43 : ((c.toNat : Int) == 43) = true := by simp; omega
        have HS2 : Hid (flagsAt L (n + 1) mi ze true) := by have := HS.out; rw [decide_eq_true h, decide_eq_false (by omega : ¬ c.toNat = 45), decide_eq_false (by omega : ¬ c.toNat = 48), Bool.or_true, Bool.or_false, Bool.or_false] at this; exact this
        clear HS h
        go_wp2_with fail
        refine ⟨⟨n + 1, k + 1, mi, ze, true, by omega, by omega, by omega, by go_num, HS2.out, qbox_far HR.out (by omega) _ _, HP.out.setPl true, ?_⟩, by simp [intOf]; omega⟩
        have h0 := HB.out
        show Below _ _ _
        (repeat' (first | (with_reducible exact Below.refl _ _) | (with_reducible assumption) | (with_reducible refine Below.alloc ?_ ?_ _) | (with_reducible refine below_drewN ?_ _) | (with_reducible refine Below.drew ?_) | (with_reducible refine Below.setCell ?_ ?_ _) | (with_reducible refine below_via (by assumption) ?_ ?_) | (with_reducible refine below_via (later_below _) ?_ ?_) | (with_reducible exact Nat.le_refl _) | omega | (simp; omega) | (simp; done)))
    · have hst : s.size ≤ k ∨ ∃ h : k < s.size, flagB (s[k]'h) = false := by
        by_cases h1 : k < s.size
        · right
          refine ⟨h1, ?_⟩
          cases hb : flagB (s[k]'h1)
          · rfl
          · exact absurd ⟨h1, hb⟩ hgo
        · exact .inl (by omega)
      have hn1 : spanN flagB L = n := by
        obtain ⟨h1, -⟩ := HF.out
        have h2 := spanN_le flagB L
        rcases hst with h | ⟨h, hb⟩
        · omega
        · by_cases h3 : n < spanN flagB L
          · have hat : L[n]? = some (s[k]'h) := by subst hke; exact HAT.out n h
            have hm := span_all (p := flagB) (l := L) (k := n + 1) (by omega)
            have hnl : n < L.length := by omega
            have he : L[n] = s[k]'h := (List.getElem?_eq_some_iff.1 hat).2
            have := hm (s[k]'h) (by rw [List.take_succ_eq_append_getElem hnl, he]; exact List.mem_append_right _ (List.mem_singleton.2 rfl))
            rw [hb] at this; cases this
          · omega
      have hdir : dirT L = placeT (L.take n) (twoD (L.drop n)).1 ((L.drop n).drop (twoD (L.drop n)).2) (n + (twoD (L.drop n)).2) := by unfold dirT; rw [hn1]
      have hnl : n ≤ L.length := by omega
      obtain ⟨r, hr⟩ : ∃ r, L.drop n = r := ⟨_, rfl⟩
      have hrs : s.data.toList.drop k = r := by
        rw [← hr]
        apply List.ext_getElem?
        intro m
        rw [List.getElem?_drop, List.getElem?_drop, HDL.out, show i + (n + m) = k + m by omega]
      have hrl : r.length = s.size - k := by rw [← hr, List.length_drop]; omega
      rw [hr] at hdir
      obtain ⟨W, j, hWj⟩ : ∃ W j, twoD r = (W, j) := ⟨_, _, rfl⟩
      have hW := (twoD_bd r).1
      have hj2 := (twoD_bd r).2
      have hjr := twoD_le r
      rw [hWj] at hdir hW hj2 hjr
      dsimp only at hdir hW hj2 hjr
      have HNM : Hid (∀ w', Calls Tryz.prog 45 #[.string s, .int .i64 k] w' fun e w'' => e = .returned (.tuple #[.int .i64 W, .int .i64 ((k + j : Nat) : Int)]) ∧ Below w'.heap.size w' w'') := fun w' => by
        have h := HNU.out k w' hks
        rw [hrs, hWj] at h
        exact h
      obtain ⟨K, hK⟩ : ∃ K, k + j = K := ⟨_, rfl⟩
      rw [hK] at HNM
      have hKs : K ≤ s.size := by omega
      have HRJ : Hid (∀ m, (r.drop j)[m]? = s.data.toList[K + m]?) := fun m => by rw [← hrs, List.drop_drop, List.getElem?_drop, hK]
      have hrj : (r.drop j).length = s.size - K := by rw [List.length_drop]; omega
      have HDIR := Lib.hid hdir
      have HCT : Hid (s.size ≤ k ∨ ∃ h : k < s.size, ¬ (s[k]'h).toNat = 45 ∧ ¬ (s[k]'h).toNat = 48 ∧ ¬ (s[k]'h).toNat = 43) := by
        rcases hst with h | ⟨h, hb⟩
        · exact .inl h
        · right
          unfold flagB at hb
          simp at hb
          exact ⟨h, hb⟩
      obtain ⟨hf1, hf2, hf3, hf4⟩ := HF.out
      have HKJ := Lib.hid hK
      clear hgo hst hn1 hdir hr hke hrs hWj hK
      by_cases hend : s.size ≤ K
      · have hnil : r.drop j = [] := List.drop_eq_nil_of_le (by have := hrj; rw [List.length_drop] at this; omega)
        have HE : Hid (dirV i (dirT L) = dirV i none) := by show _ = _; rw [HDIR.out, hnil]; rfl
        have bl : decide (K < s.size) = false := by simp; omega
        have bl2 : decide ((s.size : Int) ≤ (K : Int)) = true := by simp; omega
        have bl3 : decide (s.size ≤ K) = true := by simp; omega
        clear hnil hrj
        rcases HCT.out with h | ⟨h, h1, h2, h3⟩
        · have bk : decide (k < s.size) = false := by simp; omega
          go_wp2_with (first | (go_at_call 45; (first | ((with_reducible refine (HNM.out _).mono ?_); rintro e w1 ⟨rfl, hb1⟩; have HB1 := Lib.hid hb1; have HP1 := Lib.hid (HP.out.later hb1); have HR1 := Lib.hid (HR.out.later hb1); obtain ⟨p0, p1, p2, p3, p4, p5, p6, pf⟩ := HP1.out.cells; obtain ⟨z0, z1, z2, z3, z4, z5, z6, zf⟩ := HR1.out.cells; have hs1 := HP1.out.lt; have hs2 := HR1.out.lt; clear hb1) | ((with_reducible refine (HNP.out _).mono ?_); rintro e w2 ⟨rfl, hb2⟩; have HB2 := Lib.hid hb2; have HP2 := Lib.hid ((HP1.out.setW _).later hb2); have HR2 := Lib.hid ((qbox_far HR1.out (by omega) 5 _).later hb2); obtain ⟨y0, y1, y2, y3, y4, y5, y6, yf⟩ := HP2.out.cells; obtain ⟨x0, x1, x2, x3, x4, x5, x6, xf⟩ := HR2.out.cells; have hs3 := HP2.out.lt; have hs4 := HR2.out.lt; clear hb2))))
          ((try simp only [Exit.inBlock, Exit.then]); refine bodyPost_ret (by first | (simp [results, Tryz.results29, go_sem, *]; done) | (simp [results, Tryz.results29, go_sem, *]; rfl) | (simp [results, Tryz.results29, go_sem, ↓IntWalk.iteOmega, *]; try rfl)) rfl ?_)
          exact ⟨by rw [HE.out]; first | done | rfl, by have h0 := HB.out.trans (HB1.out.mono (by omega)); (repeat' (first | (with_reducible exact Below.refl _ _) | (with_reducible assumption) | (with_reducible refine Below.alloc ?_ ?_ _) | (with_reducible refine below_drewN ?_ _) | (with_reducible refine Below.drew ?_) | (with_reducible refine Below.setCell ?_ ?_ _) | (with_reducible refine below_via (by assumption) ?_ ?_) | (with_reducible refine below_via (later_below _) ?_ ?_) | (with_reducible exact Nat.le_refl _) | omega | (simp; omega) | (simp; done)))⟩
        · have bk : decide (k < s.size) = true := by simp; omega
          have c1 : (((s[k]'h).toNat : Int) == 45) = false := by simp; omega
          have c2 : (((s[k]'h).toNat : Int) == 48) = false := by simp; omega
          have c3 : (((s[k]'h).toNat : Int) == 43) = false := by simp; omega
          go_wp2_with (first | (go_at_call 45; (first | ((with_reducible refine (HNM.out _).mono ?_); rintro e w1 ⟨rfl, hb1⟩; have HB1 := Lib.hid hb1; have HP1 := Lib.hid (HP.out.later hb1); have HR1 := Lib.hid (HR.out.later hb1); obtain ⟨p0, p1, p2, p3, p4, p5, p6, pf⟩ := HP1.out.cells; obtain ⟨z0, z1, z2, z3, z4, z5, z6, zf⟩ := HR1.out.cells; have hs1 := HP1.out.lt; have hs2 := HR1.out.lt; clear hb1) | ((with_reducible refine (HNP.out _).mono ?_); rintro e w2 ⟨rfl, hb2⟩; have HB2 := Lib.hid hb2; have HP2 := Lib.hid ((HP1.out.setW _).later hb2); have HR2 := Lib.hid ((qbox_far HR1.out (by omega) 5 _).later hb2); obtain ⟨y0, y1, y2, y3, y4, y5, y6, yf⟩ := HP2.out.cells; obtain ⟨x0, x1, x2, x3, x4, x5, x6, xf⟩ := HR2.out.cells; have hs3 := HP2.out.lt; have hs4 := HR2.out.lt; clear hb2))))
          ((try simp only [Exit.inBlock, Exit.then]); refine bodyPost_ret (by first | (simp [results, Tryz.results29, go_sem, *]; done) | (simp [results, Tryz.results29, go_sem, *]; rfl) | (simp [results, Tryz.results29, go_sem, ↓IntWalk.iteOmega, *]; try rfl)) rfl ?_)
          exact ⟨by rw [HE.out]; first | done | rfl, by have h0 := HB.out.trans (HB1.out.mono (by omega)); (repeat' (first | (with_reducible exact Below.refl _ _) | (with_reducible assumption) | (with_reducible refine Below.alloc ?_ ?_ _) | (with_reducible refine below_drewN ?_ _) | (with_reducible refine Below.drew ?_) | (with_reducible refine Below.setCell ?_ ?_ _) | (with_reducible refine below_via (by assumption) ?_ ?_) | (with_reducible refine below_via (later_below _) ?_ ?_) | (with_reducible exact Nat.le_refl _) | omega | (simp; omega) | (simp; done)))⟩
      · have hlt : K < s.size := by omega
        have hk4 : k < s.size := by have := HKJ.out; omega
        obtain ⟨h, h1, h2, h3⟩ := HCT.out.resolve_left (by omega)
        have bk : decide (k < s.size) = true := by simp; omega
        have c1 : (((s[k]'h).toNat : Int) == 45) = false := by simp; omega
        have c2 : (((s[k]'h).toNat : Int) == 48) = false := by simp; omega
        have c3 : (((s[k]'h).toNat : Int) == 43) = false := by simp; omega
        have bl : decide (K < s.size) = true := by simp; omega
        have hd0 : (r.drop j)[0]? = some (s[K]'hlt) := by
          rw [HRJ.out 0, Nat.add_zero, List.getElem?_eq_getElem (by simpa using hlt)]; rfl
        obtain ⟨c, hc⟩ : ∃ c, s[K]'hlt = c := ⟨_, rfl⟩
        rw [hc] at hd0
        obtain ⟨u, hu⟩ : ∃ u, r.drop j = c :: u := by
          cases hx : r.drop j with
          | nil => rw [hx] at hd0; cases hd0
          | cons d v => rw [hx] at hd0; simp at hd0; exact ⟨v, by rw [hd0]⟩
        rw [hu] at HDIR
        clear hd0 hend h1 h2 h3
        by_cases h46 : c.toNat = 46
        · have b46 : ((c.toNat : Int) == 46) = true := by simp; omega
          have HUA : Hid (s.data.toList.drop (K + 1) = u) := by
            show _ = _
            apply List.ext_getElem?
            intro m
            have := HRJ.out (1 + m)
            rw [hu, Nat.add_comm 1 m, List.getElem?_cons_succ] at this
            rw [this, List.getElem?_drop, show K + (m + 1) = K + 1 + m by omega]
          have hul : u.length = s.size - K - 1 := by
            have : (r.drop j).length = u.length + 1 := by rw [hu]; rfl
            omega
          have HDR : Hid (dirT L = (if (twoD u).2 = 0 then none else if 12 < (twoD u).1 then none else verbT (L.take n) W ((twoD u).1 : Int) (u.drop (twoD u).2) (n + j + 1 + (twoD u).2))) := by show _ = _; rw [HDIR.out]; unfold placeT; simp only []; rw [if_pos h46]
          have HDP : Hid (∀ w', Calls Tryz.prog 46 #[.string s, .int .i64 ((K : Int) + 1)] w' fun e w'' => e = .returned (.bool (digAt s (K + 1))) ∧ w' = w'') := fun w' => HDG.out (K + 1) w' (by omega)
          have hd20 : digAt s (K + 1) = decide ((twoD u).2 ≠ 0) := by
            unfold digAt
            have e0 : s.data.toList[K + 1]? = u[0]? := by rw [← HUA.out, List.getElem?_drop, Nat.add_zero]
            rw [e0]
            cases u with
            | nil => rfl
            | cons d t =>
              simp only [List.getElem?_cons_zero]
              cases hd : digB d
              · simp [twoD, hd]
              · cases t with
                | nil => simp [twoD, hd]
                | cons d2 t2 => simp [twoD, hd]; split <;> simp
          obtain ⟨N, j3, hNj⟩ : ∃ N j3, twoD u = (N, j3) := ⟨_, _, rfl⟩
          have hN := (twoD_bd u).1
          have hj3 := twoD_le u
          rw [hNj] at HDR hd20 hN hj3
          dsimp only at HDR hd20 hN hj3
          rw [hd20] at HDP
          have HNP : Hid (∀ w', Calls Tryz.prog 45 #[.string s, .int .i64 ((K : Int) + 1)] w' fun e w'' => e = .returned (.tuple #[.int .i64 N, .int .i64 ((K + 1 + j3 : Nat) : Int)]) ∧ Below w'.heap.size w' w'') := fun w' => by
            have h := HNU.out (K + 1) w' (by omega)
            rw [HUA.out, hNj] at h
            exact h
          clear h46 hu hd20 hNj hrj
          by_cases hj0 : j3 = 0
          · have HE : Hid (dirV i (dirT L) = dirV i none) := by show _ = _; rw [HDR.out, if_pos hj0]
            rw [show decide (j3 ≠ 0) = false by simp [hj0]] at HDP
            clear hj0
            go_wp2_with (first | (go_at_call 46; (with_reducible refine (HDP.out _).mono ?_); rintro e w1 ⟨rfl, rfl⟩) | (go_at_call 45; (first | ((with_reducible refine (HNM.out _).mono ?_); rintro e w1 ⟨rfl, hb1⟩; have HB1 := Lib.hid hb1; have HP1 := Lib.hid (HP.out.later hb1); have HR1 := Lib.hid (HR.out.later hb1); obtain ⟨p0, p1, p2, p3, p4, p5, p6, pf⟩ := HP1.out.cells; obtain ⟨z0, z1, z2, z3, z4, z5, z6, zf⟩ := HR1.out.cells; have hs1 := HP1.out.lt; have hs2 := HR1.out.lt; clear hb1) | ((with_reducible refine (HNP.out _).mono ?_); rintro e w2 ⟨rfl, hb2⟩; have HB2 := Lib.hid hb2; have HP2 := Lib.hid ((HP1.out.setW _).later hb2); have HR2 := Lib.hid ((qbox_far HR1.out (by omega) 5 _).later hb2); obtain ⟨y0, y1, y2, y3, y4, y5, y6, yf⟩ := HP2.out.cells; obtain ⟨x0, x1, x2, x3, x4, x5, x6, xf⟩ := HR2.out.cells; have hs3 := HP2.out.lt; have hs4 := HR2.out.lt; clear hb2))))
            ((try simp only [Exit.inBlock, Exit.then]); refine bodyPost_ret (by first | (simp [results, Tryz.results29, go_sem, *]; done) | (simp [results, Tryz.results29, go_sem, *]; rfl) | (simp [results, Tryz.results29, go_sem, ↓IntWalk.iteOmega, *]; try rfl)) rfl ?_)
            exact ⟨by rw [HE.out]; first | done | rfl, by have h0 := HB.out.trans (HB1.out.mono (by omega)); (repeat' (first | (with_reducible exact Below.refl _ _) | (with_reducible assumption) | (with_reducible refine Below.alloc ?_ ?_ _) | (with_reducible refine below_drewN ?_ _) | (with_reducible refine Below.drew ?_) | (with_reducible refine Below.setCell ?_ ?_ _) | (with_reducible refine below_via (by assumption) ?_ ?_) | (with_reducible refine below_via (later_below _) ?_ ?_) | (with_reducible exact Nat.le_refl _) | omega | (simp; omega) | (simp; done)))⟩
          · rw [show decide (j3 ≠ 0) = true by simp [hj0]] at HDP
            have HDR2 : Hid (dirT L = if 12 < N then none else verbT (L.take n) W (N : Int) (u.drop j3) (n + j + 1 + j3)) := by show _ = _; rw [HDR.out, if_neg hj0]
            obtain ⟨K3, hK3⟩ : ∃ K3, K + 1 + j3 = K3 := ⟨_, rfl⟩
            have HUJ : Hid (∀ m, (u.drop j3)[m]? = s.data.toList[K3 + m]?) := fun m => by rw [← HUA.out, List.drop_drop, List.getElem?_drop, hK3]
            have huj : (u.drop j3).length = s.size - K3 := by rw [List.length_drop]; omega
            rw [hK3] at HNP
            have HK3 := Lib.hid hK3
            have hK3s : K3 ≤ s.size := by omega
            clear hj0 hK3
            by_cases h12 : 12 < N
            · have b12 : decide ((12 : Int) < (N : Int)) = true := by rw [decide_eq_true_eq]; omega
              have HE : Hid (dirV i (dirT L) = dirV i none) := by show _ = _; rw [HDR2.out, if_pos h12]
              clear h12
              go_wp2_with (first | (go_at_call 46; (with_reducible refine (HDP.out _).mono ?_); rintro e w1 ⟨rfl, rfl⟩) | (go_at_call 45; (first | ((with_reducible refine (HNM.out _).mono ?_); rintro e w1 ⟨rfl, hb1⟩; have HB1 := Lib.hid hb1; have HP1 := Lib.hid (HP.out.later hb1); have HR1 := Lib.hid (HR.out.later hb1); obtain ⟨p0, p1, p2, p3, p4, p5, p6, pf⟩ := HP1.out.cells; obtain ⟨z0, z1, z2, z3, z4, z5, z6, zf⟩ := HR1.out.cells; have hs1 := HP1.out.lt; have hs2 := HR1.out.lt; clear hb1) | ((with_reducible refine (HNP.out _).mono ?_); rintro e w2 ⟨rfl, hb2⟩; have HB2 := Lib.hid hb2; have HP2 := Lib.hid ((HP1.out.setW _).later hb2); have HR2 := Lib.hid ((qbox_far HR1.out (by omega) 5 _).later hb2); obtain ⟨y0, y1, y2, y3, y4, y5, y6, yf⟩ := HP2.out.cells; obtain ⟨x0, x1, x2, x3, x4, x5, x6, xf⟩ := HR2.out.cells; have hs3 := HP2.out.lt; have hs4 := HR2.out.lt; clear hb2))))
              ((try simp only [Exit.inBlock, Exit.then]); refine bodyPost_ret (by first | (simp [results, Tryz.results29, go_sem, *]; done) | (simp [results, Tryz.results29, go_sem, *]; rfl) | (simp [results, Tryz.results29, go_sem, ↓IntWalk.iteOmega, *]; try rfl)) rfl ?_)
              exact ⟨by rw [HE.out]; first | done | rfl, by have h0 := ((HB.out.trans (HB1.out.mono (by omega))).setCell (p := ⟨w.heap.size + 1, 5, none⟩) (by simp) _).trans (HB2.out.mono (by simp [World.setCell]; omega)); (repeat' (first | (with_reducible exact Below.refl _ _) | (with_reducible assumption) | (with_reducible refine Below.alloc ?_ ?_ _) | (with_reducible refine below_drewN ?_ _) | (with_reducible refine Below.drew ?_) | (with_reducible refine Below.setCell ?_ ?_ _) | (with_reducible refine below_via (by assumption) ?_ ?_) | (with_reducible refine below_via (later_below _) ?_ ?_) | (with_reducible exact Nat.le_refl _) | omega | (simp; omega) | (simp; done)))⟩
            · have b12 : decide ((12 : Int) < (N : Int)) = false := by rw [decide_eq_false_iff_not]; omega
              have HDR4 : Hid (dirT L = verbT (L.take n) W (N : Int) (u.drop j3) (n + j + 1 + j3)) := by show _ = _; rw [HDR2.out, if_neg h12]
              clear h12
              by_cases hend3 : s.size ≤ K3
              · have hnil : u.drop j3 = [] := List.eq_nil_of_length_eq_zero (by omega)
                have HE : Hid (dirV i (dirT L) = dirV i none) := by show _ = _; rw [HDR4.out, hnil]; rfl
                have bK : decide ((s.size : Int) ≤ (K3 : Int)) = true := by simp; omega
                have bK2 : decide (s.size ≤ K3) = true := by simp; omega
                clear hnil
                go_wp2_with (first | (go_at_call 46; (with_reducible refine (HDP.out _).mono ?_); rintro e w1 ⟨rfl, rfl⟩) | (go_at_call 45; (first | ((with_reducible refine (HNM.out _).mono ?_); rintro e w1 ⟨rfl, hb1⟩; have HB1 := Lib.hid hb1; have HP1 := Lib.hid (HP.out.later hb1); have HR1 := Lib.hid (HR.out.later hb1); obtain ⟨p0, p1, p2, p3, p4, p5, p6, pf⟩ := HP1.out.cells; obtain ⟨z0, z1, z2, z3, z4, z5, z6, zf⟩ := HR1.out.cells; have hs1 := HP1.out.lt; have hs2 := HR1.out.lt; clear hb1) | ((with_reducible refine (HNP.out _).mono ?_); rintro e w2 ⟨rfl, hb2⟩; have HB2 := Lib.hid hb2; have HP2 := Lib.hid ((HP1.out.setW _).later hb2); have HR2 := Lib.hid ((qbox_far HR1.out (by omega) 5 _).later hb2); obtain ⟨y0, y1, y2, y3, y4, y5, y6, yf⟩ := HP2.out.cells; obtain ⟨x0, x1, x2, x3, x4, x5, x6, xf⟩ := HR2.out.cells; have hs3 := HP2.out.lt; have hs4 := HR2.out.lt; clear hb2))))
                ((try simp only [Exit.inBlock, Exit.then]); refine bodyPost_ret (by first | (simp [results, Tryz.results29, go_sem, *]; done) | (simp [results, Tryz.results29, go_sem, *]; rfl) | (simp [results, Tryz.results29, go_sem, ↓IntWalk.iteOmega, *]; try rfl)) rfl ?_)
                exact ⟨by rw [HE.out]; first | done | rfl, by have h0 := ((HB.out.trans (HB1.out.mono (by omega))).setCell (p := ⟨w.heap.size + 1, 5, none⟩) (by simp) _).trans (HB2.out.mono (by simp [World.setCell]; omega)); (repeat' (first | (with_reducible exact Below.refl _ _) | (with_reducible assumption) | (with_reducible refine Below.alloc ?_ ?_ _) | (with_reducible refine below_drewN ?_ _) | (with_reducible refine Below.drew ?_) | (with_reducible refine Below.setCell ?_ ?_ _) | (with_reducible refine below_via (by assumption) ?_ ?_) | (with_reducible refine below_via (later_below _) ?_ ?_) | (with_reducible exact Nat.le_refl _) | omega | (simp; omega) | (simp; done)))⟩
              · have hend4 : K3 < s.size := by omega
                have bK : decide ((s.size : Int) ≤ (K3 : Int)) = false := by simp; omega
                have bK2 : decide (s.size ≤ K3) = false := by simp; omega
                have hd3 : (u.drop j3)[0]? = some (s[K3]'hend4) := by
                  rw [HUJ.out 0, Nat.add_zero, List.getElem?_eq_getElem (by simpa using hend4)]; rfl
                obtain ⟨c4, hc4⟩ : ∃ c, s[K3]'hend4 = c := ⟨_, rfl⟩
                rw [hc4] at hd3
                obtain ⟨u4, hu4⟩ : ∃ u4, u.drop j3 = c4 :: u4 := by
                  cases hx : u.drop j3 with
                  | nil => rw [hx] at hd3; cases hd3
                  | cons d v => rw [hx] at hd3; simp at hd3; exact ⟨v, by rw [hd3]⟩
                rw [hu4] at HDR4
                clear hd3 hu4 hend3 huj
                have HVB := Lib.hid (fun w' => rverb_any c4 w')
                cases hv : verbB c4
                · rw [hv] at HVB
                  have HE : Hid (dirV i (dirT L) = dirV i none) := by
                    show _ = _
                    rw [HDR4.out]
                    unfold verbT
                    simp only []
                    rw [hv]; rfl
                  clear hv
                  go_wp2_with (first | (go_at_call 46; (with_reducible refine (HDP.out _).mono ?_); rintro e w1 ⟨rfl, rfl⟩) | (go_at_call 45; (first | ((with_reducible refine (HNM.out _).mono ?_); rintro e w1 ⟨rfl, hb1⟩; have HB1 := Lib.hid hb1; have HP1 := Lib.hid (HP.out.later hb1); have HR1 := Lib.hid (HR.out.later hb1); obtain ⟨p0, p1, p2, p3, p4, p5, p6, pf⟩ := HP1.out.cells; obtain ⟨z0, z1, z2, z3, z4, z5, z6, zf⟩ := HR1.out.cells; have hs1 := HP1.out.lt; have hs2 := HR1.out.lt; clear hb1) | ((with_reducible refine (HNP.out _).mono ?_); rintro e w2 ⟨rfl, hb2⟩; have HB2 := Lib.hid hb2; have HP2 := Lib.hid ((HP1.out.setW _).later hb2); have HR2 := Lib.hid ((qbox_far HR1.out (by omega) 5 _).later hb2); obtain ⟨y0, y1, y2, y3, y4, y5, y6, yf⟩ := HP2.out.cells; obtain ⟨x0, x1, x2, x3, x4, x5, x6, xf⟩ := HR2.out.cells; have hs3 := HP2.out.lt; have hs4 := HR2.out.lt; clear hb2))) | (go_at_call 47; (with_reducible refine (HVB.out _).mono ?_); rintro e w3 ⟨rfl, rfl⟩))
                  ((try simp only [Exit.inBlock, Exit.then]); refine bodyPost_ret (by first | (simp [results, Tryz.results29, go_sem, *]; done) | (simp [results, Tryz.results29, go_sem, *]; rfl) | (simp [results, Tryz.results29, go_sem, ↓IntWalk.iteOmega, *]; try rfl)) rfl ?_)
                  exact ⟨by rw [HE.out]; first | done | rfl, by have h0 := ((HB.out.trans (HB1.out.mono (by omega))).setCell (p := ⟨w.heap.size + 1, 5, none⟩) (by simp) _).trans (HB2.out.mono (by simp [World.setCell]; omega)); (repeat' (first | (with_reducible exact Below.refl _ _) | (with_reducible assumption) | (with_reducible refine Below.alloc ?_ ?_ _) | (with_reducible refine below_drewN ?_ _) | (with_reducible refine Below.drew ?_) | (with_reducible refine Below.setCell ?_ ?_ _) | (with_reducible refine below_via (by assumption) ?_ ?_) | (with_reducible refine below_via (later_below _) ?_ ?_) | (with_reducible exact Nat.le_refl _) | omega | (simp; omega) | (simp; done)))⟩
                · rw [hv] at HVB
                  have HE : Hid (dirV i (dirT L) = .tuple #[.agg #[.string ⟨#[]⟩, .int .u8 c4.toNat, .bool mi, .bool ze, .bool pl, .int .i64 W, .int .i64 (N : Int)], .int .i64 ((K3 : Int) + 1), .bool true]) := by
                    show _ = _
                    have e1 := HK3.out
                    have e2 := HKJ.out
                    rw [HDR4.out]
                    unfold verbT
                    simp only []
                    rw [hv, hf2, hf3, hf4]
                    unfold dirV
                    simp only [if_true]
                    congr 5 <;> omega
                  clear hv
                  go_wp2_with (first | (go_at_call 46; (with_reducible refine (HDP.out _).mono ?_); rintro e w1 ⟨rfl, rfl⟩) | (go_at_call 45; (first | ((with_reducible refine (HNM.out _).mono ?_); rintro e w1 ⟨rfl, hb1⟩; have HB1 := Lib.hid hb1; have HP1 := Lib.hid (HP.out.later hb1); have HR1 := Lib.hid (HR.out.later hb1); obtain ⟨p0, p1, p2, p3, p4, p5, p6, pf⟩ := HP1.out.cells; obtain ⟨z0, z1, z2, z3, z4, z5, z6, zf⟩ := HR1.out.cells; have hs1 := HP1.out.lt; have hs2 := HR1.out.lt; clear hb1) | ((with_reducible refine (HNP.out _).mono ?_); rintro e w2 ⟨rfl, hb2⟩; have HB2 := Lib.hid hb2; have HP2 := Lib.hid ((HP1.out.setW _).later hb2); have HR2 := Lib.hid ((qbox_far HR1.out (by omega) 5 _).later hb2); obtain ⟨y0, y1, y2, y3, y4, y5, y6, yf⟩ := HP2.out.cells; obtain ⟨x0, x1, x2, x3, x4, x5, x6, xf⟩ := HR2.out.cells; have hs3 := HP2.out.lt; have hs4 := HR2.out.lt; clear hb2))) | (go_at_call 47; (with_reducible refine (HVB.out _).mono ?_); rintro e w3 ⟨rfl, rfl⟩))
                  ((try simp only [Exit.inBlock, Exit.then]); refine bodyPost_ret (by first | (simp [results, Tryz.results29, go_sem, *]; done) | (simp [results, Tryz.results29, go_sem, *]; rfl) | (simp [results, Tryz.results29, go_sem, ↓IntWalk.iteOmega, *]; try rfl)) rfl ?_)
                  exact ⟨by rw [HE.out]; first | done | rfl | (simp; done), by have h0 := ((HB.out.trans (HB1.out.mono (by omega))).setCell (p := ⟨w.heap.size + 1, 5, none⟩) (by simp) _).trans (HB2.out.mono (by simp [World.setCell]; omega)); (repeat' (first | (with_reducible exact Below.refl _ _) | (with_reducible assumption) | (with_reducible refine Below.alloc ?_ ?_ _) | (with_reducible refine below_drewN ?_ _) | (with_reducible refine Below.drew ?_) | (with_reducible refine Below.setCell ?_ ?_ _) | (with_reducible refine below_via (by assumption) ?_ ?_) | (with_reducible refine below_via (later_below _) ?_ ?_) | (with_reducible exact Nat.le_refl _) | omega | (simp; omega) | (simp; done)))⟩
        · have b46 : ((c.toNat : Int) == 46) = false := by simp; omega
          have bK : decide ((s.size : Int) ≤ (K : Int)) = false := by simp; omega
          have bK2 : decide (s.size ≤ K) = false := by simp; omega
          have HDR : Hid (dirT L = verbT (L.take n) W (-1) (c :: u) (n + j)) := by show _ = _; rw [HDIR.out]; unfold placeT; simp only []; rw [if_neg h46]
          clear h46 hu hrj
          have HVB := Lib.hid (fun w' => rverb_any c w')
          cases hv : verbB c
          · rw [hv] at HVB
            have HE : Hid (dirV i (dirT L) = dirV i none) := by
              show _ = _
              rw [HDR.out]
              unfold verbT
              simp only []
              rw [hv]; rfl
            clear hv
            go_wp2_with (first | (go_at_call 45; (first | ((with_reducible refine (HNM.out _).mono ?_); rintro e w1 ⟨rfl, hb1⟩; have HB1 := Lib.hid hb1; have HP1 := Lib.hid (HP.out.later hb1); have HR1 := Lib.hid (HR.out.later hb1); obtain ⟨p0, p1, p2, p3, p4, p5, p6, pf⟩ := HP1.out.cells; obtain ⟨z0, z1, z2, z3, z4, z5, z6, zf⟩ := HR1.out.cells; have hs1 := HP1.out.lt; have hs2 := HR1.out.lt; clear hb1) | ((with_reducible refine (HNP.out _).mono ?_); rintro e w2 ⟨rfl, hb2⟩; have HB2 := Lib.hid hb2; have HP2 := Lib.hid ((HP1.out.setW _).later hb2); have HR2 := Lib.hid ((qbox_far HR1.out (by omega) 5 _).later hb2); obtain ⟨y0, y1, y2, y3, y4, y5, y6, yf⟩ := HP2.out.cells; obtain ⟨x0, x1, x2, x3, x4, x5, x6, xf⟩ := HR2.out.cells; have hs3 := HP2.out.lt; have hs4 := HR2.out.lt; clear hb2))) | (go_at_call 47; (with_reducible refine (HVB.out _).mono ?_); rintro e w3 ⟨rfl, rfl⟩))
            ((try simp only [Exit.inBlock, Exit.then]); refine bodyPost_ret (by first | (simp [results, Tryz.results29, go_sem, *]; done) | (simp [results, Tryz.results29, go_sem, *]; rfl) | (simp [results, Tryz.results29, go_sem, ↓IntWalk.iteOmega, *]; try rfl)) rfl ?_)
            exact ⟨by rw [HE.out]; first | done | rfl, by have h0 := HB.out.trans (HB1.out.mono (by omega)); (repeat' (first | (with_reducible exact Below.refl _ _) | (with_reducible assumption) | (with_reducible refine Below.alloc ?_ ?_ _) | (with_reducible refine below_drewN ?_ _) | (with_reducible refine Below.drew ?_) | (with_reducible refine Below.setCell ?_ ?_ _) | (with_reducible refine below_via (by assumption) ?_ ?_) | (with_reducible refine below_via (later_below _) ?_ ?_) | (with_reducible exact Nat.le_refl _) | omega | (simp; omega) | (simp; done)))⟩
          · rw [hv] at HVB
            have HE : Hid (dirV i (dirT L) = .tuple #[.agg #[.string ⟨#[]⟩, .int .u8 c.toNat, .bool mi, .bool ze, .bool pl, .int .i64 W, .int .i64 (-1)], .int .i64 ((K : Int) + 1), .bool true]) := by
              show _ = _
              have e2 := HKJ.out
              rw [HDR.out]
              unfold verbT
              simp only []
              rw [hv, hf2, hf3, hf4]
              unfold dirV
              simp only [if_true]
              congr 5 <;> omega
            clear hv
            go_wp2_with (first | (go_at_call 45; (first | ((with_reducible refine (HNM.out _).mono ?_); rintro e w1 ⟨rfl, hb1⟩; have HB1 := Lib.hid hb1; have HP1 := Lib.hid (HP.out.later hb1); have HR1 := Lib.hid (HR.out.later hb1); obtain ⟨p0, p1, p2, p3, p4, p5, p6, pf⟩ := HP1.out.cells; obtain ⟨z0, z1, z2, z3, z4, z5, z6, zf⟩ := HR1.out.cells; have hs1 := HP1.out.lt; have hs2 := HR1.out.lt; clear hb1) | ((with_reducible refine (HNP.out _).mono ?_); rintro e w2 ⟨rfl, hb2⟩; have HB2 := Lib.hid hb2; have HP2 := Lib.hid ((HP1.out.setW _).later hb2); have HR2 := Lib.hid ((qbox_far HR1.out (by omega) 5 _).later hb2); obtain ⟨y0, y1, y2, y3, y4, y5, y6, yf⟩ := HP2.out.cells; obtain ⟨x0, x1, x2, x3, x4, x5, x6, xf⟩ := HR2.out.cells; have hs3 := HP2.out.lt; have hs4 := HR2.out.lt; clear hb2))) | (go_at_call 47; (with_reducible refine (HVB.out _).mono ?_); rintro e w3 ⟨rfl, rfl⟩))
            ((try simp only [Exit.inBlock, Exit.then]); refine bodyPost_ret (by first | (simp [results, Tryz.results29, go_sem, *]; done) | (simp [results, Tryz.results29, go_sem, *]; rfl) | (simp [results, Tryz.results29, go_sem, ↓IntWalk.iteOmega, *]; try rfl)) rfl ?_)
            exact ⟨by rw [HE.out]; first | done | rfl | (simp; done), by have h0 := HB.out.trans (HB1.out.mono (by omega)); (repeat' (first | (with_reducible exact Below.refl _ _) | (with_reducible assumption) | (with_reducible refine Below.alloc ?_ ?_ _) | (with_reducible refine below_drewN ?_ _) | (with_reducible refine Below.drew ?_) | (with_reducible refine Below.setCell ?_ ?_ _) | (with_reducible refine below_via (by assumption) ?_ ?_) | (with_reducible refine below_via (later_below _) ?_ ?_) | (with_reducible exact Nat.le_refl _) | omega | (simp; omega) | (simp; done)))⟩
end Go.Proofs.YtemlijadhdejeaaGreatDoor
