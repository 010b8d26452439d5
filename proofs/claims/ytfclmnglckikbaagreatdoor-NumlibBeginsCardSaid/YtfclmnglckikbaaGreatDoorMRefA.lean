/- The reference's Base: what each call returns. -/
import Derived.Test.YtfclmnglckikbaaGreatDoorMOwn
import Derived.Test.YtfclmnglckikbaaGreatDoorMFb
import Derived.Test.YtfclmnglckikbaaGreatDoorMNumW15
import Derived.Test.YtfclmnglckikbaaGreatDoorMRatR2
import Derived.Test.YtfclmnglckikbaaGreatDoorMNumW13
namespace Go.Proofs.YtfclmnglckikbaaGreatDoor
open Go.RowKit
set_option linter.unusedVariables false

theorem Own.form {w : World} {base : Nat} {v : Value} {xs : List Value} (h : Own w base v xs) (hne : xs ≠ []) :
    ∃ g cap, v = .slice (some ⟨g, 0, none⟩) xs.length cap ∧ base ≤ g ∧ g < w.heap.size ∧ (∀ (j : Nat) u, xs[j]? = some u → w.cell? ⟨g, j, none⟩ = some u) := by
  rcases h with ⟨_, h⟩ | ⟨g, cap, h1, h2, h3, h4, h5, h6⟩
  · exact absurd h hne
  · exact ⟨g, cap, h1, h2, h3, h5⟩
theorem Own.shape {w : World} {base : Nat} {v : Value} {xs : List Value} (h : Own w base v xs) : ∃ a cap, v = .slice a xs.length cap := by
  rcases h with ⟨h1, h2⟩ | ⟨g, cap, h1, _⟩
  · exact ⟨none, 0, by rw [h1, h2]; rfl⟩
  · exact ⟨_, _, h1⟩
def lenOf : Value → Nat | .slice _ n _ => n | _ => 0

/-- The digits so far, the last ahead. -/
def RInv (b u0 v : Nat) (L : List UInt8) : Prop := (L = [] ∧ v = u0) ∨ (L ≠ [] ∧ bDigits b u0 = (if v = 0 then [] else bDigits b v) ++ L.reverse)
theorem RInv.step {b u0 v : Nat} {L : List UInt8} (h : RInv b u0 v L) (hb : 2 ≤ b) (hv : 0 < v ∨ L = []) : RInv b u0 (v / b) (L ++ [nameN (v % b)]) := by
  right
  refine ⟨by simp, ?_⟩
  have key : bDigits b u0 = bDigits b v ++ L.reverse := by
    rcases h with ⟨rfl, rfl⟩ | ⟨h1, h2⟩
    · simp
    · rw [h2, if_neg]
      rcases hv with hv | hv
      · omega
      · exact absurd hv h1
  rw [key]
  by_cases hvb : v < b
  · rw [bDigits_small hvb, Nat.div_eq_of_lt hvb, Nat.mod_eq_of_lt hvb]; simp
  · have : ¬ v / b = 0 := by
      have := Nat.div_pos (Nat.le_of_not_lt hvb) (by omega : 0 < b)
      omega
    rw [if_neg this, bDigits_big hb hvb]; simp
theorem RInv.done {b u0 : Nat} {L : List UInt8} (h : RInv b u0 0 L) (hne : L ≠ []) : bDigits b u0 = L.reverse := by
  rcases h with ⟨h, _⟩ | ⟨_, h⟩
  · exact absurd h hne
  · simpa using h
theorem RInv.len {b u0 v : Nat} {L : List UInt8} (h : RInv b u0 v L) (hb : 2 ≤ b) (hu : u0 < 2 ^ 64) : L.length ≤ 64 := by
  have hl := bDigits_len b hb 64 u0 (by omega) hu
  rcases h with ⟨rfl, _⟩ | ⟨_, h⟩
  · simp
  · rw [h] at hl; simp at hl; omega
theorem rev_step (F : List UInt8) (j : Nat) (h : j < F.length) : (F.drop j).reverse = (F.drop (j + 1)).reverse ++ [F[j]] := by
  rw [List.drop_eq_getElem_cons h]; simp

set_option maxHeartbeats 1000000 in
theorem rbase_out (n b : Int) (w : World) (h : b < 2 ∨ 36 < b) :
    Calls Tryz.prog 76 #[.int .i64 n, .int .i64 b] w fun e w' => e = .returned (.tuple #[.string (mkS []), .int .i64 2]) ∧ Below w.heap.size w w' := by
  rcases h with hb | hb
  all_goals
    go_enter Tryz.func76, Tryz.ntmps76
    go_wp2_with fail
    all_goals ((try simp only [Exit.inBlock, Exit.then]); refine bodyPost_ret (by first | (simp [results, Tryz.results76, go_sem, *]; done) | (simp [results, Tryz.results76, go_sem, *]; rfl) | (simp [results, Tryz.results76, go_sem, ↓IntWalk.iteOmega, *]; try rfl)) rfl ?_)
    all_goals refine ⟨rfl, ?_⟩
    all_goals (repeat' (first | (with_reducible exact Below.refl _ _) | (with_reducible assumption) | (with_reducible refine Below.alloc ?_ ?_ _) | (with_reducible refine below_drewN ?_ _) | (with_reducible refine Below.drew ?_) | (with_reducible refine Below.setCell ?_ ?_ _) | (with_reducible refine below_via (by assumption) ?_ ?_) | (with_reducible refine below_via (later_below _) ?_ ?_) | (with_reducible exact Nat.le_refl _) | omega | (simp; omega) | (simp; done)))

set_option maxHeartbeats 8000000 in
set_option maxRecDepth 100000 in
theorem rbase_pos (u0 b : Nat) (h1 : 2 ≤ b) (h2 : b ≤ 36) (hu : u0 ≤ 9223372036854775807) (w : World) :
    Calls Tryz.prog 76 #[.int .i64 (u0), .int .i64 b] w fun e w' => e = .returned (.tuple #[.string (mkS (bDigits b u0)), .int .i64 0]) ∧ Below w.heap.size w w' := by
  obtain ⟨i0, hi, hz0, hz1, hz2⟩ := info_parts uint8_info
  go_enter Tryz.func76, Tryz.ntmps76
  go_wp2_with fail -- head
  go_loopw [6, 8] (fun u l wr => ∃ (v : Nat) (L : List UInt8), u = .int .u64 v ∧ v < 18446744073709551616 ∧ lenOf l = L.length ∧ Own wr w.heap.size l (L.map byteV) ∧ Hid (RInv b u0 v L) ∧ Below w.heap.size w wr) (fun u l _ => (intOf u).toNat + (if lenOf l = 0 then 1 else 0))
  case atStart => exact ⟨u0, [], rfl, by omega, rfl, Own.empty _ _ _ (Nat.le_refl _) (by simp), .inl ⟨rfl, rfl⟩, by (repeat' (first | (with_reducible exact Below.refl _ _) | (with_reducible assumption) | (with_reducible refine Below.alloc ?_ ?_ _) | (with_reducible refine below_drewN ?_ _) | (with_reducible refine Below.drew ?_) | (with_reducible refine Below.setCell ?_ ?_ _) | (with_reducible refine below_via (by assumption) ?_ ?_) | (with_reducible refine below_via (later_below _) ?_ ?_) | (with_reducible exact Nat.le_refl _) | omega | (simp; omega) | (simp; done)))⟩
  case round =>
    obtain ⟨v, L, rfl, hv, hll, hown, hinv, hbel⟩ := hrel
    have hlen := hinv.out.len h1 (by omega)
    have hsz := hbel.size
    by_cases hgo : 0 < v ∨ L = []
    · obtain ⟨q, r, hq, hr, hqe, hre, hrb, hqv⟩ := quo_rem v b (by omega)
      have hstep := hinv.out.step h1 hgo
      rw [← hqe, ← hre] at hstep
      have hqlt : 0 < v → q < v := fun h => by rw [hqe]; exact Nat.div_lt_self h (by omega)
      obtain ⟨d, hdn⟩ : ∃ d, d = nameN r := ⟨_, rfl⟩
      rw [← hdn] at hstep
      have hix : ∀ hs, (⟨#[48, 49, 50, 51, 52, 53, 54, 55, 56, 57, 97, 98, 99, 100, 101, 102, 103, 104, 105, 106, 107, 108, 109, 110, 111, 112, 113, 114, 115, 116, 117, 118, 119, 120, 121, 122]⟩ : ByteArray)[r]'hs = d := fun hs => by rw [hdn]; exact index36 r (by omega) hs
      obtain ⟨a, cap, hsh⟩ := hown.shape
      rw [List.length_map] at hsh
      subst hsh
      have HO := Lib.hid hown
      have HB := Lib.hid hbel
      have HST := Lib.hid hstep
      have HQ := Lib.hid hqlt
      clear hown hbel hstep hqe hinv hdn hll hqlt
      rcases Nat.eq_zero_or_pos v with hv0 | hv0
      · subst hv0
        have hL : L = [] := by rcases hgo with h | h; omega; exact h
        subst hL
        have hq0 : q = 0 := by omega
        have hr0 : r = 0 := by rw [hre, Nat.zero_mod]
        subst hr0
        clear hre
        go_wp2_with (first | (at_builtin; (first | (refine wp_push rfl _ _ 96 rfl 5 i0 (.int .u8 0) 1 Tryz.underlying96 hi hz0 hz1 hz2 rfl w.heap.size _ _ (HO.out.alloc _) rfl _ _ _ rfl (cell_new1 _ _ _) rfl ?_ ?_ ?_ ?_)); (focus (simp <;> omega)); (focus (unfold maxLen; simp <;> omega)); (focus (simp <;> omega)); intro v' w' ho' hb'; (have hsz' := hb'.size); (simp at hsz')))
        refine ⟨⟨q, [] ++ [d], by rw [hq0]; rfl, by omega, ?_, own_eq ho' rfl, HST.out, ?_⟩, ?_⟩
        · obtain ⟨a2, cap2, h3⟩ := ho'.shape
          rw [h3]; simp [lenOf]
        · have hbel := HB.out
          (repeat' (first | (with_reducible exact Below.refl _ _) | (with_reducible assumption) | (with_reducible refine Below.alloc ?_ ?_ _) | (with_reducible refine below_drewN ?_ _) | (with_reducible refine Below.drew ?_) | (with_reducible refine Below.setCell ?_ ?_ _) | (with_reducible refine below_via (by assumption) ?_ ?_) | (with_reducible refine below_via (later_below _) ?_ ?_) | (with_reducible exact Nat.le_refl _) | omega | (simp; omega) | (simp; done)))
        · obtain ⟨a2, cap2, h3⟩ := ho'.shape
          rw [h3]; simp [lenOf, intOf]
      · have hqq := HQ.out hv0
        clear hre
        go_wp2_with (first | (at_builtin; (first | (refine wp_push rfl _ _ 96 rfl 5 i0 (.int .u8 0) 1 Tryz.underlying96 hi hz0 hz1 hz2 rfl w.heap.size _ _ (HO.out.alloc _) rfl _ _ _ rfl (cell_new1 _ _ _) rfl ?_ ?_ ?_ ?_)); (focus (simp <;> omega)); (focus (unfold maxLen; simp <;> omega)); (focus (simp <;> omega)); intro v' w' ho' hb'; (have hsz' := hb'.size); (simp at hsz')))
        refine ⟨⟨q, L ++ [d], by first | rfl | simp only [hq], by omega, ?_, own_eq ho' (by simp [byteV]), HST.out, ?_⟩, ?_⟩
        · obtain ⟨a2, cap2, h3⟩ := ho'.shape
          rw [h3]; simp [lenOf]
        · have hbel := HB.out
          (repeat' (first | (with_reducible exact Below.refl _ _) | (with_reducible assumption) | (with_reducible refine Below.alloc ?_ ?_ _) | (with_reducible refine below_drewN ?_ _) | (with_reducible refine Below.drew ?_) | (with_reducible refine Below.setCell ?_ ?_ _) | (with_reducible refine below_via (by assumption) ?_ ?_) | (with_reducible refine below_via (later_below _) ?_ ?_) | (with_reducible exact Nat.le_refl _) | omega | (simp; omega) | (simp; done)))
        · obtain ⟨a2, cap2, h3⟩ := ho'.shape
          rw [h3]; simp [lenOf, intOf]; omega
    · obtain rfl : v = 0 := by
        rcases Nat.eq_zero_or_pos v with h | h
        · exact h
        · exact absurd (.inl h) hgo
      have hL : L ≠ [] := fun h => hgo (.inr h)
      have hL0 : 0 < L.length := List.length_pos_iff.2 hL
      have hLb : ((L.length : Int) == 0) = false := by simp; exact hL
      have hres := hinv.out.done hL
      obtain ⟨g, cap, hsh, hg1, hg2, hgc⟩ := hown.form (by simpa using hL)
      rw [List.length_map] at hsh
      subst hsh
      have HGC := Lib.hid hgc
      have HB := Lib.hid hbel
      have HRES := Lib.hid hres
      clear hown hbel hres hinv hll hgc hgo hL
      obtain ⟨wm, hwm⟩ : ∃ wm : World, wm = wr := ⟨_, rfl⟩
      subst hwm
      go_wp2_with fail -- second
      have hF : L.length ≤ 65 := by first | omega | (simp <;> omega)
      have hF0 : 0 < L.length := by first | omega | (simp <;> omega)
      have hFe : (L.length : Int) = L.length := by first | rfl | simp
      go_loopw [9, 10] (fun out i wr => ∃ (j : Nat), j ≤ L.length ∧ i = .int .i64 ((j : Int) - 1) ∧ Own wr wm.heap.size out ((L.drop j).reverse.map byteV) ∧ Below wm.heap.size wm wr) (fun _ i _ => (intOf i + 1).toNat)
      case atStart => exact ⟨L.length, Nat.le_refl _, by rw [hFe]; try go_num, by rw [List.drop_length]; exact Own.empty _ _ _ (Nat.le_refl _) (by simp), by (repeat' (first | (with_reducible exact Below.refl _ _) | (with_reducible assumption) | (with_reducible refine Below.alloc ?_ ?_ _) | (with_reducible refine below_drewN ?_ _) | (with_reducible refine Below.drew ?_) | (with_reducible refine Below.setCell ?_ ?_ _) | (with_reducible refine below_via (by assumption) ?_ ?_) | (with_reducible refine below_via (later_below _) ?_ ?_) | (with_reducible exact Nat.le_refl _) | omega | (simp; omega) | (simp; done)))⟩
      case round =>
        obtain ⟨j, hj, rfl, hown, hbel⟩ := hrel
        have hsz2 := hbel.size
        rcases Nat.eq_zero_or_pos j with hj0 | hj0
        · subst hj0
          rw [List.drop_zero] at hown
          have hne : L.reverse ≠ [] := fun h => by
            have h2 := congrArg List.length h
            rw [List.length_reverse, List.length_nil] at h2
            omega
          have hcv := Own.str hown hne 96 9 5 Tryz.underlying96 Tryz.underlying5 Tryz.underlying9
          have HB3 := Lib.hid hbel
          clear hown hbel hne
          go_wp2_with fail -- end
          ((try simp only [Exit.inBlock, Exit.then]); refine bodyPost_ret (by first | (simp [results, Tryz.results76, go_sem, *]; done) | (simp [results, Tryz.results76, go_sem, *]; rfl) | (simp [results, Tryz.results76, go_sem, ↓IntWalk.iteOmega, *]; try rfl)) rfl ?_)
          refine ⟨by rw [HRES.out]; simp [mkS], ?_⟩
          have hbel := HB3.out
          have hbl := HB.out
          (repeat' (first | (with_reducible exact Below.refl _ _) | (with_reducible assumption) | (with_reducible refine Below.alloc ?_ ?_ _) | (with_reducible refine below_drewN ?_ _) | (with_reducible refine Below.drew ?_) | (with_reducible refine Below.setCell ?_ ?_ _) | (with_reducible refine below_via (by assumption) ?_ ?_) | (with_reducible refine below_via (later_below _) ?_ ?_) | (with_reducible exact Nat.le_refl _) | omega | (simp; omega) | (simp; done)))
        · obtain ⟨i, rfl⟩ : ∃ i, j = i + 1 := ⟨j - 1, by omega⟩
          have hrs := rev_step L i (by omega)
          have hcell := (hbel.cell (p := ⟨g, i, none⟩) (by omega)).trans (HGC.out i _ (by rw [List.getElem?_map, List.getElem?_eq_getElem (by omega)]; rfl))
          obtain ⟨x, hx⟩ : ∃ x, L[i] = x := ⟨_, rfl⟩
          rw [hx] at hrs
          have hcell2 : wr.cell? ⟨g, i, none⟩ = some (.int .u8 x.toNat) := by rw [hcell]; simp only [byteV]; rw [hx]
          have hrs2 : (L.drop i).reverse.map byteV = (L.drop (i + 1)).reverse.map byteV ++ [.int .u8 x.toNat] := by rw [hrs]; simp [byteV]
          have HRS := Lib.hid hrs2
          clear hrs2
          have HO2 := Lib.hid hown
          have HB3 := Lib.hid hbel
          have hdl : (L.drop (i + 1)).length ≤ 65 := by simp; omega
          clear hown hbel hrs hx hcell
          go_wp2_with (first | (at_builtin; (first | (refine wp_push rfl _ _ 96 rfl 5 i0 (.int .u8 0) 1 Tryz.underlying96 hi hz0 hz1 hz2 rfl wm.heap.size _ _ (HO2.out.alloc _) rfl _ _ _ rfl (cell_new1 _ _ _) rfl ?_ ?_ ?_ ?_)); (focus (simp <;> omega)); (focus (unfold maxLen; simp <;> omega)); (focus (simp <;> omega)); intro v' w' ho' hb'; (have hsz' := hb'.size); (simp at hsz')))
          refine ⟨⟨i, by omega, by go_num, own_eq ho' (by have h := HRS.out; first | exact h.symm | simpa using h.symm), ?_⟩, by simp [intOf] <;> omega⟩
          have hbel := HB3.out
          (repeat' (first | (with_reducible exact Below.refl _ _) | (with_reducible assumption) | (with_reducible refine Below.alloc ?_ ?_ _) | (with_reducible refine below_drewN ?_ _) | (with_reducible refine Below.drew ?_) | (with_reducible refine Below.setCell ?_ ?_ _) | (with_reducible refine below_via (by assumption) ?_ ?_) | (with_reducible refine below_via (later_below _) ?_ ?_) | (with_reducible exact Nat.le_refl _) | omega | (simp; omega) | (simp; done)))

set_option maxHeartbeats 8000000 in
set_option maxRecDepth 100000 in
theorem rbase_neg (u0 b : Nat) (h1 : 2 ≤ b) (h2 : b ≤ 36) (hu0 : 0 < u0) (hu : u0 ≤ 9223372036854775808) (w : World) :
    Calls Tryz.prog 76 #[.int .i64 (-(u0 : Int)), .int .i64 b] w fun e w' => e = .returned (.tuple #[.string (mkS (45 :: bDigits b u0)), .int .i64 0]) ∧ Below w.heap.size w w' := by
  obtain ⟨i0, hi, hz0, hz1, hz2⟩ := info_parts uint8_info
  have hwr : IntKind.u64.wrap (-IntKind.u64.wrap (-(u0 : Int))) = (u0 : Int) := by rw [IntKind.wrap_u64, IntKind.wrap_u64]; omega
  go_enter Tryz.func76, Tryz.ntmps76
  go_wp2_with fail -- head
  go_loopw [6, 8] (fun u l wr => ∃ (v : Nat) (L : List UInt8), u = .int .u64 v ∧ v < 18446744073709551616 ∧ lenOf l = L.length ∧ Own wr w.heap.size l (L.map byteV) ∧ Hid (RInv b u0 v L) ∧ Below w.heap.size w wr) (fun u l _ => (intOf u).toNat + (if lenOf l = 0 then 1 else 0))
  case atStart => exact ⟨u0, [], rfl, by omega, rfl, Own.empty _ _ _ (Nat.le_refl _) (by simp), .inl ⟨rfl, rfl⟩, by (repeat' (first | (with_reducible exact Below.refl _ _) | (with_reducible assumption) | (with_reducible refine Below.alloc ?_ ?_ _) | (with_reducible refine below_drewN ?_ _) | (with_reducible refine Below.drew ?_) | (with_reducible refine Below.setCell ?_ ?_ _) | (with_reducible refine below_via (by assumption) ?_ ?_) | (with_reducible refine below_via (later_below _) ?_ ?_) | (with_reducible exact Nat.le_refl _) | omega | (simp; omega) | (simp; done)))⟩
  case round =>
    obtain ⟨v, L, rfl, hv, hll, hown, hinv, hbel⟩ := hrel
    have hlen := hinv.out.len h1 (by omega)
    have hsz := hbel.size
    by_cases hgo : 0 < v ∨ L = []
    · obtain ⟨q, r, hq, hr, hqe, hre, hrb, hqv⟩ := quo_rem v b (by omega)
      have hstep := hinv.out.step h1 hgo
      rw [← hqe, ← hre] at hstep
      have hqlt : 0 < v → q < v := fun h => by rw [hqe]; exact Nat.div_lt_self h (by omega)
      obtain ⟨d, hdn⟩ : ∃ d, d = nameN r := ⟨_, rfl⟩
      rw [← hdn] at hstep
      have hix : ∀ hs, (⟨#[48, 49, 50, 51, 52, 53, 54, 55, 56, 57, 97, 98, 99, 100, 101, 102, 103, 104, 105, 106, 107, 108, 109, 110, 111, 112, 113, 114, 115, 116, 117, 118, 119, 120, 121, 122]⟩ : ByteArray)[r]'hs = d := fun hs => by rw [hdn]; exact index36 r (by omega) hs
      obtain ⟨a, cap, hsh⟩ := hown.shape
      rw [List.length_map] at hsh
      subst hsh
      have HO := Lib.hid hown
      have HB := Lib.hid hbel
      have HST := Lib.hid hstep
      have HQ := Lib.hid hqlt
      clear hown hbel hstep hqe hinv hdn hll hqlt
      rcases Nat.eq_zero_or_pos v with hv0 | hv0
      · subst hv0
        have hL : L = [] := by rcases hgo with h | h; omega; exact h
        subst hL
        have hq0 : q = 0 := by omega
        have hr0 : r = 0 := by rw [hre, Nat.zero_mod]
        subst hr0
        clear hre
        go_wp2_with (first | (at_builtin; (first | (refine wp_push rfl _ _ 96 rfl 5 i0 (.int .u8 0) 1 Tryz.underlying96 hi hz0 hz1 hz2 rfl w.heap.size _ _ (HO.out.alloc _) rfl _ _ _ rfl (cell_new1 _ _ _) rfl ?_ ?_ ?_ ?_)); (focus (simp <;> omega)); (focus (unfold maxLen; simp <;> omega)); (focus (simp <;> omega)); intro v' w' ho' hb'; (have hsz' := hb'.size); (simp at hsz')))
        refine ⟨⟨q, [] ++ [d], by rw [hq0]; rfl, by omega, ?_, own_eq ho' rfl, HST.out, ?_⟩, ?_⟩
        · obtain ⟨a2, cap2, h3⟩ := ho'.shape
          rw [h3]; simp [lenOf]
        · have hbel := HB.out
          (repeat' (first | (with_reducible exact Below.refl _ _) | (with_reducible assumption) | (with_reducible refine Below.alloc ?_ ?_ _) | (with_reducible refine below_drewN ?_ _) | (with_reducible refine Below.drew ?_) | (with_reducible refine Below.setCell ?_ ?_ _) | (with_reducible refine below_via (by assumption) ?_ ?_) | (with_reducible refine below_via (later_below _) ?_ ?_) | (with_reducible exact Nat.le_refl _) | omega | (simp; omega) | (simp; done)))
        · obtain ⟨a2, cap2, h3⟩ := ho'.shape
          rw [h3]; simp [lenOf, intOf]
      · have hqq := HQ.out hv0
        clear hre
        go_wp2_with (first | (at_builtin; (first | (refine wp_push rfl _ _ 96 rfl 5 i0 (.int .u8 0) 1 Tryz.underlying96 hi hz0 hz1 hz2 rfl w.heap.size _ _ (HO.out.alloc _) rfl _ _ _ rfl (cell_new1 _ _ _) rfl ?_ ?_ ?_ ?_)); (focus (simp <;> omega)); (focus (unfold maxLen; simp <;> omega)); (focus (simp <;> omega)); intro v' w' ho' hb'; (have hsz' := hb'.size); (simp at hsz')))
        refine ⟨⟨q, L ++ [d], by first | rfl | simp only [hq], by omega, ?_, own_eq ho' (by simp [byteV]), HST.out, ?_⟩, ?_⟩
        · obtain ⟨a2, cap2, h3⟩ := ho'.shape
          rw [h3]; simp [lenOf]
        · have hbel := HB.out
          (repeat' (first | (with_reducible exact Below.refl _ _) | (with_reducible assumption) | (with_reducible refine Below.alloc ?_ ?_ _) | (with_reducible refine below_drewN ?_ _) | (with_reducible refine Below.drew ?_) | (with_reducible refine Below.setCell ?_ ?_ _) | (with_reducible refine below_via (by assumption) ?_ ?_) | (with_reducible refine below_via (later_below _) ?_ ?_) | (with_reducible exact Nat.le_refl _) | omega | (simp; omega) | (simp; done)))
        · obtain ⟨a2, cap2, h3⟩ := ho'.shape
          rw [h3]; simp [lenOf, intOf]; omega
    · obtain rfl : v = 0 := by
        rcases Nat.eq_zero_or_pos v with h | h
        · exact h
        · exact absurd (.inl h) hgo
      have hL : L ≠ [] := fun h => hgo (.inr h)
      have hL0 : 0 < L.length := List.length_pos_iff.2 hL
      have hLb : ((L.length : Int) == 0) = false := by simp; exact hL
      have hres := hinv.out.done hL
      obtain ⟨g, cap, hsh, hg1, hg2, hgc⟩ := hown.form (by simpa using hL)
      rw [List.length_map] at hsh
      subst hsh
      have HO := Lib.hid hown
      have HB := Lib.hid hbel
      have HRES := Lib.hid hres
      clear hown hbel hres hinv hll hgc hgo hL
      go_wp2_with (first | (at_builtin; (first | (refine wp_push rfl (.tmp 46) (.tmp 47) 96 rfl 5 i0 (.int .u8 0) 1 Tryz.underlying96 hi hz0 hz1 hz2 rfl w.heap.size _ _ (HO.out.alloc _) rfl _ _ _ rfl (cell_new1 _ _ _) rfl ?_ ?_ ?_ ?_)); (focus (simp <;> omega)); (focus (unfold maxLen; simp <;> omega)); (focus (simp <;> omega)); intro v' wm ho' hb'; (have hsz' := hb'.size); (simp at hsz'); (have ho2 := own_eq ho' (show _ = (L ++ [45]).map byteV by simp [byteV])); (obtain ⟨g2, cap2, hv2, hg3, hg4, hgc2⟩ := ho2.form (by simp)); (rw [List.length_map] at hv2); subst hv2; (have HGC := Lib.hid hgc2); (have HB2 := Lib.hid hb'); clear hgc2 hb' ho' ho2))
      have hF : (L ++ [45]).length ≤ 65 := by first | omega | (simp <;> omega)
      have hF0 : 0 < (L ++ [45]).length := by first | omega | (simp <;> omega)
      have hFe : ((L ++ [45]).length : Int) = L.length + 1 := by first | rfl | simp
      go_loopw [9, 10] (fun out i wr => ∃ (j : Nat), j ≤ (L ++ [45]).length ∧ i = .int .i64 ((j : Int) - 1) ∧ Own wr wm.heap.size out (((L ++ [45]).drop j).reverse.map byteV) ∧ Below wm.heap.size wm wr) (fun _ i _ => (intOf i + 1).toNat)
      case atStart => exact ⟨(L ++ [45]).length, Nat.le_refl _, by rw [hFe]; try go_num, by rw [List.drop_length]; exact Own.empty _ _ _ (Nat.le_refl _) (by simp), by (repeat' (first | (with_reducible exact Below.refl _ _) | (with_reducible assumption) | (with_reducible refine Below.alloc ?_ ?_ _) | (with_reducible refine below_drewN ?_ _) | (with_reducible refine Below.drew ?_) | (with_reducible refine Below.setCell ?_ ?_ _) | (with_reducible refine below_via (by assumption) ?_ ?_) | (with_reducible refine below_via (later_below _) ?_ ?_) | (with_reducible exact Nat.le_refl _) | omega | (simp; omega) | (simp; done)))⟩
      case round =>
        obtain ⟨j, hj, rfl, hown, hbel⟩ := hrel
        have hsz2 := hbel.size
        rcases Nat.eq_zero_or_pos j with hj0 | hj0
        · subst hj0
          rw [List.drop_zero] at hown
          have hne : (L ++ [45]).reverse ≠ [] := fun h => by
            have h2 := congrArg List.length h
            rw [List.length_reverse, List.length_nil] at h2
            omega
          have hcv := Own.str hown hne 96 9 5 Tryz.underlying96 Tryz.underlying5 Tryz.underlying9
          have HB3 := Lib.hid hbel
          clear hown hbel hne
          go_wp2_with fail -- end
          ((try simp only [Exit.inBlock, Exit.then]); refine bodyPost_ret (by first | (simp [results, Tryz.results76, go_sem, *]; done) | (simp [results, Tryz.results76, go_sem, *]; rfl) | (simp [results, Tryz.results76, go_sem, ↓IntWalk.iteOmega, *]; try rfl)) rfl ?_)
          refine ⟨by rw [HRES.out]; simp [mkS], ?_⟩
          have hbel := HB3.out
          have hbl := HB.out
          have hb2 := HB2.out
          (repeat' (first | (with_reducible exact Below.refl _ _) | (with_reducible assumption) | (with_reducible refine Below.alloc ?_ ?_ _) | (with_reducible refine below_drewN ?_ _) | (with_reducible refine Below.drew ?_) | (with_reducible refine Below.setCell ?_ ?_ _) | (with_reducible refine below_via (by assumption) ?_ ?_) | (with_reducible refine below_via (later_below _) ?_ ?_) | (with_reducible exact Nat.le_refl _) | omega | (simp; omega) | (simp; done)))
        · obtain ⟨i, rfl⟩ : ∃ i, j = i + 1 := ⟨j - 1, by omega⟩
          have hrs := rev_step (L ++ [45]) i (by omega)
          have hcell := (hbel.cell (p := ⟨g2, i, none⟩) (by omega)).trans (HGC.out i _ (by rw [List.getElem?_map, List.getElem?_eq_getElem (by omega)]; rfl))
          obtain ⟨x, hx⟩ : ∃ x, (L ++ [45])[i] = x := ⟨_, rfl⟩
          rw [hx] at hrs
          have hcell2 : wr.cell? ⟨g2, i, none⟩ = some (.int .u8 x.toNat) := by rw [hcell]; simp only [byteV]; rw [hx]
          have hrs2 : ((L ++ [45]).drop i).reverse.map byteV = ((L ++ [45]).drop (i + 1)).reverse.map byteV ++ [.int .u8 x.toNat] := by rw [hrs]; simp [byteV]
          have HRS := Lib.hid hrs2
          clear hrs2
          have HO2 := Lib.hid hown
          have HB3 := Lib.hid hbel
          have hdl : ((L ++ [45]).drop (i + 1)).length ≤ 65 := by simp; omega
          clear hown hbel hrs hx hcell
          go_wp2_with (first | (at_builtin; (first | (refine wp_push rfl _ _ 96 rfl 5 i0 (.int .u8 0) 1 Tryz.underlying96 hi hz0 hz1 hz2 rfl wm.heap.size _ _ (HO2.out.alloc _) rfl _ _ _ rfl (cell_new1 _ _ _) rfl ?_ ?_ ?_ ?_)); (focus (simp <;> omega)); (focus (unfold maxLen; simp <;> omega)); (focus (simp <;> omega)); intro v' w' ho' hb'; (have hsz' := hb'.size); (simp at hsz')))
          refine ⟨⟨i, by omega, by go_num, own_eq ho' (by have h := HRS.out; first | exact h.symm | simpa using h.symm), ?_⟩, by simp [intOf] <;> omega⟩
          have hbel := HB3.out
          (repeat' (first | (with_reducible exact Below.refl _ _) | (with_reducible assumption) | (with_reducible refine Below.alloc ?_ ?_ _) | (with_reducible refine below_drewN ?_ _) | (with_reducible refine Below.drew ?_) | (with_reducible refine Below.setCell ?_ ?_ _) | (with_reducible refine below_via (by assumption) ?_ ?_) | (with_reducible refine below_via (later_below _) ?_ ?_) | (with_reducible exact Nat.le_refl _) | omega | (simp; omega) | (simp; done)))
end Go.Proofs.YtfclmnglckikbaaGreatDoor

/- The reference's Base, Decimal and Text, joined. -/
namespace Go.Proofs.YtfclmnglckikbaaGreatDoor
open Go.RowKit
set_option linter.unusedVariables false

theorem rbase_any (n b : Int) (hn : -9223372036854775808 ≤ n) (hn2 : n ≤ 9223372036854775807) (w : World) :
    Calls Tryz.prog 76 #[.int .i64 n, .int .i64 b] w fun e w' => e = .returned (strE (baseL n b)) ∧ Below w.heap.size w w' := by
  unfold baseL
  by_cases hb : b < 2 ∨ 36 < b
  · rw [if_pos hb]
    exact rbase_out n b w hb
  · rw [if_neg hb]
    obtain ⟨c, rfl⟩ : ∃ c : Nat, b = c := ⟨b.toNat, by omega⟩
    rw [Int.toNat_natCast]
    unfold bText
    by_cases h : n < 0
    · rw [if_pos h]
      obtain ⟨u, rfl⟩ : ∃ u : Nat, n = -(u : Int) := ⟨n.natAbs, by omega⟩
      have e : (-(u : Int)).natAbs = u := by omega
      rw [e]
      exact rbase_neg u c (by omega) (by omega) (by omega) (by omega) w
    · rw [if_neg h]
      obtain ⟨u, rfl⟩ : ∃ u : Nat, n = u := ⟨n.toNat, by omega⟩
      rw [Int.toNat_natCast]
      exact rbase_pos u c (by omega) (by omega) (by omega) w

set_option maxHeartbeats 1000000 in
theorem rdec_any (n : Int) (hn : -9223372036854775808 ≤ n) (hn2 : n ≤ 9223372036854775807) (w : World) :
    Calls Tryz.prog 97 #[.int .i64 n] w fun e w' => e = .returned (.string (mkS (Lib.itoa n))) ∧ Below w.heap.size w w' := by
  have e : baseL n 10 = (Lib.itoa n, 0) := by unfold baseL; rw [if_neg (by omega), itoa_bText]; rfl
  have HC : Hid (∀ w, Calls Tryz.prog 76 #[.int .i64 n, .int .i64 10] w fun e w' => e = .returned (.tuple #[.string (mkS (Lib.itoa n)), .int .i64 0]) ∧ Below w.heap.size w w') := fun w => by
    have := rbase_any n 10 hn hn2 w
    rw [e] at this
    exact this
  clear e
  go_enter Tryz.func97, Tryz.ntmps97
  go_wp2_with (first | (go_at_call 76; refine (HC.out _).mono ?_; rintro e w1 ⟨rfl, hb⟩))
  go_returns
  exact ⟨rfl, hb⟩

abbrev RDec (n : Int) (s : ByteArray) : Prop := ∀ w, Calls Tryz.prog 97 #[.int .i64 n] w fun e w' => e = .returned (.string s) ∧ Below w.heap.size w w'

end Go.Proofs.YtfclmnglckikbaaGreatDoor
