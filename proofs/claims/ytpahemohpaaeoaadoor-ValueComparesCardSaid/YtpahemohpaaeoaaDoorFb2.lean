/- internal/strconv.formatBits: the walk, at bases that are no powers of two. -/
import Derived.Test.YtpahemohpaaeoaaDoorFb1
namespace Go.Proofs.YtpahemohpaaeoaaDoor
open Go.RowKit
set_option linter.unusedVariables false

theorem index36 (r : Nat) (h : r < 36) (hs : r < (⟨#[48, 49, 50, 51, 52, 53, 54, 55, 56, 57, 97, 98, 99, 100, 101, 102, 103, 104, 105, 106, 107, 108, 109, 110, 111, 112, 113, 114, 115, 116, 117, 118, 119, 120, 121, 122]⟩ : ByteArray).size) :
    (⟨#[48, 49, 50, 51, 52, 53, 54, 55, 56, 57, 97, 98, 99, 100, 101, 102, 103, 104, 105, 106, 107, 108, 109, 110, 111, 112, 113, 114, 115, 116, 117, 118, 119, 120, 121, 122]⟩ : ByteArray)[r]'hs = nameN r := by
  rw [← digits_at ⟨r, h⟩]
  show _ = List.getD _ r 0
  rw [List.getD_eq_getElem?_getD, List.getElem?_eq_getElem (by simpa using h)]
  rfl

/-- The tail of the array as a slice. -/
theorem slice_tail (g i n : Nat) (z : Int) (hz : z = i) (hn : n + i = 65) (h0 : 0 < n) (W : World) :
    (Instr.sliceAt 90 (.pointer (some ⟨g, 0, none⟩)) (some (.int .i64 z)) none none).run Tryd.prog W = .ok (.slice (some ⟨g, i, none⟩) n n) W := by
  subst hz
  have ha : Tryd.prog.arrayLen 90 = 65 := by kernel_rfl
  have he : Tryd.prog.elem 90 = 5 := by kernel_rfl
  have hs : ∀ W, (sizeOf 5).run Tryd.prog W = .ok 1 W := fun W => by kernel_rfl
  rw [run_sliceAt_array_l W 90 ⟨g, 0, none⟩ (by kernel_rfl) .i64 (i : Int) (by omega) (by rw [ha]; omega), ha, he, hs]
  simp only [Result.andThen, slicedAt, Int.toNat_natCast]
  rw [if_neg (by omega)]
  have h2 : (Addr.mk g 0 none).add (i * 1) = ⟨g, i, none⟩ := by
    unfold Addr.add
    by_cases h : i * 1 = 0
    · rw [if_pos h]
      have : i = 0 := by omega
      rw [this]
    · rw [if_neg h]
      simp
  rw [h2]
  have h3 : 65 - i = n := by omega
  rw [h3]

theorem digs_start (w : World) (b u0 : Nat) (g : Nat) (hg : g = w.heap.size) : Digs (w.alloc (.cells Tryd.zeroCells90 90)) g b u0 u0 65 [] := by
  subst hg
  exact ⟨by simp, rfl, _, Blk.new _ _ _, by kernel_rfl, fun j h => by simp at h⟩

set_option maxHeartbeats 4000000 in
set_option maxRecDepth 100000 in
theorem fb_gen (u0 b : Nat) (h1 : 2 ≤ b) (h2 : b ≤ 36) (h10 : ((b : Int) == 10) = false) (hu : u0 < 18446744073709551616) (hp : (bits BinOp.and IntKind.i64 b (b - 1) == 0) = false) (w : World) :
    Calls Tryd.prog 71 #[.slice none 0 0, .int .u64 u0, .int .i64 b, .bool false, .bool false] w fun e w' => e = .returned (.tuple #[.slice none 0 0, .string (mkS (bDigits b u0))]) ∧ Below w.heap.size w w' := by
  go_enter Tryd.func71, Tryd.ntmps71
  go_wp2_with (first | (go_at_call 85; refine (ipt_any _ (by omega) (by omega) _ hp _).mono ?_; rintro e w1 ⟨rfl, rfl⟩))
  go_loopw [1, 13] (fun u i wr => ∃ (v k : Nat) (L : List UInt8), u = .int .u64 v ∧ i = .int .i64 k ∧ v < 18446744073709551616 ∧ Digs wr w.heap.size b u0 v k L ∧ Below w.heap.size w wr) (fun u _ _ => (intOf u).toNat)
  case atStart => exact ⟨u0, 65, [], rfl, rfl, hu, digs_start _ _ _ _ rfl, by (repeat' (first | (with_reducible exact Below.refl _ _) | (with_reducible assumption) | (with_reducible refine Below.alloc ?_ ?_ _) | (with_reducible refine below_drewN ?_ _) | (with_reducible refine Below.drew ?_) | (with_reducible refine Below.setCell ?_ ?_ _) | (with_reducible refine below_via (by assumption) ?_ ?_) | (with_reducible refine below_via (later_below _) ?_ ?_) | (with_reducible exact Nat.le_refl _) | omega | (simp; omega) | (simp; done)))⟩
  case round =>
    obtain ⟨v, k, L, rfl, rfl, hv, hd, hbel⟩ := hrel
    obtain ⟨hk1, hk2⟩ := hd.bound h1 hu
    obtain ⟨⟨x, hx⟩, hfz⟩ := hd.cell (k - 1) (by omega)
    by_cases hlt : b ≤ v
    · obtain ⟨q, r, hq, hr, hrb, hqv, e1, e2⟩ := fb_arith v b h1 hv
      have hq0 : q < v := by rw [hq]; exact Nat.div_lt_self (by omega) (by omega)
      have HD := Lib.hid hd
      have HQ := Lib.hid hq
      have HR := Lib.hid hr
      have HB := Lib.hid hbel
      clear hd hq hr hbel
      go_wp2 -- round
      refine ⟨⟨q, k - 1, nameN (v % b) :: L, rfl, by rw [Int.natCast_sub (by omega)]; rfl, by omega, ?_, ?_⟩, by simp [intOf]; omega⟩
      · have hs := HD.out.step h1 hlt (by omega) (nameN (v % b)) rfl
        rw [← HQ.out, ← HR.out] at hs
        rw [index36 r (by omega), ← HR.out]
        exact hs
      · have hbel := HB.out
        (repeat' (first | (with_reducible exact Below.refl _ _) | (with_reducible assumption) | (with_reducible refine Below.alloc ?_ ?_ _) | (with_reducible refine below_drewN ?_ _) | (with_reducible refine Below.drew ?_) | (with_reducible refine Below.setCell ?_ ?_ _) | (with_reducible refine below_via (by assumption) ?_ ?_) | (with_reducible refine below_via (later_below _) ?_ ?_) | (with_reducible exact Nat.le_refl _) | omega | (simp; omega) | (simp; done)))
    · obtain ⟨m, rfl⟩ : ∃ m, k = m + 1 := ⟨k - 1, by omega⟩
      rw [Nat.add_sub_cancel] at hx hfz
      obtain ⟨d, hdn⟩ : ∃ d, d = nameN v := ⟨_, rfl⟩
      have hix : ∀ hs, (⟨#[48, 49, 50, 51, 52, 53, 54, 55, 56, 57, 97, 98, 99, 100, 101, 102, 103, 104, 105, 106, 107, 108, 109, 110, 111, 112, 113, 114, 115, 116, 117, 118, 119, 120, 121, 122]⟩ : ByteArray)[v]'hs = d := fun hs => by rw [hdn]; exact index36 v (by omega) hs
      have hwh := hd.whole.put (by omega) d
      rw [Nat.add_sub_cancel] at hwh
      have hln := hwh.1
      obtain ⟨n, hn⟩ : ∃ n, n = (d :: L).length := ⟨_, rfl⟩
      have hsl := slice_tail w.heap.size m n m rfl (by omega) (by rw [hn]; simp)
      have hcv := hwh.str n n hn
      have hres : bDigits b u0 = d :: L := by rw [hd.1, bDigits_small (by omega), hdn]; rfl
      have HRES := Lib.hid hres
      have HB := Lib.hid hbel
      clear hd hbel hwh hres hn hdn hln
      go_wp2 -- exit
      go_ret2
      refine ⟨by rw [HRES.out]; rfl, ?_⟩
      have hbel := HB.out
      (repeat' (first | (with_reducible exact Below.refl _ _) | (with_reducible assumption) | (with_reducible refine Below.alloc ?_ ?_ _) | (with_reducible refine below_drewN ?_ _) | (with_reducible refine Below.drew ?_) | (with_reducible refine Below.setCell ?_ ?_ _) | (with_reducible refine below_via (by assumption) ?_ ?_) | (with_reducible refine below_via (later_below _) ?_ ?_) | (with_reducible exact Nat.le_refl _) | omega | (simp; omega) | (simp; done)))

set_option maxHeartbeats 4000000 in
set_option maxRecDepth 100000 in
theorem fb_gen_neg (U : Int) (u0 b : Nat) (h1 : 2 ≤ b) (h2 : b ≤ 36) (h10 : ((b : Int) == 10) = false) (hu : u0 < 18446744073709551616) (hp : (bits BinOp.and IntKind.i64 b (b - 1) == 0) = false) (hU : IntKind.u64.wrap (-U) = u0) (w : World) :
    Calls Tryd.prog 71 #[.slice none 0 0, .int .u64 U, .int .i64 b, .bool true, .bool false] w fun e w' => e = .returned (.tuple #[.slice none 0 0, .string (mkS (45 :: bDigits b u0))]) ∧ Below w.heap.size w w' := by
  go_enter Tryd.func71, Tryd.ntmps71
  go_wp2_with (first | (go_at_call 85; refine (ipt_any _ (by omega) (by omega) _ hp _).mono ?_; rintro e w1 ⟨rfl, rfl⟩))
  go_loopw [1, 13] (fun u i wr => ∃ (v k : Nat) (L : List UInt8), u = .int .u64 v ∧ i = .int .i64 k ∧ v < 18446744073709551616 ∧ Digs wr w.heap.size b u0 v k L ∧ Below w.heap.size w wr) (fun u _ _ => (intOf u).toNat)
  case atStart => exact ⟨u0, 65, [], rfl, rfl, hu, digs_start _ _ _ _ rfl, by (repeat' (first | (with_reducible exact Below.refl _ _) | (with_reducible assumption) | (with_reducible refine Below.alloc ?_ ?_ _) | (with_reducible refine below_drewN ?_ _) | (with_reducible refine Below.drew ?_) | (with_reducible refine Below.setCell ?_ ?_ _) | (with_reducible refine below_via (by assumption) ?_ ?_) | (with_reducible refine below_via (later_below _) ?_ ?_) | (with_reducible exact Nat.le_refl _) | omega | (simp; omega) | (simp; done)))⟩
  case round =>
    obtain ⟨v, k, L, rfl, rfl, hv, hd, hbel⟩ := hrel
    obtain ⟨hk1, hk2⟩ := hd.bound h1 hu
    obtain ⟨⟨x, hx⟩, hfz⟩ := hd.cell (k - 1) (by omega)
    by_cases hlt : b ≤ v
    · obtain ⟨q, r, hq, hr, hrb, hqv, e1, e2⟩ := fb_arith v b h1 hv
      have hq0 : q < v := by rw [hq]; exact Nat.div_lt_self (by omega) (by omega)
      have HD := Lib.hid hd
      have HQ := Lib.hid hq
      have HR := Lib.hid hr
      have HB := Lib.hid hbel
      clear hd hq hr hbel
      go_wp2 -- round
      refine ⟨⟨q, k - 1, nameN (v % b) :: L, rfl, by rw [Int.natCast_sub (by omega)]; rfl, by omega, ?_, ?_⟩, by simp [intOf]; omega⟩
      · have hs := HD.out.step h1 hlt (by omega) (nameN (v % b)) rfl
        rw [← HQ.out, ← HR.out] at hs
        rw [index36 r (by omega), ← HR.out]
        exact hs
      · have hbel := HB.out
        (repeat' (first | (with_reducible exact Below.refl _ _) | (with_reducible assumption) | (with_reducible refine Below.alloc ?_ ?_ _) | (with_reducible refine below_drewN ?_ _) | (with_reducible refine Below.drew ?_) | (with_reducible refine Below.setCell ?_ ?_ _) | (with_reducible refine below_via (by assumption) ?_ ?_) | (with_reducible refine below_via (later_below _) ?_ ?_) | (with_reducible exact Nat.le_refl _) | omega | (simp; omega) | (simp; done)))
    · obtain ⟨m, rfl⟩ : ∃ m, k = m + 1 + 1 := ⟨k - 2, by omega⟩
      rw [Nat.add_sub_cancel] at hx hfz
      obtain ⟨⟨x2, hx2⟩, hfz2⟩ := hd.cell m (by omega)
      obtain ⟨d, hdn⟩ : ∃ d, d = nameN v := ⟨_, rfl⟩
      have hix : ∀ hs, (⟨#[48, 49, 50, 51, 52, 53, 54, 55, 56, 57, 97, 98, 99, 100, 101, 102, 103, 104, 105, 106, 107, 108, 109, 110, 111, 112, 113, 114, 115, 116, 117, 118, 119, 120, 121, 122]⟩ : ByteArray)[v]'hs = d := fun hs => by rw [hdn]; exact index36 v (by omega) hs
      have hwh := hd.whole.put (by omega) d
      rw [Nat.add_sub_cancel] at hwh
      have hwh := hwh.put (by omega) 45
      rw [Nat.add_sub_cancel] at hwh
      have hln := hwh.1
      obtain ⟨n, hn⟩ : ∃ n, n = (45 :: d :: L).length := ⟨_, rfl⟩
      have hsl := slice_tail w.heap.size m n m rfl (by omega) (by rw [hn]; simp)
      have hcv := hwh.str n n hn
      rw [show (((45 : UInt8).toNat : Nat) : Int) = 45 from rfl] at hcv
      have hres : bDigits b u0 = d :: L := by rw [hd.1, bDigits_small (by omega), hdn]; rfl
      have HRES := Lib.hid hres
      have HB := Lib.hid hbel
      clear hd hbel hwh hres hn hdn hln
      go_wp2 -- exit
      go_ret2
      refine ⟨by rw [HRES.out]; rfl, ?_⟩
      have hbel := HB.out
      (repeat' (first | (with_reducible exact Below.refl _ _) | (with_reducible assumption) | (with_reducible refine Below.alloc ?_ ?_ _) | (with_reducible refine below_drewN ?_ _) | (with_reducible refine Below.drew ?_) | (with_reducible refine Below.setCell ?_ ?_ _) | (with_reducible refine below_via (by assumption) ?_ ?_) | (with_reducible refine below_via (later_below _) ?_ ?_) | (with_reducible exact Nat.le_refl _) | omega | (simp; omega) | (simp; done)))
end Go.Proofs.YtpahemohpaaeoaaDoor
