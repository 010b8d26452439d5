/- internal/strconv.formatBits: the walk, at bases that are powers of two. -/
import Derived.Test.YtpahemohpaaeoaaDoorFb2
namespace Go.Proofs.YtpahemohpaaeoaaDoor
open Go.RowKit
set_option linter.unusedVariables false

theorem tz_any (b sh : Nat) (hb : b ≤ 36) (hs : Lib.ctz 64 b = sh) (w : World) (hT : Tabs w) :
    Calls Tryd.prog 86 #[.int .u64 b] w fun e w' => e = .returned (.int .i64 sh) ∧ w = w' :=
  (Any7.bits_TrailingZeros Tryd.laysz27 b (by omega) w (fun _ => hT.2)).mono fun _ _ ⟨he, hw⟩ => ⟨by rw [he, hs], hw.symm⟩

theorem pow_arith (v b sh : Nat) (hb : 2 ≤ b) (hv : v < 18446744073709551616) (h : 2 ^ sh = b) (hs : b ≤ 36) : ∃ q r : Nat, q = v / b ∧ r = v % b ∧ r < b ∧ q < v + 1 ∧ (v : Int) / 2 ^ sh = q ∧ bits BinOp.and IntKind.u64 (v : Int) ((b : Int) - 1) = r := by
  refine ⟨v / b, v % b, rfl, rfl, Nat.mod_lt _ (by omega), Nat.lt_succ_of_le (Nat.div_le_self _ _), ?_, ?_⟩
  · rw [← h]; push_cast; rfl
  · have e : (b : Int) - 1 = ((b - 1 : Nat) : Int) := by omega
    rw [e, bits_and_u64_nat v (b - 1) hv (by omega), ← h, Nat.and_two_pow_sub_one_eq_mod]

set_option maxHeartbeats 4000000 in
set_option maxRecDepth 100000 in
theorem fb_pow (u0 b sh : Nat) (h1 : 2 ≤ b) (h2 : b ≤ 36) (h10 : ((b : Int) == 10) = false) (hu : u0 < 18446744073709551616) (hp : (bits BinOp.and IntKind.i64 b (b - 1) == 0) = true) (hsh : Lib.ctz 64 b = sh) (hs6 : 2 ^ sh = b) (hs5 : sh ≤ 5) (w : World) (hT : Tabs (w.alloc (.cells Tryd.zeroCells90 90))) :
    Calls Tryd.prog 71 #[.slice none 0 0, .int .u64 u0, .int .i64 b, .bool false, .bool false] w fun e w' => e = .returned (.tuple #[.slice none 0 0, .string (mkS (bDigits b u0))]) ∧ Below w.heap.size w w' := by
  have HT := Lib.hid hT
  have HS := Lib.hid hsh
  have H6 := Lib.hid hs6
  clear hT hsh hs6
  go_enter Tryd.func71, Tryd.ntmps71
  go_wp2_with (first | (go_at_call 85; refine (ipt_any _ (by omega) (by omega) _ hp _).mono ?_; rintro e w1 ⟨rfl, rfl⟩) | (go_at_call 86; refine (tz_any b sh h2 HS.out _ HT.out).mono ?_; rintro e w2 ⟨rfl, rfl⟩))
  go_loopw [1, 13] (fun u i wr => ∃ (v k : Nat) (L : List UInt8), u = .int .u64 v ∧ i = .int .i64 k ∧ v < 18446744073709551616 ∧ Digs wr w.heap.size b u0 v k L ∧ Below w.heap.size w wr) (fun u _ _ => (intOf u).toNat)
  case atStart => exact ⟨u0, 65, [], rfl, rfl, hu, digs_start _ _ _ _ rfl, by (repeat' (first | (with_reducible exact Below.refl _ _) | (with_reducible assumption) | (with_reducible refine Below.alloc ?_ ?_ _) | (with_reducible refine below_drewN ?_ _) | (with_reducible refine Below.drew ?_) | (with_reducible refine Below.setCell ?_ ?_ _) | (with_reducible refine below_via (by assumption) ?_ ?_) | (with_reducible refine below_via (later_below _) ?_ ?_) | (with_reducible exact Nat.le_refl _) | omega | (simp; omega) | (simp; done)))⟩
  case round =>
    obtain ⟨v, k, L, rfl, rfl, hv, hd, hbel⟩ := hrel
    obtain ⟨hk1, hk2⟩ := hd.bound h1 hu
    obtain ⟨⟨x, hx⟩, hfz⟩ := hd.cell (k - 1) (by omega)
    by_cases hlt : b ≤ v
    · obtain ⟨q, r, hq, hr, hrb, hqv, e1, e2⟩ := pow_arith v b sh h1 hv H6.out h2
      have hq0 : q < v := by rw [hq]; exact Nat.div_lt_self (by omega) (by omega)
      have HD := Lib.hid hd
      have HQ := Lib.hid hq
      have HR := Lib.hid hr
      have HB := Lib.hid hbel
      clear hd hq hr hbel
      go_wp2 -- round
      refine ⟨⟨q, k - 1, nameN (v % b) :: L, rfl, by rw [Int.natCast_sub (by omega)]; rfl, by omega, ?_, ?_⟩, by simp [intOf]; omega⟩
      · have hs := HD.out.step h1 hlt (by omega) (nameN (v % b)) rfl
        rw [← HQ.out, ← HR.out] at hs
        rw [index36 r (by omega), ← HR.out]
        exact hs
      · have hbel := HB.out
        (repeat' (first | (with_reducible exact Below.refl _ _) | (with_reducible assumption) | (with_reducible refine Below.alloc ?_ ?_ _) | (with_reducible refine below_drewN ?_ _) | (with_reducible refine Below.drew ?_) | (with_reducible refine Below.setCell ?_ ?_ _) | (with_reducible refine below_via (by assumption) ?_ ?_) | (with_reducible refine below_via (later_below _) ?_ ?_) | (with_reducible exact Nat.le_refl _) | omega | (simp; omega) | (simp; done)))
    · obtain ⟨m, rfl⟩ : ∃ m, k = m + 1 := ⟨k - 1, by omega⟩
      rw [Nat.add_sub_cancel] at hx hfz
      obtain ⟨d, hdn⟩ : ∃ d, d = nameN v := ⟨_, rfl⟩
      have hix : ∀ hs, (⟨#[48, 49, 50, 51, 52, 53, 54, 55, 56, 57, 97, 98, 99, 100, 101, 102, 103, 104, 105, 106, 107, 108, 109, 110, 111, 112, 113, 114, 115, 116, 117, 118, 119, 120, 121, 122]⟩ : ByteArray)[v]'hs = d := fun hs => by rw [hdn]; exact index36 v (by omega) hs
      have hwh := hd.whole.put (by omega) d
      rw [Nat.add_sub_cancel] at hwh
      have hln := hwh.1
      obtain ⟨n, hn⟩ : ∃ n, n = (d :: L).length := ⟨_, rfl⟩
      have hsl := slice_tail w.heap.size m n m rfl (by omega) (by rw [hn]; simp)
      have hcv := hwh.str n n hn
      have hres : bDigits b u0 = d :: L := by rw [hd.1, bDigits_small (by omega), hdn]; rfl
      have HRES := Lib.hid hres
      have HB := Lib.hid hbel
      clear hd hbel hwh hres hn hdn hln
      go_wp2 -- exit
      go_ret2
      refine ⟨by rw [HRES.out]; rfl, ?_⟩
      have hbel := HB.out
      (repeat' (first | (with_reducible exact Below.refl _ _) | (with_reducible assumption) | (with_reducible refine Below.alloc ?_ ?_ _) | (with_reducible refine below_drewN ?_ _) | (with_reducible refine Below.drew ?_) | (with_reducible refine Below.setCell ?_ ?_ _) | (with_reducible refine below_via (by assumption) ?_ ?_) | (with_reducible refine below_via (later_below _) ?_ ?_) | (with_reducible exact Nat.le_refl _) | omega | (simp; omega) | (simp; done)))

set_option maxHeartbeats 4000000 in
set_option maxRecDepth 100000 in
theorem fb_pow_neg (U : Int) (u0 b sh : Nat) (h1 : 2 ≤ b) (h2 : b ≤ 36) (h10 : ((b : Int) == 10) = false) (hu : u0 < 18446744073709551616) (hp : (bits BinOp.and IntKind.i64 b (b - 1) == 0) = true) (hU : IntKind.u64.wrap (-U) = u0) (hsh : Lib.ctz 64 b = sh) (hs6 : 2 ^ sh = b) (hs5 : sh ≤ 5) (w : World) (hT : Tabs (w.alloc (.cells Tryd.zeroCells90 90))) :
    Calls Tryd.prog 71 #[.slice none 0 0, .int .u64 U, .int .i64 b, .bool true, .bool false] w fun e w' => e = .returned (.tuple #[.slice none 0 0, .string (mkS (45 :: bDigits b u0))]) ∧ Below w.heap.size w w' := by
  have HT := Lib.hid hT
  have HS := Lib.hid hsh
  have H6 := Lib.hid hs6
  clear hT hsh hs6
  go_enter Tryd.func71, Tryd.ntmps71
  go_wp2_with (first | (go_at_call 85; refine (ipt_any _ (by omega) (by omega) _ hp _).mono ?_; rintro e w1 ⟨rfl, rfl⟩) | (go_at_call 86; refine (tz_any b sh h2 HS.out _ HT.out).mono ?_; rintro e w2 ⟨rfl, rfl⟩))
  go_loopw [1, 13] (fun u i wr => ∃ (v k : Nat) (L : List UInt8), u = .int .u64 v ∧ i = .int .i64 k ∧ v < 18446744073709551616 ∧ Digs wr w.heap.size b u0 v k L ∧ Below w.heap.size w wr) (fun u _ _ => (intOf u).toNat)
  case atStart => exact ⟨u0, 65, [], rfl, rfl, hu, digs_start _ _ _ _ rfl, by (repeat' (first | (with_reducible exact Below.refl _ _) | (with_reducible assumption) | (with_reducible refine Below.alloc ?_ ?_ _) | (with_reducible refine below_drewN ?_ _) | (with_reducible refine Below.drew ?_) | (with_reducible refine Below.setCell ?_ ?_ _) | (with_reducible refine below_via (by assumption) ?_ ?_) | (with_reducible refine below_via (later_below _) ?_ ?_) | (with_reducible exact Nat.le_refl _) | omega | (simp; omega) | (simp; done)))⟩
  case round =>
    obtain ⟨v, k, L, rfl, rfl, hv, hd, hbel⟩ := hrel
    obtain ⟨hk1, hk2⟩ := hd.bound h1 hu
    obtain ⟨⟨x, hx⟩, hfz⟩ := hd.cell (k - 1) (by omega)
    by_cases hlt : b ≤ v
    · obtain ⟨q, r, hq, hr, hrb, hqv, e1, e2⟩ := pow_arith v b sh h1 hv H6.out h2
      have hq0 : q < v := by rw [hq]; exact Nat.div_lt_self (by omega) (by omega)
      have HD := Lib.hid hd
      have HQ := Lib.hid hq
      have HR := Lib.hid hr
      have HB := Lib.hid hbel
      clear hd hq hr hbel
      go_wp2 -- round
      refine ⟨⟨q, k - 1, nameN (v % b) :: L, rfl, by rw [Int.natCast_sub (by omega)]; rfl, by omega, ?_, ?_⟩, by simp [intOf]; omega⟩
      · have hs := HD.out.step h1 hlt (by omega) (nameN (v % b)) rfl
        rw [← HQ.out, ← HR.out] at hs
        rw [index36 r (by omega), ← HR.out]
        exact hs
      · have hbel := HB.out
        (repeat' (first | (with_reducible exact Below.refl _ _) | (with_reducible assumption) | (with_reducible refine Below.alloc ?_ ?_ _) | (with_reducible refine below_drewN ?_ _) | (with_reducible refine Below.drew ?_) | (with_reducible refine Below.setCell ?_ ?_ _) | (with_reducible refine below_via (by assumption) ?_ ?_) | (with_reducible refine below_via (later_below _) ?_ ?_) | (with_reducible exact Nat.le_refl _) | omega | (simp; omega) | (simp; done)))
    · obtain ⟨m, rfl⟩ : ∃ m, k = m + 1 + 1 := ⟨k - 2, by omega⟩
      rw [Nat.add_sub_cancel] at hx hfz
      obtain ⟨⟨x2, hx2⟩, hfz2⟩ := hd.cell m (by omega)
      obtain ⟨d, hdn⟩ : ∃ d, d = nameN v := ⟨_, rfl⟩
      have hix : ∀ hs, (⟨#[48, 49, 50, 51, 52, 53, 54, 55, 56, 57, 97, 98, 99, 100, 101, 102, 103, 104, 105, 106, 107, 108, 109, 110, 111, 112, 113, 114, 115, 116, 117, 118, 119, 120, 121, 122]⟩ : ByteArray)[v]'hs = d := fun hs => by rw [hdn]; exact index36 v (by omega) hs
      have hwh := hd.whole.put (by omega) d
      rw [Nat.add_sub_cancel] at hwh
      have hwh := hwh.put (by omega) 45
      rw [Nat.add_sub_cancel] at hwh
      have hln := hwh.1
      obtain ⟨n, hn⟩ : ∃ n, n = (45 :: d :: L).length := ⟨_, rfl⟩
      have hsl := slice_tail w.heap.size m n m rfl (by omega) (by rw [hn]; simp)
      have hcv := hwh.str n n hn
      rw [show (((45 : UInt8).toNat : Nat) : Int) = 45 from rfl] at hcv
      have hres : bDigits b u0 = d :: L := by rw [hd.1, bDigits_small (by omega), hdn]; rfl
      have HRES := Lib.hid hres
      have HB := Lib.hid hbel
      clear hd hbel hwh hres hn hdn hln
      go_wp2 -- exit
      go_ret2
      refine ⟨by rw [HRES.out]; rfl, ?_⟩
      have hbel := HB.out
      (repeat' (first | (with_reducible exact Below.refl _ _) | (with_reducible assumption) | (with_reducible refine Below.alloc ?_ ?_ _) | (with_reducible refine below_drewN ?_ _) | (with_reducible refine Below.drew ?_) | (with_reducible refine Below.setCell ?_ ?_ _) | (with_reducible refine below_via (by assumption) ?_ ?_) | (with_reducible refine below_via (later_below _) ?_ ?_) | (with_reducible exact Nat.le_refl _) | omega | (simp; omega) | (simp; done)))
end Go.Proofs.YtpahemohpaaeoaaDoor
