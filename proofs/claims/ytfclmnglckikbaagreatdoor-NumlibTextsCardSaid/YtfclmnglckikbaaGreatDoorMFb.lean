/- internal/strconv.formatBits: the digits of an unsigned integer in a base. -/
import Derived.Test.YtfclmnglckikbaaGreatDoorMStr
import Derived.Test.YtfclmnglckikbaaGreatDoorMPlainA
namespace Go.Proofs.YtfclmnglckikbaaGreatDoor
open Go.RowKit
set_option linter.unusedVariables false

/-- A block that is known whole. -/
def Blk (w : World) (g : Nat) (t : TypeId) (cs : Array Value) : Prop := w.heap[g]? = some (.cells cs t (0, 0))
theorem Blk.cell {w : World} {g : Nat} {t : TypeId} {cs : Array Value} (h : Blk w g t cs) (i : Nat) : w.cell? ⟨g, i, none⟩ = cs[i]? := cell_of_row w g i cs t (0, 0) h
theorem Blk.frozen {w : World} {g : Nat} {t : TypeId} {cs : Array Value} (h : Blk w g t cs) (i : Nat) : w.frozen? ⟨g, i, none⟩ = false := by
  unfold Blk at h
  simp [World.frozen?, h]
theorem Blk.new (w : World) (t : TypeId) (cs : Array Value) : Blk (w.alloc (.cells cs t)) w.heap.size t cs := heap_alloc_new w _
theorem Blk.set_ {w : World} {g : Nat} {t : TypeId} {cs : Array Value} (h : Blk w g t cs) (i : Nat) (u : Value) : Blk (w.setCell ⟨g, i, none⟩ u) g t (cs.setIfInBounds i u) := by
  unfold Blk at h ⊢
  simp [World.setCell, Array.getElem?_modify, h]

theorem ipt_any (b : Int) (h1 : 2 ≤ b) (h2 : b ≤ 36) (r : Bool) (hr : (bits BinOp.and IntKind.i64 b (b - 1) == 0) = r) (w : World) :
    Calls Tryz.prog 114 #[.int .i64 b] w fun e w' => e = .returned (.bool r) ∧ w = w' := by
  subst hr
  go_enter Tryz.func114, Tryz.ntmps114
  go_wp2
  go_returns
  exact ⟨rfl, rfl⟩

/-- The last digits stand in the block, from k on. -/
def Digs (w : World) (g : Nat) (b u0 v k : Nat) (L : List UInt8) : Prop :=
  bDigits b u0 = bDigits b v ++ L ∧ k + L.length = 65 ∧ ∃ cs : Array Value, Blk w g 119 cs ∧ cs.size = 65 ∧ ∀ j, (h : j < L.length) → cs[k + j]? = some (.int .u8 (L[j]).toNat)

theorem fb_arith (v b : Nat) (hb : 2 ≤ b) (hv : v < 18446744073709551616) : ∃ q r : Nat, q = v / b ∧ r = v % b ∧ r < b ∧ q < v + 1 ∧ IntKind.u64.wrap ((v : Int) / b) = q ∧ IntKind.u64.wrap ((v : Int) - IntKind.u64.wrap ((q : Int) * b)) = r := by
  have h := Nat.div_add_mod v b
  rw [Nat.mul_comm] at h
  have hle := Nat.div_le_self v b
  have hm := Nat.mod_lt v (show b > 0 by omega)
  have e1 : (v : Int) / b = ((v / b : Nat) : Int) := (Int.natCast_ediv v b).symm
  rw [e1]
  generalize v / b = q at *
  generalize v % b = r at *
  refine ⟨q, r, rfl, rfl, hm, by omega, ?_, ?_⟩
  · rw [IntKind.wrap_u64]; omega
  · have h2 : ((q * b : Nat) : Int) = (q : Int) * (b : Int) := by push_cast; rfl
    rw [← h2, IntKind.wrap_u64, IntKind.wrap_u64]
    generalize q * b = m at *
    omega

theorem digits_at : ∀ d : Fin 36, ((⟨#[48, 49, 50, 51, 52, 53, 54, 55, 56, 57, 97, 98, 99, 100, 101, 102, 103, 104, 105, 106, 107, 108, 109, 110, 111, 112, 113, 114, 115, 116, 117, 118, 119, 120, 121, 122]⟩ : ByteArray).data.toList.getD d.val 0) = nameN d.val := by decide +kernel

theorem bDigits_len (b : Nat) (hb : 2 ≤ b) : ∀ (k u : Nat), 1 ≤ k → u < 2 ^ k → (bDigits b u).length ≤ k
  | 0, _, h, _ => by omega
  | k + 1, u, _, hu => by
    by_cases h : u < b
    · rw [bDigits_small h]; simp
    · rw [bDigits_big hb h]
      have h1 : u / b ≤ u / 2 := Nat.div_le_div_left hb (by omega)
      rw [Nat.pow_succ] at hu
      have hk : 1 ≤ k := by
        rcases Nat.eq_zero_or_pos k with rfl | hk
        · simp at hu; omega
        · exact hk
      have := bDigits_len b hb k (u / b) hk (by omega)
      simp; omega
theorem bDigits_pos (b u : Nat) : 1 ≤ (bDigits b u).length := by
  have := bDigits_ne b u
  cases h : bDigits b u
  · exact absurd h this
  · simp

/-- Where the next digit goes. -/
theorem Digs.bound {w : World} {g b u0 v k : Nat} {L : List UInt8} (h : Digs w g b u0 v k L) (hb : 2 ≤ b) (hu : u0 < 2 ^ 64) : k ≤ 65 ∧ 2 ≤ k := by
  obtain ⟨h1, h2, _⟩ := h
  have h3 := bDigits_len b hb 64 u0 (by omega) hu
  have h4 := bDigits_pos b v
  rw [h1] at h3
  simp at h3
  omega
theorem Digs.cell {w : World} {g b u0 v k : Nat} {L : List UInt8} (h : Digs w g b u0 v k L) (i : Nat) (hi : i < 65) : (∃ x, w.cell? ⟨g, i, none⟩ = some x) ∧ w.frozen? ⟨g, i, none⟩ = false := by
  obtain ⟨_, _, cs, h3, h4, _⟩ := h
  refine ⟨⟨cs[i]'(by omega), ?_⟩, h3.frozen i⟩
  rw [h3.cell]
  exact Array.getElem?_eq_getElem (by omega)

/-- One digit more. -/
theorem Digs.step {w : World} {g b u0 v k : Nat} {L : List UInt8} (h : Digs w g b u0 v k L) (hb : 2 ≤ b) (hv : b ≤ v) (hk : 1 ≤ k) (d : UInt8) (hd : d = nameN (v % b)) :
    Digs (w.setCell ⟨g, k - 1, none⟩ (.int .u8 d.toNat)) g b u0 (v / b) (k - 1) (d :: L) := by
  obtain ⟨h1, h2, cs, h3, h4, h5⟩ := h
  refine ⟨?_, by simp; omega, _, h3.set_ _ _, by simpa using h4, ?_⟩
  · rw [h1, bDigits_big hb (by omega : ¬ v < b), hd]; simp
  · intro j hj
    rw [Array.getElem?_setIfInBounds]
    cases j with
    | zero => simp; omega
    | succ j =>
      rw [if_neg (by omega)]
      have := h5 j (by simpa using hj)
      rw [← show k + j = k - 1 + (j + 1) by omega]
      simpa using this

/-- The digits that stand in the block, whole; a sign ahead, perhaps. -/
def Whole (w : World) (g k : Nat) (L : List UInt8) : Prop := k + L.length = 65 ∧ ∃ cs : Array Value, Blk w g 119 cs ∧ cs.size = 65 ∧ ∀ j, (h : j < L.length) → cs[k + j]? = some (.int .u8 (L[j]).toNat)
theorem Whole.put {w : World} {g k : Nat} {L : List UInt8} (h : Whole w g k L) (hk : 1 ≤ k) (d : UInt8) : Whole (w.setCell ⟨g, k - 1, none⟩ (.int .u8 d.toNat)) g (k - 1) (d :: L) := by
  obtain ⟨h2, cs, h3, h4, h5⟩ := h
  refine ⟨by simp; omega, _, h3.set_ _ _, by simpa using h4, ?_⟩
  intro j hj
  rw [Array.getElem?_setIfInBounds]
  cases j with
  | zero => simp; omega
  | succ j =>
    rw [if_neg (by omega)]
    have := h5 j (by simpa using hj)
    rw [← show k + j = k - 1 + (j + 1) by omega]
    simpa using this
theorem Digs.whole {w : World} {g b u0 v k : Nat} {L : List UInt8} (h : Digs w g b u0 v k L) : Whole w g k L := ⟨h.2.1, h.2.2⟩
theorem Whole.cell {w : World} {g k : Nat} {L : List UInt8} (h : Whole w g k L) (i : Nat) (hi : i < 65) : (∃ x, w.cell? ⟨g, i, none⟩ = some x) ∧ w.frozen? ⟨g, i, none⟩ = false := by
  obtain ⟨_, cs, h3, h4, _⟩ := h
  refine ⟨⟨cs[i]'(by omega), ?_⟩, h3.frozen i⟩
  rw [h3.cell]
  exact Array.getElem?_eq_getElem (by omega)
/-- The bytes as a string. -/
theorem Whole.str {w : World} {g k : Nat} {L : List UInt8} (h : Whole w g k L) (n c : Nat) (hn : n = L.length) : (convert 96 9 (.slice (some ⟨g, k, none⟩) n c)).run Tryz.prog w = .ok (.string (mkS L)) w := by
  subst hn
  obtain ⟨h2, cs, h3, h4, h5⟩ := h
  refine run_convert_bytes_back (P := Tryz.prog) w _ _ 5 ⟨g, k, none⟩ c L (by kernel_rfl) (by kernel_rfl) (by kernel_rfl) ?_
  intro j hj
  rw [Lib.add_plain, h3.cell]
  exact h5 j hj
end Go.Proofs.YtfclmnglckikbaaGreatDoor

/- internal/strconv.formatBits: the walk, at bases that are no powers of two. -/
namespace Go.Proofs.YtfclmnglckikbaaGreatDoor
open Go.RowKit
set_option linter.unusedVariables false

theorem index36 (r : Nat) (h : r < 36) (hs : r < (⟨#[48, 49, 50, 51, 52, 53, 54, 55, 56, 57, 97, 98, 99, 100, 101, 102, 103, 104, 105, 106, 107, 108, 109, 110, 111, 112, 113, 114, 115, 116, 117, 118, 119, 120, 121, 122]⟩ : ByteArray).size) :
    (⟨#[48, 49, 50, 51, 52, 53, 54, 55, 56, 57, 97, 98, 99, 100, 101, 102, 103, 104, 105, 106, 107, 108, 109, 110, 111, 112, 113, 114, 115, 116, 117, 118, 119, 120, 121, 122]⟩ : ByteArray)[r]'hs = nameN r := by
  rw [← digits_at ⟨r, h⟩]
  show _ = List.getD _ r 0
  rw [List.getD_eq_getElem?_getD, List.getElem?_eq_getElem (by simpa using h)]
  rfl

/-- The tail of the array as a slice. -/
theorem slice_tail (g i n : Nat) (z : Int) (hz : z = i) (hn : n + i = 65) (h0 : 0 < n) (W : World) :
    (Instr.sliceAt 119 (.pointer (some ⟨g, 0, none⟩)) (some (.int .i64 z)) none none).run Tryz.prog W = .ok (.slice (some ⟨g, i, none⟩) n n) W := by
  subst hz
  have ha : Tryz.prog.arrayLen 119 = 65 := by kernel_rfl
  have he : Tryz.prog.elem 119 = 5 := by kernel_rfl
  have hs : ∀ W, (sizeOf 5).run Tryz.prog W = .ok 1 W := fun W => by kernel_rfl
  rw [run_sliceAt_array_l W 119 ⟨g, 0, none⟩ (by kernel_rfl) .i64 (i : Int) (by omega) (by rw [ha]; omega), ha, he, hs]
  simp only [Result.andThen, slicedAt, Int.toNat_natCast]
  rw [if_neg (by omega)]
  have h2 : (Addr.mk g 0 none).add (i * 1) = ⟨g, i, none⟩ := by
    unfold Addr.add
    by_cases h : i * 1 = 0
    · rw [if_pos h]
      have : i = 0 := by omega
      rw [this]
    · rw [if_neg h]
      simp
  rw [h2]
  have h3 : 65 - i = n := by omega
  rw [h3]

theorem digs_start (w : World) (b u0 : Nat) (g : Nat) (hg : g = w.heap.size) : Digs (w.alloc (.cells Tryz.zeroCells119 119)) g b u0 u0 65 [] := by
  subst hg
  exact ⟨by simp, rfl, _, Blk.new _ _ _, by kernel_rfl, fun j h => by simp at h⟩

set_option maxHeartbeats 4000000 in
set_option maxRecDepth 100000 in
theorem fb_gen (u0 b : Nat) (h1 : 2 ≤ b) (h2 : b ≤ 36) (h10 : ((b : Int) == 10) = false) (hu : u0 < 18446744073709551616) (hp : (bits BinOp.and IntKind.i64 b (b - 1) == 0) = false) (w : World) :
    Calls Tryz.prog 106 #[.slice none 0 0, .int .u64 u0, .int .i64 b, .bool false, .bool false] w fun e w' => e = .returned (.tuple #[.slice none 0 0, .string (mkS (bDigits b u0))]) ∧ Below w.heap.size w w' := by
  go_enter Tryz.func106, Tryz.ntmps106
  go_wp2_with (first | (go_at_call 114; refine (ipt_any _ (by omega) (by omega) _ hp _).mono ?_; rintro e w1 ⟨rfl, rfl⟩))
  go_loopw [1, 13] (fun u i wr => ∃ (v k : Nat) (L : List UInt8), u = .int .u64 v ∧ i = .int .i64 k ∧ v < 18446744073709551616 ∧ Digs wr w.heap.size b u0 v k L ∧ Below w.heap.size w wr) (fun u _ _ => (intOf u).toNat)
  case atStart => exact ⟨u0, 65, [], rfl, rfl, hu, digs_start _ _ _ _ rfl, by (repeat' (first | (with_reducible exact Below.refl _ _) | (with_reducible assumption) | (with_reducible refine Below.alloc ?_ ?_ _) | (with_reducible refine below_drewN ?_ _) | (with_reducible refine Below.drew ?_) | (with_reducible refine Below.setCell ?_ ?_ _) | (with_reducible refine below_via (by assumption) ?_ ?_) | (with_reducible refine below_via (later_below _) ?_ ?_) | (with_reducible exact Nat.le_refl _) | omega | (simp; omega) | (simp; done)))⟩
  case round =>
    obtain ⟨v, k, L, rfl, rfl, hv, hd, hbel⟩ := hrel
    obtain ⟨hk1, hk2⟩ := hd.bound h1 hu
    obtain ⟨⟨x, hx⟩, hfz⟩ := hd.cell (k - 1) (by omega)
    by_cases hlt : b ≤ v
    · obtain ⟨q, r, hq, hr, hrb, hqv, e1, e2⟩ := fb_arith v b h1 hv
      have hq0 : q < v := by rw [hq]; exact Nat.div_lt_self (by omega) (by omega)
      have HD := Lib.hid hd
      have HQ := Lib.hid hq
      have HR := Lib.hid hr
      have HB := Lib.hid hbel
      clear hd hq hr hbel
      go_wp2 -- round
      refine ⟨⟨q, k - 1, nameN (v % b) :: L, rfl, by rw [Int.natCast_sub (by omega)]; rfl, by omega, ?_, ?_⟩, by simp [intOf]; omega⟩
      · have hs := HD.out.step h1 hlt (by omega) (nameN (v % b)) rfl
        rw [← HQ.out, ← HR.out] at hs
        rw [index36 r (by omega), ← HR.out]
        exact hs
      · have hbel := HB.out
        (repeat' (first | (with_reducible exact Below.refl _ _) | (with_reducible assumption) | (with_reducible refine Below.alloc ?_ ?_ _) | (with_reducible refine below_drewN ?_ _) | (with_reducible refine Below.drew ?_) | (with_reducible refine Below.setCell ?_ ?_ _) | (with_reducible refine below_via (by assumption) ?_ ?_) | (with_reducible refine below_via (later_below _) ?_ ?_) | (with_reducible exact Nat.le_refl _) | omega | (simp; omega) | (simp; done)))
    · obtain ⟨m, rfl⟩ : ∃ m, k = m + 1 := ⟨k - 1, by omega⟩
      rw [Nat.add_sub_cancel] at hx hfz
      obtain ⟨d, hdn⟩ : ∃ d, d = nameN v := ⟨_, rfl⟩
      have hix : ∀ hs, (⟨#[48, 49, 50, 51, 52, 53, 54, 55, 56, 57, 97, 98, 99, 100, 101, 102, 103, 104, 105, 106, 107, 108, 109, 110, 111, 112, 113, 114, 115, 116, 117, 118, 119, 120, 121, 122]⟩ : ByteArray)[v]'hs = d := fun hs => by rw [hdn]; exact index36 v (by omega) hs
      have hwh := hd.whole.put (by omega) d
      rw [Nat.add_sub_cancel] at hwh
      have hln := hwh.1
      obtain ⟨n, hn⟩ : ∃ n, n = (d :: L).length := ⟨_, rfl⟩
      have hsl := slice_tail w.heap.size m n m rfl (by omega) (by rw [hn]; simp)
      have hcv := hwh.str n n hn
      have hres : bDigits b u0 = d :: L := by rw [hd.1, bDigits_small (by omega), hdn]; rfl
      have HRES := Lib.hid hres
      have HB := Lib.hid hbel
      clear hd hbel hwh hres hn hdn hln
      go_wp2 -- exit
      go_ret2
      refine ⟨by rw [HRES.out]; rfl, ?_⟩
      have hbel := HB.out
      (repeat' (first | (with_reducible exact Below.refl _ _) | (with_reducible assumption) | (with_reducible refine Below.alloc ?_ ?_ _) | (with_reducible refine below_drewN ?_ _) | (with_reducible refine Below.drew ?_) | (with_reducible refine Below.setCell ?_ ?_ _) | (with_reducible refine below_via (by assumption) ?_ ?_) | (with_reducible refine below_via (later_below _) ?_ ?_) | (with_reducible exact Nat.le_refl _) | omega | (simp; omega) | (simp; done)))

set_option maxHeartbeats 4000000 in
set_option maxRecDepth 100000 in
theorem fb_gen_neg (U : Int) (u0 b : Nat) (h1 : 2 ≤ b) (h2 : b ≤ 36) (h10 : ((b : Int) == 10) = false) (hu : u0 < 18446744073709551616) (hp : (bits BinOp.and IntKind.i64 b (b - 1) == 0) = false) (hU : IntKind.u64.wrap (-U) = u0) (w : World) :
    Calls Tryz.prog 106 #[.slice none 0 0, .int .u64 U, .int .i64 b, .bool true, .bool false] w fun e w' => e = .returned (.tuple #[.slice none 0 0, .string (mkS (45 :: bDigits b u0))]) ∧ Below w.heap.size w w' := by
  go_enter Tryz.func106, Tryz.ntmps106
  go_wp2_with (first | (go_at_call 114; refine (ipt_any _ (by omega) (by omega) _ hp _).mono ?_; rintro e w1 ⟨rfl, rfl⟩))
  go_loopw [1, 13] (fun u i wr => ∃ (v k : Nat) (L : List UInt8), u = .int .u64 v ∧ i = .int .i64 k ∧ v < 18446744073709551616 ∧ Digs wr w.heap.size b u0 v k L ∧ Below w.heap.size w wr) (fun u _ _ => (intOf u).toNat)
  case atStart => exact ⟨u0, 65, [], rfl, rfl, hu, digs_start _ _ _ _ rfl, by (repeat' (first | (with_reducible exact Below.refl _ _) | (with_reducible assumption) | (with_reducible refine Below.alloc ?_ ?_ _) | (with_reducible refine below_drewN ?_ _) | (with_reducible refine Below.drew ?_) | (with_reducible refine Below.setCell ?_ ?_ _) | (with_reducible refine below_via (by assumption) ?_ ?_) | (with_reducible refine below_via (later_below _) ?_ ?_) | (with_reducible exact Nat.le_refl _) | omega | (simp; omega) | (simp; done)))⟩
  case round =>
    obtain ⟨v, k, L, rfl, rfl, hv, hd, hbel⟩ := hrel
    obtain ⟨hk1, hk2⟩ := hd.bound h1 hu
    obtain ⟨⟨x, hx⟩, hfz⟩ := hd.cell (k - 1) (by omega)
    by_cases hlt : b ≤ v
    · obtain ⟨q, r, hq, hr, hrb, hqv, e1, e2⟩ := fb_arith v b h1 hv
      have hq0 : q < v := by rw [hq]; exact Nat.div_lt_self (by omega) (by omega)
      have HD := Lib.hid hd
      have HQ := Lib.hid hq
      have HR := Lib.hid hr
      have HB := Lib.hid hbel
      clear hd hq hr hbel
      go_wp2 -- round
      refine ⟨⟨q, k - 1, nameN (v % b) :: L, rfl, by rw [Int.natCast_sub (by omega)]; rfl, by omega, ?_, ?_⟩, by simp [intOf]; omega⟩
      · have hs := HD.out.step h1 hlt (by omega) (nameN (v % b)) rfl
        rw [← HQ.out, ← HR.out] at hs
        rw [index36 r (by omega), ← HR.out]
        exact hs
      · have hbel := HB.out
        (repeat' (first | (with_reducible exact Below.refl _ _) | (with_reducible assumption) | (with_reducible refine Below.alloc ?_ ?_ _) | (with_reducible refine below_drewN ?_ _) | (with_reducible refine Below.drew ?_) | (with_reducible refine Below.setCell ?_ ?_ _) | (with_reducible refine below_via (by assumption) ?_ ?_) | (with_reducible refine below_via (later_below _) ?_ ?_) | (with_reducible exact Nat.le_refl _) | omega | (simp; omega) | (simp; done)))
    · obtain ⟨m, rfl⟩ : ∃ m, k = m + 1 + 1 := ⟨k - 2, by omega⟩
      rw [Nat.add_sub_cancel] at hx hfz
      obtain ⟨⟨x2, hx2⟩, hfz2⟩ := hd.cell m (by omega)
      obtain ⟨d, hdn⟩ : ∃ d, d = nameN v := ⟨_, rfl⟩
      have hix : ∀ hs, (⟨#[48, 49, 50, 51, 52, 53, 54, 55, 56, 57, 97, 98, 99, 100, 101, 102, 103, 104, 105, 106, 107, 108, 109, 110, 111, 112, 113, 114, 115, 116, 117, 118, 119, 120, 121, 122]⟩ : ByteArray)[v]'hs = d := fun hs => by rw [hdn]; exact index36 v (by omega) hs
      have hwh := hd.whole.put (by omega) d
      rw [Nat.add_sub_cancel] at hwh
      have hwh := hwh.put (by omega) 45
      rw [Nat.add_sub_cancel] at hwh
      have hln := hwh.1
      obtain ⟨n, hn⟩ : ∃ n, n = (45 :: d :: L).length := ⟨_, rfl⟩
      have hsl := slice_tail w.heap.size m n m rfl (by omega) (by rw [hn]; simp)
      have hcv := hwh.str n n hn
      rw [show (((45 : UInt8).toNat : Nat) : Int) = 45 from rfl] at hcv
      have hres : bDigits b u0 = d :: L := by rw [hd.1, bDigits_small (by omega), hdn]; rfl
      have HRES := Lib.hid hres
      have HB := Lib.hid hbel
      clear hd hbel hwh hres hn hdn hln
      go_wp2 -- exit
      go_ret2
      refine ⟨by rw [HRES.out]; rfl, ?_⟩
      have hbel := HB.out
      (repeat' (first | (with_reducible exact Below.refl _ _) | (with_reducible assumption) | (with_reducible refine Below.alloc ?_ ?_ _) | (with_reducible refine below_drewN ?_ _) | (with_reducible refine Below.drew ?_) | (with_reducible refine Below.setCell ?_ ?_ _) | (with_reducible refine below_via (by assumption) ?_ ?_) | (with_reducible refine below_via (later_below _) ?_ ?_) | (with_reducible exact Nat.le_refl _) | omega | (simp; omega) | (simp; done)))
end Go.Proofs.YtfclmnglckikbaaGreatDoor

/- internal/strconv.formatBits: the walk, at bases that are powers of two. -/
namespace Go.Proofs.YtfclmnglckikbaaGreatDoor
open Go.RowKit
set_option linter.unusedVariables false

theorem tz_any (b sh : Nat) (hb : b ≤ 36) (hs : Lib.ctz 64 b = sh) (w : World) (hT : Tabs w) :
    Calls Tryz.prog 115 #[.int .u64 b] w fun e w' => e = .returned (.int .i64 sh) ∧ w = w' :=
  (Any7.bits_TrailingZeros Tryz.laysz27 b (by omega) w (fun _ => hT.2)).mono fun _ _ ⟨he, hw⟩ => ⟨by rw [he, hs], hw.symm⟩

theorem pow_arith (v b sh : Nat) (hb : 2 ≤ b) (hv : v < 18446744073709551616) (h : 2 ^ sh = b) (hs : b ≤ 36) : ∃ q r : Nat, q = v / b ∧ r = v % b ∧ r < b ∧ q < v + 1 ∧ (v : Int) / 2 ^ sh = q ∧ bits BinOp.and IntKind.u64 (v : Int) ((b : Int) - 1) = r := by
  refine ⟨v / b, v % b, rfl, rfl, Nat.mod_lt _ (by omega), Nat.lt_succ_of_le (Nat.div_le_self _ _), ?_, ?_⟩
  · rw [← h]; push_cast; rfl
  · have e : (b : Int) - 1 = ((b - 1 : Nat) : Int) := by omega
    rw [e, bits_and_u64_nat v (b - 1) hv (by omega), ← h, Nat.and_two_pow_sub_one_eq_mod]

set_option maxHeartbeats 4000000 in
set_option maxRecDepth 100000 in
theorem fb_pow (u0 b sh : Nat) (h1 : 2 ≤ b) (h2 : b ≤ 36) (h10 : ((b : Int) == 10) = false) (hu : u0 < 18446744073709551616) (hp : (bits BinOp.and IntKind.i64 b (b - 1) == 0) = true) (hsh : Lib.ctz 64 b = sh) (hs6 : 2 ^ sh = b) (hs5 : sh ≤ 5) (w : World) (hT : Tabs (w.alloc (.cells Tryz.zeroCells119 119))) :
    Calls Tryz.prog 106 #[.slice none 0 0, .int .u64 u0, .int .i64 b, .bool false, .bool false] w fun e w' => e = .returned (.tuple #[.slice none 0 0, .string (mkS (bDigits b u0))]) ∧ Below w.heap.size w w' := by
  have HT := Lib.hid hT
  have HS := Lib.hid hsh
  have H6 := Lib.hid hs6
  clear hT hsh hs6
  go_enter Tryz.func106, Tryz.ntmps106
  go_wp2_with (first | (go_at_call 114; refine (ipt_any _ (by omega) (by omega) _ hp _).mono ?_; rintro e w1 ⟨rfl, rfl⟩) | (go_at_call 115; refine (tz_any b sh h2 HS.out _ HT.out).mono ?_; rintro e w2 ⟨rfl, rfl⟩))
  go_loopw [1, 13] (fun u i wr => ∃ (v k : Nat) (L : List UInt8), u = .int .u64 v ∧ i = .int .i64 k ∧ v < 18446744073709551616 ∧ Digs wr w.heap.size b u0 v k L ∧ Below w.heap.size w wr) (fun u _ _ => (intOf u).toNat)
  case atStart => exact ⟨u0, 65, [], rfl, rfl, hu, digs_start _ _ _ _ rfl, by (repeat' (first | (with_reducible exact Below.refl _ _) | (with_reducible assumption) | (with_reducible refine Below.alloc ?_ ?_ _) | (with_reducible refine below_drewN ?_ _) | (with_reducible refine Below.drew ?_) | (with_reducible refine Below.setCell ?_ ?_ _) | (with_reducible refine below_via (by assumption) ?_ ?_) | (with_reducible refine below_via (later_below _) ?_ ?_) | (with_reducible exact Nat.le_refl _) | omega | (simp; omega) | (simp; done)))⟩
  case round =>
    obtain ⟨v, k, L, rfl, rfl, hv, hd, hbel⟩ := hrel
    obtain ⟨hk1, hk2⟩ := hd.bound h1 hu
    obtain ⟨⟨x, hx⟩, hfz⟩ := hd.cell (k - 1) (by omega)
    by_cases hlt : b ≤ v
    · obtain ⟨q, r, hq, hr, hrb, hqv, e1, e2⟩ := pow_arith v b sh h1 hv H6.out h2
      have hq0 : q < v := by rw [hq]; exact Nat.div_lt_self (by omega) (by omega)
      have HD := Lib.hid hd
      have HQ := Lib.hid hq
      have HR := Lib.hid hr
      have HB := Lib.hid hbel
      clear hd hq hr hbel
      go_wp2 -- round
      refine ⟨⟨q, k - 1, nameN (v % b) :: L, rfl, by rw [Int.natCast_sub (by omega)]; rfl, by omega, ?_, ?_⟩, by simp [intOf]; omega⟩
      · have hs := HD.out.step h1 hlt (by omega) (nameN (v % b)) rfl
        rw [← HQ.out, ← HR.out] at hs
        rw [index36 r (by omega), ← HR.out]
        exact hs
      · have hbel := HB.out
        (repeat' (first | (with_reducible exact Below.refl _ _) | (with_reducible assumption) | (with_reducible refine Below.alloc ?_ ?_ _) | (with_reducible refine below_drewN ?_ _) | (with_reducible refine Below.drew ?_) | (with_reducible refine Below.setCell ?_ ?_ _) | (with_reducible refine below_via (by assumption) ?_ ?_) | (with_reducible refine below_via (later_below _) ?_ ?_) | (with_reducible exact Nat.le_refl _) | omega | (simp; omega) | (simp; done)))
    · obtain ⟨m, rfl⟩ : ∃ m, k = m + 1 := ⟨k - 1, by omega⟩
      rw [Nat.add_sub_cancel] at hx hfz
      obtain ⟨d, hdn⟩ : ∃ d, d = nameN v := ⟨_, rfl⟩
      have hix : ∀ hs, (⟨#[48, 49, 50, 51, 52, 53, 54, 55, 56, 57, 97, 98, 99, 100, 101, 102, 103, 104, 105, 106, 107, 108, 109, 110, 111, 112, 113, 114, 115, 116, 117, 118, 119, 120, 121, 122]⟩ : ByteArray)[v]'hs = d := fun hs => by rw [hdn]; exact index36 v (by omega) hs
      have hwh := hd.whole.put (by omega) d
      rw [Nat.add_sub_cancel] at hwh
      have hln := hwh.1
      obtain ⟨n, hn⟩ : ∃ n, n = (d :: L).length := ⟨_, rfl⟩
      have hsl := slice_tail w.heap.size m n m rfl (by omega) (by rw [hn]; simp)
      have hcv := hwh.str n n hn
      have hres : bDigits b u0 = d :: L := by rw [hd.1, bDigits_small (by omega), hdn]; rfl
      have HRES := Lib.hid hres
      have HB := Lib.hid hbel
      clear hd hbel hwh hres hn hdn hln
      go_wp2 -- exit
      go_ret2
      refine ⟨by rw [HRES.out]; rfl, ?_⟩
      have hbel := HB.out
      (repeat' (first | (with_reducible exact Below.refl _ _) | (with_reducible assumption) | (with_reducible refine Below.alloc ?_ ?_ _) | (with_reducible refine below_drewN ?_ _) | (with_reducible refine Below.drew ?_) | (with_reducible refine Below.setCell ?_ ?_ _) | (with_reducible refine below_via (by assumption) ?_ ?_) | (with_reducible refine below_via (later_below _) ?_ ?_) | (with_reducible exact Nat.le_refl _) | omega | (simp; omega) | (simp; done)))

set_option maxHeartbeats 4000000 in
set_option maxRecDepth 100000 in
theorem fb_pow_neg (U : Int) (u0 b sh : Nat) (h1 : 2 ≤ b) (h2 : b ≤ 36) (h10 : ((b : Int) == 10) = false) (hu : u0 < 18446744073709551616) (hp : (bits BinOp.and IntKind.i64 b (b - 1) == 0) = true) (hU : IntKind.u64.wrap (-U) = u0) (hsh : Lib.ctz 64 b = sh) (hs6 : 2 ^ sh = b) (hs5 : sh ≤ 5) (w : World) (hT : Tabs (w.alloc (.cells Tryz.zeroCells119 119))) :
    Calls Tryz.prog 106 #[.slice none 0 0, .int .u64 U, .int .i64 b, .bool true, .bool false] w fun e w' => e = .returned (.tuple #[.slice none 0 0, .string (mkS (45 :: bDigits b u0))]) ∧ Below w.heap.size w w' := by
  have HT := Lib.hid hT
  have HS := Lib.hid hsh
  have H6 := Lib.hid hs6
  clear hT hsh hs6
  go_enter Tryz.func106, Tryz.ntmps106
  go_wp2_with (first | (go_at_call 114; refine (ipt_any _ (by omega) (by omega) _ hp _).mono ?_; rintro e w1 ⟨rfl, rfl⟩) | (go_at_call 115; refine (tz_any b sh h2 HS.out _ HT.out).mono ?_; rintro e w2 ⟨rfl, rfl⟩))
  go_loopw [1, 13] (fun u i wr => ∃ (v k : Nat) (L : List UInt8), u = .int .u64 v ∧ i = .int .i64 k ∧ v < 18446744073709551616 ∧ Digs wr w.heap.size b u0 v k L ∧ Below w.heap.size w wr) (fun u _ _ => (intOf u).toNat)
  case atStart => exact ⟨u0, 65, [], rfl, rfl, hu, digs_start _ _ _ _ rfl, by (repeat' (first | (with_reducible exact Below.refl _ _) | (with_reducible assumption) | (with_reducible refine Below.alloc ?_ ?_ _) | (with_reducible refine below_drewN ?_ _) | (with_reducible refine Below.drew ?_) | (with_reducible refine Below.setCell ?_ ?_ _) | (with_reducible refine below_via (by assumption) ?_ ?_) | (with_reducible refine below_via (later_below _) ?_ ?_) | (with_reducible exact Nat.le_refl _) | omega | (simp; omega) | (simp; done)))⟩
  case round =>
    obtain ⟨v, k, L, rfl, rfl, hv, hd, hbel⟩ := hrel
    obtain ⟨hk1, hk2⟩ := hd.bound h1 hu
    obtain ⟨⟨x, hx⟩, hfz⟩ := hd.cell (k - 1) (by omega)
    by_cases hlt : b ≤ v
    · obtain ⟨q, r, hq, hr, hrb, hqv, e1, e2⟩ := pow_arith v b sh h1 hv H6.out h2
      have hq0 : q < v := by rw [hq]; exact Nat.div_lt_self (by omega) (by omega)
      have HD := Lib.hid hd
      have HQ := Lib.hid hq
      have HR := Lib.hid hr
      have HB := Lib.hid hbel
      clear hd hq hr hbel
      go_wp2 -- round
      refine ⟨⟨q, k - 1, nameN (v % b) :: L, rfl, by rw [Int.natCast_sub (by omega)]; rfl, by omega, ?_, ?_⟩, by simp [intOf]; omega⟩
      · have hs := HD.out.step h1 hlt (by omega) (nameN (v % b)) rfl
        rw [← HQ.out, ← HR.out] at hs
        rw [index36 r (by omega), ← HR.out]
        exact hs
      · have hbel := HB.out
        (repeat' (first | (with_reducible exact Below.refl _ _) | (with_reducible assumption) | (with_reducible refine Below.alloc ?_ ?_ _) | (with_reducible refine below_drewN ?_ _) | (with_reducible refine Below.drew ?_) | (with_reducible refine Below.setCell ?_ ?_ _) | (with_reducible refine below_via (by assumption) ?_ ?_) | (with_reducible refine below_via (later_below _) ?_ ?_) | (with_reducible exact Nat.le_refl _) | omega | (simp; omega) | (simp; done)))
    · obtain ⟨m, rfl⟩ : ∃ m, k = m + 1 + 1 := ⟨k - 2, by omega⟩
      rw [Nat.add_sub_cancel] at hx hfz
      obtain ⟨⟨x2, hx2⟩, hfz2⟩ := hd.cell m (by omega)
      obtain ⟨d, hdn⟩ : ∃ d, d = nameN v := ⟨_, rfl⟩
      have hix : ∀ hs, (⟨#[48, 49, 50, 51, 52, 53, 54, 55, 56, 57, 97, 98, 99, 100, 101, 102, 103, 104, 105, 106, 107, 108, 109, 110, 111, 112, 113, 114, 115, 116, 117, 118, 119, 120, 121, 122]⟩ : ByteArray)[v]'hs = d := fun hs => by rw [hdn]; exact index36 v (by omega) hs
      have hwh := hd.whole.put (by omega) d
      rw [Nat.add_sub_cancel] at hwh
      have hwh := hwh.put (by omega) 45
      rw [Nat.add_sub_cancel] at hwh
      have hln := hwh.1
      obtain ⟨n, hn⟩ : ∃ n, n = (45 :: d :: L).length := ⟨_, rfl⟩
      have hsl := slice_tail w.heap.size m n m rfl (by omega) (by rw [hn]; simp)
      have hcv := hwh.str n n hn
      rw [show (((45 : UInt8).toNat : Nat) : Int) = 45 from rfl] at hcv
      have hres : bDigits b u0 = d :: L := by rw [hd.1, bDigits_small (by omega), hdn]; rfl
      have HRES := Lib.hid hres
      have HB := Lib.hid hbel
      clear hd hbel hwh hres hn hdn hln
      go_wp2 -- exit
      go_ret2
      refine ⟨by rw [HRES.out]; rfl, ?_⟩
      have hbel := HB.out
      (repeat' (first | (with_reducible exact Below.refl _ _) | (with_reducible assumption) | (with_reducible refine Below.alloc ?_ ?_ _) | (with_reducible refine below_drewN ?_ _) | (with_reducible refine Below.drew ?_) | (with_reducible refine Below.setCell ?_ ?_ _) | (with_reducible refine below_via (by assumption) ?_ ?_) | (with_reducible refine below_via (later_below _) ?_ ?_) | (with_reducible exact Nat.le_refl _) | omega | (simp; omega) | (simp; done)))
end Go.Proofs.YtfclmnglckikbaaGreatDoor

/- strconv.FormatInt at every base, and numeral.Base. -/
namespace Go.Proofs.YtfclmnglckikbaaGreatDoor
open Go.RowKit
set_option linter.unusedVariables false

theorem not_pow : ∀ b : Fin 37, 2 ≤ b.val → (bits BinOp.and IntKind.i64 (b.val : Int) ((b.val : Int) - 1) == 0) = true → ∃ sh, sh ≤ 5 ∧ Lib.ctz 64 b.val = sh ∧ 2 ^ sh = b.val := by decide +kernel

theorem name_dec (d : Nat) (h : d < 10) : nameN d = UInt8.ofNat (48 + d) := by unfold nameN; rw [if_pos h]
theorem decDigits_bDigits (u : Nat) : Lib.decDigits u = bDigits 10 u := by
  induction u using Nat.strongRecOn with
  | ind u ih =>
    rw [Lib.decDigits]
    split
    · rename_i h; rw [bDigits_small h, name_dec u h]
    · rename_i h
      rw [bDigits_big (by omega) h, ih (u / 10) (by omega), name_dec _ (by omega)]
theorem itoa_bText (n : Int) : Lib.itoa n = bText 10 n := by
  unfold Lib.itoa bText
  rw [decDigits_bDigits, decDigits_bDigits]

/-- formatBits, handed what FormatInt hands it. -/
theorem fb_pos (u b : Nat) (h1 : 2 ≤ b) (h2 : b ≤ 36) (h10 : b ≠ 10) (hu : u < 18446744073709551616) (w : World) (hT : Tabs w) :
    Calls Tryz.prog 106 #[.slice none 0 0, .int .u64 u, .int .i64 b, .bool false, .bool false] w fun e w' => e = .returned (.tuple #[.slice none 0 0, .string (mkS (bDigits b u))]) ∧ Below w.heap.size w w' := by
  have h10' : ((b : Int) == 10) = false := by simp; omega
  cases hp : (bits BinOp.and IntKind.i64 (b : Int) ((b : Int) - 1) == 0)
  · exact fb_gen u b h1 h2 h10' hu hp w
  · obtain ⟨sh, h5, hs, h6⟩ := not_pow ⟨b, by omega⟩ h1 hp
    exact fb_pow u b sh h1 h2 h10' hu hp hs h6 h5 (w := w) (hT.later ((Below.refl _ _).alloc (Nat.le_refl _) _))
theorem fb_neg (U : Int) (u b : Nat) (h1 : 2 ≤ b) (h2 : b ≤ 36) (h10 : b ≠ 10) (hu : u < 18446744073709551616) (hU : IntKind.u64.wrap (-U) = u) (w : World) (hT : Tabs w) :
    Calls Tryz.prog 106 #[.slice none 0 0, .int .u64 U, .int .i64 b, .bool true, .bool false] w fun e w' => e = .returned (.tuple #[.slice none 0 0, .string (mkS (45 :: bDigits b u))]) ∧ Below w.heap.size w w' := by
  have h10' : ((b : Int) == 10) = false := by simp; omega
  cases hp : (bits BinOp.and IntKind.i64 (b : Int) ((b : Int) - 1) == 0)
  · exact fb_gen_neg U u b h1 h2 h10' hu hp hU w
  · obtain ⟨sh, h5, hs, h6⟩ := not_pow ⟨b, by omega⟩ h1 hp
    exact fb_pow_neg U u b sh h1 h2 h10' hu hp hU hs h6 h5 (w := w) (hT.later ((Below.refl _ _).alloc (Nat.le_refl _) _))

set_option maxHeartbeats 1000000 in
theorem fi_in (n : Int) (b : Nat) (h1 : 2 ≤ b) (h2 : b ≤ 36) (h10 : b ≠ 10) (hn : -9223372036854775808 ≤ n) (hn2 : n ≤ 9223372036854775807) (w : World) (hT : Tabs w) :
    Calls Tryz.prog 84 #[.int .i64 n, .int .i64 b] w fun e w' => e = .returned (.string (mkS (bText b n))) ∧ Below w.heap.size w w' := by
  have h10' : ((b : Int) == 10) = false := by simp; omega
  by_cases hneg : n < 0
  · obtain ⟨u, hu⟩ : ∃ u : Nat, n.natAbs = u := ⟨_, rfl⟩
    have hU : IntKind.u64.wrap (-(IntKind.u64.wrap n)) = u := by rw [IntKind.wrap_u64, IntKind.wrap_u64]; omega
    have ht : bText b n = 45 :: bDigits b u := by unfold bText; rw [if_pos hneg, hu]
    rw [ht]
    have HC := Lib.hid (fun w hT => fb_neg _ u b h1 h2 h10 (by omega) hU w hT)
    have HT := Lib.hid hT
    clear hU ht hT hu h10
    go_enter Tryz.func84, Tryz.ntmps84
    go_wp2_with (first | (go_at_call 106; refine (HC.out _ (HT.out.later ?_)).mono ?_; (focus ((repeat' (first | (with_reducible exact Below.refl _ _) | (with_reducible assumption) | (with_reducible refine Below.alloc ?_ ?_ _) | (with_reducible refine below_drewN ?_ _) | (with_reducible refine Below.drew ?_) | (with_reducible refine Below.setCell ?_ ?_ _) | (with_reducible refine below_via (by assumption) ?_ ?_) | (with_reducible refine below_via (later_below _) ?_ ?_) | (with_reducible exact Nat.le_refl _) | omega | (simp; omega) | (simp; done))))); rintro e w1 ⟨rfl, hb⟩))
    go_returns
    exact ⟨rfl, hb⟩
  · obtain ⟨u, rfl⟩ : ∃ u : Nat, n = u := ⟨n.toNat, by omega⟩
    have ht : bText b (u : Int) = bDigits b u := by unfold bText; rw [if_neg hneg, Int.toNat_natCast]
    rw [ht]
    have HC := Lib.hid (fun w hT => fb_pos u b h1 h2 h10 (by omega) w hT)
    have HT := Lib.hid hT
    clear ht hT h10
    go_enter Tryz.func84, Tryz.ntmps84
    go_wp2_with (first | (go_at_call 106; refine (HC.out _ (HT.out.later ?_)).mono ?_; (focus ((repeat' (first | (with_reducible exact Below.refl _ _) | (with_reducible assumption) | (with_reducible refine Below.alloc ?_ ?_ _) | (with_reducible refine below_drewN ?_ _) | (with_reducible refine Below.drew ?_) | (with_reducible refine Below.setCell ?_ ?_ _) | (with_reducible refine below_via (by assumption) ?_ ?_) | (with_reducible refine below_via (later_below _) ?_ ?_) | (with_reducible exact Nat.le_refl _) | omega | (simp; omega) | (simp; done))))); rintro e w1 ⟨rfl, hb⟩))
    go_returns
    exact ⟨rfl, hb⟩

set_option maxHeartbeats 1000000 in
theorem fi_out (n : Int) (b : Nat) (h1 : 2 ≤ b) (h2 : b ≤ 36) (hn : -9223372036854775808 ≤ n) (hn2 : n ≤ 9223372036854775807) (w : World) (hT : Tabs w) :
    Calls Tryz.prog 51 #[.int .i64 n, .int .i64 b] w fun e w' => e = .returned (.string (mkS (bText b n))) ∧ Below w.heap.size w w' := by
  by_cases h10 : b = 10
  · subst h10
    rw [← itoa_bText]
    exact (Tryz.strconv_FormatInt_10 n hn hn2 w hT.1).mono fun _ _ ⟨he, k, os, hw⟩ => ⟨he, by rw [hw]; exact (below_drewN (Below.refl _ _) k).trans (by have := below_grow (w := w.drewN k) os; exact this)⟩
  · have HC := Lib.hid (fi_in n b h1 h2 h10 hn hn2)
    have HT := Lib.hid hT
    clear hT h10
    go_enter Tryz.func51, Tryz.ntmps51
    go_wp2_with (first | (go_at_call 84; refine (HC.out _ HT.out).mono ?_; rintro e w1 ⟨rfl, hb⟩))
    go_returns
    exact ⟨rfl, hb⟩

/-- What Base answers: a text, an error. -/
def baseL (n b : Int) : List UInt8 × Int := if b < 2 ∨ 36 < b then ([], 2) else (bText b.toNat n, 0)
def strE (t : List UInt8 × Int) : Value := .tuple #[.string (mkS t.1), .int .i64 t.2]

set_option maxHeartbeats 1000000 in
theorem base_any (n b : Int) (hn : -9223372036854775808 ≤ n) (hn2 : n ≤ 9223372036854775807) (w : World) (hT : Tabs w) :
    Calls Tryz.prog 24 #[.int .i64 n, .int .i64 b] w fun e w' => e = .returned (strE (baseL n b)) ∧ Below w.heap.size w w' := by
  by_cases hb : b < 2 ∨ 36 < b
  · have ht : baseL n b = ([], 2) := by unfold baseL; rw [if_pos hb]
    rw [ht]
    clear ht
    rcases hb with hb | hb
    all_goals
      go_enter Tryz.func24, Tryz.ntmps24
      go_wp2_with fail
      all_goals ((try simp only [Exit.inBlock, Exit.then]); refine bodyPost_ret (by first | (simp [results, Tryz.results24, go_sem, *]; done) | (simp [results, Tryz.results24, go_sem, *]; rfl) | (simp [results, Tryz.results24, go_sem, ↓IntWalk.iteOmega, *]; try rfl)) rfl ?_)
      all_goals refine ⟨rfl, ?_⟩
      all_goals (repeat' (first | (with_reducible exact Below.refl _ _) | (with_reducible assumption) | (with_reducible refine Below.alloc ?_ ?_ _) | (with_reducible refine below_drewN ?_ _) | (with_reducible refine Below.drew ?_) | (with_reducible refine Below.setCell ?_ ?_ _) | (with_reducible refine below_via (by assumption) ?_ ?_) | (with_reducible refine below_via (later_below _) ?_ ?_) | (with_reducible exact Nat.le_refl _) | omega | (simp; omega) | (simp; done)))
  · obtain ⟨c, rfl⟩ : ∃ c : Nat, b = c := ⟨b.toNat, by omega⟩
    have ht : baseL n c = (bText c n, 0) := by unfold baseL; rw [if_neg hb, Int.toNat_natCast]
    rw [ht]
    have h1 : 2 ≤ c := by omega
    have h2 : c ≤ 36 := by omega
    have HC := Lib.hid (fi_out n c h1 h2 hn hn2 w hT)
    clear ht hb hT
    go_enter Tryz.func24, Tryz.ntmps24
    go_wp2_with (first | (go_at_call 51; refine HC.out.mono ?_; rintro e w1 ⟨rfl, hb⟩))
    ((try simp only [Exit.inBlock, Exit.then]); refine bodyPost_ret (by first | (simp [results, Tryz.results24, go_sem, *]; done) | (simp [results, Tryz.results24, go_sem, *]; rfl) | (simp [results, Tryz.results24, go_sem, ↓IntWalk.iteOmega, *]; try rfl)) rfl ?_)
    exact ⟨rfl, hb⟩
end Go.Proofs.YtfclmnglckikbaaGreatDoor
