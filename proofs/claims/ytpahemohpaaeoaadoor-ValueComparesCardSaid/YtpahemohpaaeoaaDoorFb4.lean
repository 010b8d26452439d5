/- strconv.FormatInt at every base, and numeral.Base. -/
import Derived.Test.YtpahemohpaaeoaaDoorFb3
namespace Go.Proofs.YtpahemohpaaeoaaDoor
open Go.RowKit
set_option linter.unusedVariables false

theorem not_pow : ∀ b : Fin 37, 2 ≤ b.val → (bits BinOp.and IntKind.i64 (b.val : Int) ((b.val : Int) - 1) == 0) = true → ∃ sh, sh ≤ 5 ∧ Lib.ctz 64 b.val = sh ∧ 2 ^ sh = b.val := by decide +kernel

theorem name_dec (d : Nat) (h : d < 10) : nameN d = UInt8.ofNat (48 + d) := by unfold nameN; rw [if_pos h]
theorem decDigits_bDigits (u : Nat) : Lib.decDigits u = bDigits 10 u := by
  induction u using Nat.strongRecOn with
  | ind u ih =>
    rw [Lib.decDigits]
    split
    · rename_i h; rw [bDigits_small h, name_dec u h]
    · rename_i h
      rw [bDigits_big (by omega) h, ih (u / 10) (by omega), name_dec _ (by omega)]
theorem itoa_bText (n : Int) : Lib.itoa n = bText 10 n := by
  unfold Lib.itoa bText
  rw [decDigits_bDigits, decDigits_bDigits]

/-- formatBits, handed what FormatInt hands it. -/
theorem fb_pos (u b : Nat) (h1 : 2 ≤ b) (h2 : b ≤ 36) (h10 : b ≠ 10) (hu : u < 18446744073709551616) (w : World) (hT : Tabs w) :
    Calls Tryd.prog 71 #[.slice none 0 0, .int .u64 u, .int .i64 b, .bool false, .bool false] w fun e w' => e = .returned (.tuple #[.slice none 0 0, .string (mkS (bDigits b u))]) ∧ Below w.heap.size w w' := by
  have h10' : ((b : Int) == 10) = false := by simp; omega
  cases hp : (bits BinOp.and IntKind.i64 (b : Int) ((b : Int) - 1) == 0)
  · exact fb_gen u b h1 h2 h10' hu hp w
  · obtain ⟨sh, h5, hs, h6⟩ := not_pow ⟨b, by omega⟩ h1 hp
    exact fb_pow u b sh h1 h2 h10' hu hp hs h6 h5 (w := w) (hT.later ((Below.refl _ _).alloc (Nat.le_refl _) _))
theorem fb_neg (U : Int) (u b : Nat) (h1 : 2 ≤ b) (h2 : b ≤ 36) (h10 : b ≠ 10) (hu : u < 18446744073709551616) (hU : IntKind.u64.wrap (-U) = u) (w : World) (hT : Tabs w) :
    Calls Tryd.prog 71 #[.slice none 0 0, .int .u64 U, .int .i64 b, .bool true, .bool false] w fun e w' => e = .returned (.tuple #[.slice none 0 0, .string (mkS (45 :: bDigits b u))]) ∧ Below w.heap.size w w' := by
  have h10' : ((b : Int) == 10) = false := by simp; omega
  cases hp : (bits BinOp.and IntKind.i64 (b : Int) ((b : Int) - 1) == 0)
  · exact fb_gen_neg U u b h1 h2 h10' hu hp hU w
  · obtain ⟨sh, h5, hs, h6⟩ := not_pow ⟨b, by omega⟩ h1 hp
    exact fb_pow_neg U u b sh h1 h2 h10' hu hp hU hs h6 h5 (w := w) (hT.later ((Below.refl _ _).alloc (Nat.le_refl _) _))

set_option maxHeartbeats 1000000 in
theorem fi_in (n : Int) (b : Nat) (h1 : 2 ≤ b) (h2 : b ≤ 36) (h10 : b ≠ 10) (hn : -9223372036854775808 ≤ n) (hn2 : n ≤ 9223372036854775807) (w : World) (hT : Tabs w) :
    Calls Tryd.prog 61 #[.int .i64 n, .int .i64 b] w fun e w' => e = .returned (.string (mkS (bText b n))) ∧ Below w.heap.size w w' := by
  have h10' : ((b : Int) == 10) = false := by simp; omega
  by_cases hneg : n < 0
  · obtain ⟨u, hu⟩ : ∃ u : Nat, n.natAbs = u := ⟨_, rfl⟩
    have hU : IntKind.u64.wrap (-(IntKind.u64.wrap n)) = u := by rw [IntKind.wrap_u64, IntKind.wrap_u64]; omega
    have ht : bText b n = 45 :: bDigits b u := by unfold bText; rw [if_pos hneg, hu]
    rw [ht]
    have HC := Lib.hid (fun w hT => fb_neg _ u b h1 h2 h10 (by omega) hU w hT)
    have HT := Lib.hid hT
    clear hU ht hT hu h10
    go_enter Tryd.func61, Tryd.ntmps61
    go_wp2_with (first | (go_at_call 71; refine (HC.out _ (HT.out.later ?_)).mono ?_; (focus ((repeat' (first | (with_reducible exact Below.refl _ _) | (with_reducible assumption) | (with_reducible refine Below.alloc ?_ ?_ _) | (with_reducible refine below_drewN ?_ _) | (with_reducible refine Below.drew ?_) | (with_reducible refine Below.setCell ?_ ?_ _) | (with_reducible refine below_via (by assumption) ?_ ?_) | (with_reducible refine below_via (later_below _) ?_ ?_) | (with_reducible exact Nat.le_refl _) | omega | (simp; omega) | (simp; done))))); rintro e w1 ⟨rfl, hb⟩))
    go_returns
    exact ⟨rfl, hb⟩
  · obtain ⟨u, rfl⟩ : ∃ u : Nat, n = u := ⟨n.toNat, by omega⟩
    have ht : bText b (u : Int) = bDigits b u := by unfold bText; rw [if_neg hneg, Int.toNat_natCast]
    rw [ht]
    have HC := Lib.hid (fun w hT => fb_pos u b h1 h2 h10 (by omega) w hT)
    have HT := Lib.hid hT
    clear ht hT h10
    go_enter Tryd.func61, Tryd.ntmps61
    go_wp2_with (first | (go_at_call 71; refine (HC.out _ (HT.out.later ?_)).mono ?_; (focus ((repeat' (first | (with_reducible exact Below.refl _ _) | (with_reducible assumption) | (with_reducible refine Below.alloc ?_ ?_ _) | (with_reducible refine below_drewN ?_ _) | (with_reducible refine Below.drew ?_) | (with_reducible refine Below.setCell ?_ ?_ _) | (with_reducible refine below_via (by assumption) ?_ ?_) | (with_reducible refine below_via (later_below _) ?_ ?_) | (with_reducible exact Nat.le_refl _) | omega | (simp; omega) | (simp; done))))); rintro e w1 ⟨rfl, hb⟩))
    go_returns
    exact ⟨rfl, hb⟩

/-- What Base answers: a text, an error. -/
def baseL (n b : Int) : List UInt8 × Int := if b < 2 ∨ 36 < b then ([], 2) else (bText b.toNat n, 0)
def strE (t : List UInt8 × Int) : Value := .tuple #[.string (mkS t.1), .int .i64 t.2]

end Go.Proofs.YtpahemohpaaeoaaDoor
