/- The limits of the lexer: long texts, strings and names. -/
import Derived.Test.YtgjeljhodflbgaaDoorMLxE
import Derived.Test.YtgjeljhodflbgaaDoorMLxP
import Derived.Test.YtgjeljhodflbgaaDoorMLxJ
namespace Go.Proofs.YtgjeljhodflbgaaDoor
open Go.RowKit Go.Instr Go.Shelf
set_option linter.unusedVariables false

theorem lit_long (k : Nat) : ∀ (r : List UInt8) (n : Nat), n ≤ 4096 → 4096 < n + k → litT 34 (List.replicate k 120 ++ r) n = (3, [], 0) := by
  induction k with
  | zero => intro r n h1 h2; omega
  | succ k ih =>
    intro r n h1 h2
    rw [List.replicate_succ, List.cons_append, litT_any (by decide) (by decide) (by decide)]
    by_cases h : n = 4096
    · rw [if_pos h]
    · rw [if_neg h, ih r (n + 1) (by omega) (by omega)]
      rfl
theorem quoteM_x (n : Nat) : quoteM (List.replicate n 120) = List.replicate n 120 := by
  induction n with
  | zero => rfl
  | succ n ih => rw [List.replicate_succ, quoteM_cons, ih]; rfl
/-- A string of n letters x. -/
def strX (n : Nat) : List UInt8 := 34 :: (List.replicate n 120 ++ [34])
theorem strX_ok (n : Nat) (h : n ≤ 4096) : scanA (strX n) 0 1 = ([⟨4, List.replicate n 120, 1, 0⟩], 0, 0) := by
  have := scan_quote (x := List.replicate n 120) (by simpa using h)
  unfold quoteL at this
  rw [quoteM_x] at this
  exact this
theorem strX_long (n : Nat) (h : 4096 < n) : scanA (strX n) 0 1 = ([], 1, 3) := by
  have hg : gapN (strX n) = (0, 0) := gap_head (by decide) (by decide) (by decide)
  have ht : tokT (strX n) = errR 3 := by
    unfold strX tokT stringT
    simp only []
    rw [if_neg (by decide), if_neg (by decide), if_pos (by decide), lit_long n [34] 0 (by omega) (by omega)]
    rfl
  have hd : (strX n).drop (gapN (strX n)).1 = strX n := by rw [hg]; rfl
  have := scanA_err (i := 0) (ln := 1) (r := strX n) (by rw [hd]; simp [strX]) (by rw [hd, ht]; decide)
  rw [this, hd, ht, hg]
  rfl
theorem name_ok : scanA (List.replicate 40 110) 0 1 = ([⟨1, List.replicate 40 110, 1, 0⟩], 0, 0) := (scan_name (by decide)).1
theorem name_long : scanA (32 :: List.replicate 41 110) 0 1 = ([], 1, 3) := by
  have hg : gapN (List.replicate 41 110) = (0, 0) := gap_head (c := 110) (t := List.replicate 40 110) (by decide) (by decide) (by decide)
  have ht : tokT (List.replicate 41 110) = errR 3 := by
    show tokT (110 :: List.replicate 40 110) = _
    unfold tokT wordT
    simp only []
    rw [if_pos (by decide), if_pos (by decide)]
  have hd : (List.replicate 41 (110 : UInt8)).drop (gapN (List.replicate 41 110)).1 = List.replicate 41 110 := by rw [hg]; rfl
  rw [scan_blank]
  have := scanA_err (i := 0 + 1) (ln := 1) (r := List.replicate 41 110) (by rw [hd]; simp) (by rw [hd, ht]; decide)
  rw [this, hd, ht, hg]
  rfl

theorem extraR : Builder.Extra Tryd.prog Tryd.lays105_ren where
  sizeBuilder := by kernel_rfl
  liesBuilder := by kernel_rfl
  t5 := Tryd.underlying5
  a5 := Tryd.isAgg5
  z5 := Tryd.sizeOf5
  v5 := Tryd.zeroValue5
  infoByte := by kernel_rfl
  cellsByte := by kernel_rfl
  sizeByte := by kernel_rfl
  neB5 := by decide
theorem repeatL_one_byte (c : UInt8) (n : Nat) : Lib.repeatL [c] n = List.replicate n c := by
  induction n with
  | zero => rfl
  | succ n ih => rw [Lib.repeatL, ih, List.replicate_succ]; rfl
theorem rep_any (c : UInt8) (n : Nat) (k : Int) (hk : k = n) (hn : n ≤ 1000000) (w : World) :
    Calls Tryd.prog 25 #[.string ⟨#[c]⟩, .int .i64 k] w fun e w' => e = .returned (.string (mkS (List.replicate n c))) ∧ Below w.heap.size w w' := by
  have h := Any.strings_Repeat Tryd.lays105 extraR ⟨#[c]⟩ n w (by omega) (by rw [show (ByteArray.mk #[c]).size = 1 from rfl]; omega)
  rw [show (ByteArray.mk #[c]).data.toList = [c] from rfl, repeatL_one_byte] at h
  subst hk
  exact h

set_option maxHeartbeats 1000000 in
theorem scan_far (s : ByteArray) (w : World) (hs : 65536 < s.size) (hs2 : s.size ≤ 9223372036854775807) :
    Calls Tryd.prog 12 #[.string s] w fun e w' => e = .returned (.tuple #[.slice none 0 0, .int .i64 1, .int .i64 3]) ∧ Below w.heap.size w w' := by
  have h1 : decide (65536 < (s.size : Int)) = true := by simp; omega
  go_enter Tryd.func12, Tryd.ntmps12
  go_wp2_with fail
  go_returns
  exact ⟨rfl, Below.refl _ _⟩
end Go.Proofs.YtgjeljhodflbgaaDoor
