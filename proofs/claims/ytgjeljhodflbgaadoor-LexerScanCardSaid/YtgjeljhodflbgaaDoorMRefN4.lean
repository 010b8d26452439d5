/- The reference's Trim, slash, digits: what each call returns. -/
import Derived.Test.YtgjeljhodflbgaaDoorMRefN2
import Derived.Test.YtgjeljhodflbgaaDoorMNumPlain7
import Derived.Test.YtgjeljhodflbgaaDoorMNumC
namespace Go.Proofs.YtgjeljhodflbgaaDoor
open Go.RowKit
set_option linter.unusedVariables false

def blankB2 (c : Nat) : Bool := c == 32 || (c == 9 || (c == 10 || c == 13))
theorem blank_eq (c : UInt8) : blankL.contains c = blankB2 c.toNat := by
  have : ∀ c : Fin 256, blankL.contains (UInt8.ofNat c.val) = blankB2 c.val := by decide +kernel
  have := this ⟨c.toNat, UInt8.toNat_lt c⟩
  simpa using this

theorem data_get (s : ByteArray) (k : Nat) (h : k < s.size) : s.data.toList[k]'(by simpa using h) = s[k] := rfl

abbrev RRun0 (s : ByteArray) (r : Nat) : Prop := ∀ w, Calls Tryd.prog 88 #[.string s, .int .i64 0, .int .i64 10] w fun e w' => e = .returned (.int .i64 r) ∧ w = w'
theorem run_eq (s : ByteArray) (hs : s.size ≤ 9223372036854775807) : RRun0 s (runL s.data.toList 10 0) := fun w => rrun_any s 0 10 (Nat.zero_le _) hs (by omega) w
/-- Whether a text is digits alone. -/
def digsB (l : List UInt8) : Bool := decide (l ≠ [] ∧ runL l 10 0 = l.length)
end Go.Proofs.YtgjeljhodflbgaaDoor
