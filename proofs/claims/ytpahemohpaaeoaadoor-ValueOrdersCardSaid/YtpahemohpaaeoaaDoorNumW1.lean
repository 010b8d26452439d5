/- Contracts of the numeral package's small functions. -/
import Derived.Test.YtpahemohpaaeoaaDoorRatR2
import Derived.Test.YtpahemohpaaeoaaDoorNumPlain
namespace Go.Proofs.YtpahemohpaaeoaaDoor
open Go.RowKit
set_option linter.unusedVariables false

set_option maxHeartbeats 1000000 in
theorem digit_any (c : Nat) (hc : c < 256) (w : World) :
    Calls Tryd.prog 80 #[.int .u8 c] w fun e w' => e = .returned (.int .i64 (pdN c)) ∧ w = w' := by
  go_enter Tryd.func80, Tryd.ntmps80
  go_wp2
  all_goals (go_ret; refine ⟨ret_int ?_, rfl⟩; (try dsimp only); unfold pdN; (repeat' split) <;> omega)
end Go.Proofs.YtpahemohpaaeoaaDoor
