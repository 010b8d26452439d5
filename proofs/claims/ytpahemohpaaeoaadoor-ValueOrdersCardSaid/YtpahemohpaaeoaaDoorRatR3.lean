/- The functions of the reference: what each call returns. -/
import Derived.Test.YtpahemohpaaeoaaDoorRatR2
namespace Go.Proofs.YtpahemohpaaeoaaDoor
open Go.RowKit
set_option linter.unusedVariables false

/-- The error of two operands of a division. -/
def divE (a b c d : Int) : Int := if bothB a b c d then (if c = 0 then 7 else 0) else 2

end Go.Proofs.YtpahemohpaaeoaaDoor
