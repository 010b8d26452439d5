/- Powers: what each call returns. -/
import Derived.Test.YtpahemohpaaeoaaDoorRatR3
import Derived.Test.YtpahemohpaaeoaaDoorBase2
namespace Go.Proofs.YtpahemohpaaeoaaDoor
open Go.RowKit
set_option linter.unusedVariables false

end Go.Proofs.YtpahemohpaaeoaaDoor
