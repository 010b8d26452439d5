/- The functions of the reference: what each call returns. -/
import Derived.Test.YtplphejillkdeaaGreatDoorMRatR1
import Derived.Test.YtplphejillkdeaaGreatDoorMPlainA
import Derived.Test.YtplphejillkdeaaGreatDoorMRatW4
namespace Go.Proofs.YtplphejillkdeaaGreatDoor
open Go.RowKit
set_option linter.unusedVariables false

end Go.Proofs.YtplphejillkdeaaGreatDoor
