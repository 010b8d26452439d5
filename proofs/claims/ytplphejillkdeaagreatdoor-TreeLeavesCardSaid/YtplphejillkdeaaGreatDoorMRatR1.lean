/- The inner functions of the reference: what each call returns. -/
import Derived.Test.YtplphejillkdeaaGreatDoorMRat
namespace Go.Proofs.YtplphejillkdeaaGreatDoor
open Go.RowKit
set_option linter.unusedVariables false

end Go.Proofs.YtplphejillkdeaaGreatDoor
