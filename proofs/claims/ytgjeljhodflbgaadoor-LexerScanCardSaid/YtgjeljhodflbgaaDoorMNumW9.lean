/- The contract of numeral.fraction. -/
import Derived.Test.YtgjeljhodflbgaaDoorMNumB
import Derived.Test.YtgjeljhodflbgaaDoorMStr
namespace Go.Proofs.YtgjeljhodflbgaaDoor
open Go.RowKit
set_option linter.unusedVariables false

abbrev IntSays (p : ByteArray) (a : Int) (x : Bool) : Prop := ∀ w, Calls Tryd.prog 97 #[.string p, .int .i64 10] w fun e w' => e = .returned (.tuple #[.int .i64 a, .bool x]) ∧ w = w'
abbrev MakeSays (a b P Q E : Int) : Prop := ∀ w, Calls Tryd.prog 98 #[.int .i64 a, .int .i64 b] w fun e w' => e = .returned (.tuple #[.agg #[.int .i64 P, .int .i64 Q], .int .i64 E]) ∧ Below w.heap.size w w'

end Go.Proofs.YtgjeljhodflbgaaDoor
