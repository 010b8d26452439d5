/- The reference's unsigned, Parse and Scan: the walks. -/
import Derived.Test.YtgjeljhodflbgaaDoorMRefN7
namespace Go.Proofs.YtgjeljhodflbgaaDoor
open Go.RowKit
set_option linter.unusedVariables false

abbrev RNumr (s : ByteArray) (i : Int) (r P Q E : Int) : Prop := ∀ w, Calls Tryd.prog 67 #[.string s, .int .i64 i] w fun e w' => e = .returned (.tuple #[.int .i64 r, .agg #[.int .i64 P, .int .i64 Q], .int .i64 E]) ∧ Below w.heap.size w w'
end Go.Proofs.YtgjeljhodflbgaaDoor
