/- The contract of numeral.decimal. -/
import Derived.Test.YtpahemohpaaeoaaDoorOwn
import Derived.Test.YtpahemohpaaeoaaDoorNumW13
import Derived.Test.YtpahemohpaaeoaaDoorDecPlain
namespace Go.Proofs.YtpahemohpaaeoaaDoor
open Go.RowKit
set_option linter.unusedVariables false

def byteV (b : UInt8) : Value := .int .u8 b.toNat
theorem byteV_map (l m : List UInt8) : (l ++ m).map byteV = l.map byteV ++ m.map byteV := by simp
theorem uint8_info : (Tryd.prog.info? 5).map (fun i => (i.zero, i.size, i.bytes)) = some (some (.int .u8 0), 1, 1) := by kernel_rfl

end Go.Proofs.YtpahemohpaaeoaaDoor
