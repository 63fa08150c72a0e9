/- orders of one region -/
import Derived.Test.YthjfhibfcchjoaaGreatDoorH1
set_option linter.unusedSectionVars false
set_option linter.unusedSimpArgs false
set_option linter.unusedVariables false
open Go.IntKind (i8 i16 i32 i64 u8 u16 u32 u64)
namespace Go.Dn
open Go Go.Sk Go.Proofs
open X
set_option maxRecDepth 100000
variable {mx:Int}
theorem Md (F:Nat) (z0:PT DD [.b 1 85 (.st .reader),.b 102 55 (.st .aN),.b 103 55 (.st .aN)]):mg mx F z0 4 0:=by
 unfold mg
 kernel_rfl
end Go.Dn
