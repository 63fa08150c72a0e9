/- orders of one region -/
import Derived.Test.YtpkheobgojeapaaGreatDoorH1
namespace Go.Dn
open Go Go.Sk Go.Proofs
open X
set_option linter.unusedVariables false
set_option maxRecDepth 100000
variable {mx:Int}
theorem Ks (F:Nat) (z0:PT DD [.b 1 64 (.st .reader),.b 102 53 (.st .aM),.b 103 53 (.st .aM)]):lK mx F z0 0 8:=by
  unfold lK
  kernel_rfl
end Go.Dn
