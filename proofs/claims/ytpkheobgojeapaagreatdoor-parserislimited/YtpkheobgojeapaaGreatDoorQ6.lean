/- orders of one region -/
import Derived.Test.YtpkheobgojeapaaGreatDoorH1
namespace Go.Dn
open Go Go.Sk Go.Proofs
open X
set_option linter.unusedVariables false
set_option maxRecDepth 100000
variable {mx:Int}
theorem Ko (F:Nat) (z0:PT DD [.b 1 64 (.st .reader),.b 102 53 (.st .aM),.b 103 53 (.st .aM)]):lK mx F z0 8 0:=by
  unfold lK
  kernel_rfl
theorem Kn (F:Nat) (z0:PT DD [.b 1 64 (.st .reader),.b 102 53 (.st .aM),.b 103 53 (.st .aM)]):lK mx F z0 8 4:=by
  unfold lK
  kernel_rfl
end Go.Dn
