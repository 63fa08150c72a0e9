/- the plain law at each value -/
import Derived.Test.YtpkheobgojeapaaGreatDoorR1
namespace Go.Dn
open Go Go.Sk Go.Proofs
open X
set_option linter.unusedVariables false
set_option maxRecDepth 100000
theorem l67:bK 2000 67 = some true:=by decide +kernel
theorem l68:bK 2000 68 = some true:=by decide +kernel
theorem l69:bK 2000 69 = some true:=by decide +kernel
theorem l70:bK 2000 70 = some true:=by decide +kernel
theorem l71:bK 2000 71 = some true:=by decide +kernel
theorem l72:bK 2000 72 = some true:=by decide +kernel
theorem l73:bK 2000 73 = some true:=by decide +kernel
end Go.Dn
