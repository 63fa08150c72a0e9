/- the plain law at each value -/
import Derived.Test.YtpkheobgojeapaaGreatDoorR1
namespace Go.Dn
open Go Go.Sk Go.Proofs
open X
set_option linter.unusedVariables false
set_option maxRecDepth 100000
theorem l96:bK 2000 96 = some true:=by decide +kernel
theorem l97:bK 2000 97 = some true:=by decide +kernel
theorem l98:bK 2000 98 = some true:=by decide +kernel
theorem l99:bK 2000 99 = some true:=by decide +kernel
end Go.Dn
