/- the plain law at each value -/
import Derived.Test.YtpkheobgojeapaaGreatDoorR1
namespace Go.Dn
open Go Go.Sk Go.Proofs
open X
set_option linter.unusedVariables false
set_option maxRecDepth 100000
theorem l91:bK 2000 91 = some true:=by decide +kernel
theorem l92:bK 2000 92 = some true:=by decide +kernel
theorem l93:bK 2000 93 = some true:=by decide +kernel
theorem l94:bK 2000 94 = some true:=by decide +kernel
theorem l95:bK 2000 95 = some true:=by decide +kernel
end Go.Dn
