/- the plain law at each value -/
import Derived.Test.YtpkheobgojeapaaGreatDoorR1
namespace Go.Dn
open Go Go.Sk Go.Proofs
open X
set_option linter.unusedVariables false
set_option maxRecDepth 100000
theorem l74:bK 2000 74 = some true:=by decide +kernel
theorem l75:bK 2000 75 = some true:=by decide +kernel
theorem l76:bK 2000 76 = some true:=by decide +kernel
theorem l77:bK 2000 77 = some true:=by decide +kernel
theorem l78:bK 2000 78 = some true:=by decide +kernel
theorem l79:bK 2000 79 = some true:=by decide +kernel
theorem l80:bK 2000 80 = some true:=by decide +kernel
end Go.Dn
