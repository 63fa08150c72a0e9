/- the plain law at each value -/
import Derived.Test.YtpkheobgojeapaaGreatDoorR1
namespace Go.Dn
open Go Go.Sk Go.Proofs
open X
set_option linter.unusedVariables false
set_option maxRecDepth 100000
theorem l86:bK 2000 86 = some true:=by decide +kernel
theorem l87:bK 2000 87 = some true:=by decide +kernel
theorem l88:bK 2000 88 = some true:=by decide +kernel
theorem l89:bK 2000 89 = some true:=by decide +kernel
theorem l90:bK 2000 90 = some true:=by decide +kernel
end Go.Dn
