/- the plain law at each value -/
import Derived.Test.YtpkheobgojeapaaGreatDoorR1
namespace Go.Dn
open Go Go.Sk Go.Proofs
open X
set_option linter.unusedVariables false
set_option maxRecDepth 100000
theorem l48:bK 2000 48 = some true:=by decide +kernel
theorem l49:bK 2000 49 = some true:=by decide +kernel
theorem l50:bK 2000 50 = some true:=by decide +kernel
theorem l51:bK 2000 51 = some true:=by decide +kernel
theorem l52:bK 2000 52 = some true:=by decide +kernel
theorem l53:bK 2000 53 = some true:=by decide +kernel
theorem l54:bK 2000 54 = some true:=by decide +kernel
theorem l55:bK 2000 55 = some true:=by decide +kernel
theorem l56:bK 2000 56 = some true:=by decide +kernel
theorem l57:bK 2000 57 = some true:=by decide +kernel
theorem l58:bK 2000 58 = some true:=by decide +kernel
end Go.Dn
