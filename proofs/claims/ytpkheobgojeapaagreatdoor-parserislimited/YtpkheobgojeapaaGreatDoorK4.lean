/- the plain law at each value -/
import Derived.Test.YtpkheobgojeapaaGreatDoorR1
namespace Go.Dn
open Go Go.Sk Go.Proofs
open X
set_option linter.unusedVariables false
set_option maxRecDepth 100000
theorem l59:bK 2000 59 = some true:=by decide +kernel
theorem l60:bK 2000 60 = some true:=by decide +kernel
theorem l61:bK 2000 61 = some true:=by decide +kernel
theorem l62:bK 2000 62 = some true:=by decide +kernel
theorem l63:bK 2000 63 = some true:=by decide +kernel
theorem l64:bK 2000 64 = some true:=by decide +kernel
theorem l65:bK 2000 65 = some true:=by decide +kernel
theorem l66:bK 2000 66 = some true:=by decide +kernel
end Go.Dn
