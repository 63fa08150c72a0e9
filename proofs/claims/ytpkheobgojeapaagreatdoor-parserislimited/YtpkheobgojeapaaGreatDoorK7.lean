/- the plain law at each value -/
import Derived.Test.YtpkheobgojeapaaGreatDoorR1
namespace Go.Dn
open Go Go.Sk Go.Proofs
open X
set_option linter.unusedVariables false
set_option maxRecDepth 100000
theorem l81:bK 2000 81 = some true:=by decide +kernel
theorem l82:bK 2000 82 = some true:=by decide +kernel
theorem l83:bK 2000 83 = some true:=by decide +kernel
theorem l84:bK 2000 84 = some true:=by decide +kernel
theorem l85:bK 2000 85 = some true:=by decide +kernel
end Go.Dn
