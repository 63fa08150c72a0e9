/- the plain law at each value -/
import Derived.Test.YtpkheobgojeapaaGreatDoorR1
namespace Go.Dn
open Go Go.Sk Go.Proofs
open X
set_option linter.unusedVariables false
set_option maxRecDepth 100000
theorem l33:bK 2000 33 = some true:=by decide +kernel
theorem l34:bK 2000 34 = some true:=by decide +kernel
theorem l35:bK 2000 35 = some true:=by decide +kernel
theorem l36:bK 2000 36 = some true:=by decide +kernel
theorem l37:bK 2000 37 = some true:=by decide +kernel
theorem l38:bK 2000 38 = some true:=by decide +kernel
theorem l39:bK 2000 39 = some true:=by decide +kernel
theorem l40:bK 2000 40 = some true:=by decide +kernel
theorem l41:bK 2000 41 = some true:=by decide +kernel
theorem l42:bK 2000 42 = some true:=by decide +kernel
theorem l43:bK 2000 43 = some true:=by decide +kernel
theorem l44:bK 2000 44 = some true:=by decide +kernel
theorem l45:bK 2000 45 = some true:=by decide +kernel
theorem l46:bK 2000 46 = some true:=by decide +kernel
theorem l47:bK 2000 47 = some true:=by decide +kernel
end Go.Dn
