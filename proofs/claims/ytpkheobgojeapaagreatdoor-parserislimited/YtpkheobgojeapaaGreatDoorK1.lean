/- the plain law at each value -/
import Derived.Test.YtpkheobgojeapaaGreatDoorR1
namespace Go.Dn
open Go Go.Sk Go.Proofs
open X
set_option linter.unusedVariables false
set_option maxRecDepth 100000
theorem l0:bK 2000 0 = some true:=by decide +kernel
theorem l1:bK 2000 1 = some true:=by decide +kernel
theorem l2:bK 2000 2 = some true:=by decide +kernel
theorem l3:bK 2000 3 = some true:=by decide +kernel
theorem l4:bK 2000 4 = some true:=by decide +kernel
theorem l5:bK 2000 5 = some true:=by decide +kernel
theorem l6:bK 2000 6 = some true:=by decide +kernel
theorem l7:bK 2000 7 = some true:=by decide +kernel
theorem l8:bK 2000 8 = some true:=by decide +kernel
theorem l9:bK 2000 9 = some true:=by decide +kernel
theorem l10:bK 2000 10 = some true:=by decide +kernel
theorem l11:bK 2000 11 = some true:=by decide +kernel
theorem l12:bK 2000 12 = some true:=by decide +kernel
theorem l13:bK 2000 13 = some true:=by decide +kernel
theorem l14:bK 2000 14 = some true:=by decide +kernel
theorem l15:bK 2000 15 = some true:=by decide +kernel
theorem l16:bK 2000 16 = some true:=by decide +kernel
theorem l17:bK 2000 17 = some true:=by decide +kernel
theorem l18:bK 2000 18 = some true:=by decide +kernel
theorem l19:bK 2000 19 = some true:=by decide +kernel
theorem l20:bK 2000 20 = some true:=by decide +kernel
theorem l21:bK 2000 21 = some true:=by decide +kernel
theorem l22:bK 2000 22 = some true:=by decide +kernel
theorem l23:bK 2000 23 = some true:=by decide +kernel
theorem l24:bK 2000 24 = some true:=by decide +kernel
theorem l25:bK 2000 25 = some true:=by decide +kernel
theorem l26:bK 2000 26 = some true:=by decide +kernel
theorem l27:bK 2000 27 = some true:=by decide +kernel
theorem l28:bK 2000 28 = some true:=by decide +kernel
theorem l29:bK 2000 29 = some true:=by decide +kernel
theorem l30:bK 2000 30 = some true:=by decide +kernel
theorem l31:bK 2000 31 = some true:=by decide +kernel
theorem l32:bK 2000 32 = some true:=by decide +kernel
end Go.Dn
