/- the plain law, the contract -/
import Derived.Test.YtpkheobgojeapaaGreatDoorK1
import Derived.Test.YtpkheobgojeapaaGreatDoorK2
import Derived.Test.YtpkheobgojeapaaGreatDoorK3
import Derived.Test.YtpkheobgojeapaaGreatDoorK4
import Derived.Test.YtpkheobgojeapaaGreatDoorK5
import Derived.Test.YtpkheobgojeapaaGreatDoorK6
import Derived.Test.YtpkheobgojeapaaGreatDoorK7
import Derived.Test.YtpkheobgojeapaaGreatDoorK8
import Derived.Test.YtpkheobgojeapaaGreatDoorK9
import Derived.Test.YtpkheobgojeapaaGreatDoorK10
import Derived.Lib.LaidTab
import Derived.OpenShut
import Derived.Deep.DeepHandedRow
namespace Go.Dn
open Go Go.Sk Go.Proofs
open X
set_option linter.unusedVariables false
set_option maxRecDepth 100000
theorem lim_all:(k:Nat) → k < 100 → bK 2000 (k:Int) = some true
 | 0,_=>l0
 | 1,_=>l1
 | 2,_=>l2
 | 3,_=>l3
 | 4,_=>l4
 | 5,_=>l5
 | 6,_=>l6
 | 7,_=>l7
 | 8,_=>l8
 | 9,_=>l9
 | 10,_=>l10
 | 11,_=>l11
 | 12,_=>l12
 | 13,_=>l13
 | 14,_=>l14
 | 15,_=>l15
 | 16,_=>l16
 | 17,_=>l17
 | 18,_=>l18
 | 19,_=>l19
 | 20,_=>l20
 | 21,_=>l21
 | 22,_=>l22
 | 23,_=>l23
 | 24,_=>l24
 | 25,_=>l25
 | 26,_=>l26
 | 27,_=>l27
 | 28,_=>l28
 | 29,_=>l29
 | 30,_=>l30
 | 31,_=>l31
 | 32,_=>l32
 | 33,_=>l33
 | 34,_=>l34
 | 35,_=>l35
 | 36,_=>l36
 | 37,_=>l37
 | 38,_=>l38
 | 39,_=>l39
 | 40,_=>l40
 | 41,_=>l41
 | 42,_=>l42
 | 43,_=>l43
 | 44,_=>l44
 | 45,_=>l45
 | 46,_=>l46
 | 47,_=>l47
 | 48,_=>l48
 | 49,_=>l49
 | 50,_=>l50
 | 51,_=>l51
 | 52,_=>l52
 | 53,_=>l53
 | 54,_=>l54
 | 55,_=>l55
 | 56,_=>l56
 | 57,_=>l57
 | 58,_=>l58
 | 59,_=>l59
 | 60,_=>l60
 | 61,_=>l61
 | 62,_=>l62
 | 63,_=>l63
 | 64,_=>l64
 | 65,_=>l65
 | 66,_=>l66
 | 67,_=>l67
 | 68,_=>l68
 | 69,_=>l69
 | 70,_=>l70
 | 71,_=>l71
 | 72,_=>l72
 | 73,_=>l73
 | 74,_=>l74
 | 75,_=>l75
 | 76,_=>l76
 | 77,_=>l77
 | 78,_=>l78
 | 79,_=>l79
 | 80,_=>l80
 | 81,_=>l81
 | 82,_=>l82
 | 83,_=>l83
 | 84,_=>l84
 | 85,_=>l85
 | 86,_=>l86
 | 87,_=>l87
 | 88,_=>l88
 | 89,_=>l89
 | 90,_=>l90
 | 91,_=>l91
 | 92,_=>l92
 | 93,_=>l93
 | 94,_=>l94
 | 95,_=>l95
 | 96,_=>l96
 | 97,_=>l97
 | 98,_=>l98
 | 99,_=>l99
 | n+100,h=>by omega
theorem Kf (n:Int) (h0:0 ≤ n) (h1:n ≤ 255):cF 2000 n = some true:=by
 rw [Kg 2000 n sane]
 have hw:IntKind.i64.wrap n = n:=Ei (Cx (by omega) (by omega))
 rw [hw]
 obtain ⟨m,rfl⟩:=Int.eq_ofNat_of_zero_le h0
 have:nD (m:Int) 100 = some (((m % 100:Nat):Int)):=by
  unfold nD
  rw [if_neg (by decide)]
  rfl
 rw [this]
 exact lim_all (m % 100) (Nat.mod_lt _ (by decide))
end Go.Dn
namespace Go.Proofs.YtpkheobgojeapaaGreatDoor
open Go Go.Sk Go.Dn
theorem inu8_of {x:Int} {h:PH} {v:Value} (hx:(BV.one (.int .u8 x)).rel h (fun _=>.bool false) v):0 ≤ x ∧ x ≤ 255:=by
 obtain ⟨_,h2⟩:=(show v = .int .u8 x ∧ _ from hx)
 simpa [kX,IntKind.min,IntKind.max,IntKind.signed,IntKind.bits] using h2
theorem EK {mx:Int} (x0:Int) (h:0 ≤ x0 ∧ x0 ≤ 255):aG Tryz.prog (Go.Dn.aw mx) 3 [] [.one (.int .u8 x0)] (Is [] (.b (.one (.bool true)))) :=
 (lI (mx:=mx) 2000).2.2 (x0,()) () true (Kf x0 h.1 h.2)
end Go.Proofs.YtpkheobgojeapaaGreatDoor
namespace Go.Proofs.YtpkheobgojeapaaGreatDoor.hU
open Go Go.Sk Go.Dn Go.ChangeShapes Go.WideShapes Go.ChangeAt Go.RowKit
theorem and2 {a b:Bool} (h1:a = true) (h2:b = true):(a && b) = true:=by rw [h1,h2]; rfl
set_option maxHeartbeats 40000000 in
theorem closed:joinedFacts Tryz.pinned.checked.prog 3 Tryz.f3 (OpenSpec.ofChange Rows.parserIsLimitedSpec).bare Rows.parserIsLimitedRow = true:=by
  unfold joinedFacts
  repeat' with_reducible refine and2 ?_ ?_
  all_goals as_aux_lemma=>kernel_rfl
end Go.Proofs.YtpkheobgojeapaaGreatDoor.hU
