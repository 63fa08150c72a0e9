/- Printed by a program of the prover's (s41.py): the walks of chapter 41. -/
import Derived.Test.YtipepglcceogiaaRows
import Derived.Test.YtipepglcceogiaaPlain
namespace Go.Proofs.Ytipepglcceogiaa
open Go.Sk
set_option maxHeartbeats 1000000
set_option maxRecDepth 4000
set_option linter.unusedSimpArgs false
set_option linter.unusedVariables false
theorem goes64 : Goes Try.prog 64 := ⟨Try.call64⟩
theorem tyFld59_0 : TyField Try.prog 59 0 0 3 := ⟨⟨_, _, Try.t3, Try.underlying59, rfl, rfl, rfl, by kernel_rfl, by decide⟩⟩
theorem tyOne3 : TyOne Try.prog 3 := ⟨⟨_, Try.underlying3, rfl⟩, ⟨Try.t3, by kernel_rfl, by kernel_rfl⟩⟩
theorem goes44 : Goes Try.prog 44 := ⟨Try.call44⟩
theorem tyFld59_1 : TyField Try.prog 59 1 1 3 := ⟨⟨_, _, Try.t3, Try.underlying59, rfl, rfl, rfl, by kernel_rfl, by decide⟩⟩
theorem tyFld59_2 : TyField Try.prog 59 2 2 3 := ⟨⟨_, _, Try.t3, Try.underlying59, rfl, rfl, rfl, by kernel_rfl, by decide⟩⟩
theorem tyFld59_3 : TyField Try.prog 59 3 3 3 := ⟨⟨_, _, Try.t3, Try.underlying59, rfl, rfl, rfl, by kernel_rfl, by decide⟩⟩
theorem tyFld59_4 : TyField Try.prog 59 4 4 9 := ⟨⟨_, _, Try.t9, Try.underlying59, rfl, rfl, rfl, by kernel_rfl, by decide⟩⟩
theorem tyOne9 : TyOne Try.prog 9 := ⟨⟨_, Try.underlying9, rfl⟩, ⟨Try.t9, by kernel_rfl, by kernel_rfl⟩⟩
theorem goes47 : Goes Try.prog 47 := ⟨Try.call47⟩
theorem goes48 : Goes Try.prog 48 := ⟨Try.call48⟩
theorem goes51 : Goes Try.prog 51 := ⟨Try.call51⟩
theorem mixed : Try.prog.follows .mixedOrders = true := by kernel_rfl
theorem goes50 : Goes Try.prog 50 := ⟨Try.call50⟩
theorem und22 : Try.prog.underlying 22 = some (.slice 3) := Try.underlying22
theorem tySl22 : TySl Try.prog 22 3 1 8 [.i 0] := ⟨Try.underlying22, ⟨Try.t3, _, by kernel_rfl, rfl, rfl, rfl, rfl, by decide, rfl⟩⟩
theorem undi84 : Try.prog.underlying 84 = some (.int .u64) := Try.underlying84
theorem undi3 : Try.prog.underlying 3 = some (.int .i64) := Try.underlying3
theorem goes55 : Goes Try.prog 55 := ⟨Try.call55⟩
theorem goes56 : Goes Try.prog 56 := ⟨Try.call56⟩
theorem goes40 : Goes Try.prog 40 := ⟨Try.call40⟩
theorem und42 : Try.prog.underlying 42 = some (.slice 59) := Try.underlying42
theorem tySl42 : TySl Try.prog 42 59 5 48 [.i 0, .i 0, .i 0, .i 0, .str []] := ⟨Try.underlying42, ⟨Try.t59, _, by kernel_rfl, rfl, rfl, rfl, rfl, by decide, rfl⟩⟩
theorem tyAgg59 : TyAgg Try.prog 59 5 := ⟨⟨_, Try.underlying59, rfl⟩, ⟨Try.t59, by kernel_rfl, by kernel_rfl⟩⟩
theorem goes58 : Goes Try.prog 58 := ⟨Try.call58⟩
theorem goes57 : Goes Try.prog 57 := ⟨Try.call57⟩
theorem tyZero59 : TyZero Try.prog 59 [.i 0, .i 0, .i 0, .i 0, .str []] := ⟨⟨Try.t59, _, by kernel_rfl, rfl, rfl⟩⟩
theorem goes45 : Goes Try.prog 45 := ⟨Try.call45⟩
theorem tyBuild59 : TyBuild Try.prog 59 [(0, 1), (1, 1), (2, 1), (3, 1), (4, 1)] [.i 0, .i 0, .i 0, .i 0, .str []] := ⟨⟨Try.t59, _, _, by kernel_rfl, rfl, rfl, Try.underlying59, by kernel_rfl⟩⟩
theorem goes52 : Goes Try.prog 52 := ⟨Try.call52⟩
theorem goes59 : Goes Try.prog 59 := ⟨Try.call59⟩
theorem goes46 : Goes Try.prog 46 := ⟨Try.call46⟩
theorem goes30 : Goes Try.prog 30 := ⟨Try.call30⟩
theorem tyBuild45 : TyBuild Try.prog 45 [(0, 1), (1, 1), (2, 1), (3, 1), (4, 1), (5, 1)] [.i 0, .i 0, .i 0, .i 0, .i 0, .str []] := ⟨⟨Try.t45, _, _, by kernel_rfl, rfl, rfl, Try.underlying45, by kernel_rfl⟩⟩
theorem tyZero45 : TyZero Try.prog 45 [.i 0, .i 0, .i 0, .i 0, .i 0, .str []] := ⟨⟨Try.t45, _, by kernel_rfl, rfl, rfl⟩⟩
theorem tyAgg45 : TyAgg Try.prog 45 6 := ⟨⟨_, Try.underlying45, rfl⟩, ⟨Try.t45, by kernel_rfl, by kernel_rfl⟩⟩
theorem tyFld45_2 : TyField Try.prog 45 2 2 3 := ⟨⟨_, _, Try.t3, Try.underlying45, rfl, rfl, rfl, by kernel_rfl, by decide⟩⟩
theorem tyFld45_5 : TyField Try.prog 45 5 5 9 := ⟨⟨_, _, Try.t9, Try.underlying45, rfl, rfl, rfl, by kernel_rfl, by decide⟩⟩
theorem tySl38 : TySl Try.prog 38 45 6 56 [.i 0, .i 0, .i 0, .i 0, .i 0, .str []] := ⟨Try.underlying38, ⟨Try.t45, _, by kernel_rfl, rfl, rfl, rfl, rfl, by decide, rfl⟩⟩
theorem tyBuild81 : TyBuild Try.prog 81 [(0, 1), (1, 1)] [.i 0, .raw .nilFunc] := ⟨⟨Try.t81, _, _, by kernel_rfl, rfl, rfl, Try.underlying81, by kernel_rfl⟩⟩
theorem tySl77 : TySl Try.prog 77 81 2 16 [.i 0, .raw .nilFunc] := ⟨Try.underlying77, ⟨Try.t81, _, by kernel_rfl, rfl, rfl, rfl, rfl, by decide, rfl⟩⟩
theorem tyFld45_4 : TyField Try.prog 45 4 4 3 := ⟨⟨_, _, Try.t3, Try.underlying45, rfl, rfl, rfl, by kernel_rfl, by decide⟩⟩
theorem tyFld45_3 : TyField Try.prog 45 3 3 3 := ⟨⟨_, _, Try.t3, Try.underlying45, rfl, rfl, rfl, by kernel_rfl, by decide⟩⟩
theorem tyFld45_0 : TyField Try.prog 45 0 0 3 := ⟨⟨_, _, Try.t3, Try.underlying45, rfl, rfl, rfl, by kernel_rfl, by decide⟩⟩
theorem tyFld45_1 : TyField Try.prog 45 1 1 3 := ⟨⟨_, _, Try.t3, Try.underlying45, rfl, rfl, rfl, by kernel_rfl, by decide⟩⟩
theorem goes53 : Goes Try.prog 53 := ⟨Try.call53⟩
theorem und77 : Try.prog.underlying 77 = some (.slice 81) := Try.underlying77
theorem tyAgg81 : TyAgg Try.prog 81 2 := ⟨⟨_, Try.underlying81, rfl⟩, ⟨Try.t81, by kernel_rfl, by kernel_rfl⟩⟩
theorem tyZero81 : TyZero Try.prog 81 [.i 0, .raw .nilFunc] := ⟨⟨Try.t81, _, by kernel_rfl, rfl, rfl⟩⟩
theorem tyFld81_0 : TyField Try.prog 81 0 0 3 := ⟨⟨_, _, Try.t3, Try.underlying81, rfl, rfl, rfl, by kernel_rfl, by decide⟩⟩
theorem tyFld81_1 : TyField Try.prog 81 1 1 79 := ⟨⟨_, _, Try.t79, Try.underlying81, rfl, rfl, rfl, by kernel_rfl, by decide⟩⟩
theorem tyOne79 : TyOne Try.prog 79 := ⟨⟨_, Try.underlying79, rfl⟩, ⟨Try.t79, by kernel_rfl, by kernel_rfl⟩⟩
theorem goes60 : Goes Try.prog 60 := ⟨Try.call60⟩
theorem eqAgg59 (x y : Holding) : EqAgg Try.prog 59 (eHolding x) (eHolding y) (decide (x = y)) :=
  EqAgg.of (rs := [decide (x.Body = y.Body), decide (x.Epoch = y.Epoch), decide (x.Phase = y.Phase), decide (x.Peer = y.Peer), decide (x.Data = y.Data)]) Try.eqGuardType59 Try.stoodInHeld59 Try.underlying59 (⟨by decide, ⟨_, _, rfl, rfl, .int tyOne3 Try.underlying3⟩, ⟨by decide, ⟨_, _, rfl, rfl, .int tyOne3 Try.underlying3⟩, ⟨by decide, ⟨_, _, rfl, rfl, .int tyOne3 Try.underlying3⟩, ⟨by decide, ⟨_, _, rfl, rfl, .int tyOne3 Try.underlying3⟩, ⟨by decide, ⟨_, _, rfl, rfl, .str tyOne9 Try.underlying9⟩, trivial⟩⟩⟩⟩⟩)
    (by cases x; cases y; rw [Bool.eq_iff_iff]; simp [Holding.mk.injEq])
theorem goes61 : Goes Try.prog 61 := ⟨Try.call61⟩
theorem goes62 : Goes Try.prog 62 := ⟨Try.call62⟩
theorem goes63 : Goes Try.prog 63 := ⟨Try.call63⟩
theorem und37 : Try.prog.underlying 37 = some (.slice 42) := Try.underlying37
theorem tySl37 : TySl Try.prog 37 42 1 24 [.nil] := ⟨Try.underlying37, ⟨Try.t42, _, by kernel_rfl, rfl, rfl, rfl, rfl, by decide, rfl⟩⟩
theorem tyOne42 : TyOne Try.prog 42 := ⟨⟨_, Try.underlying42, rfl⟩, ⟨Try.t42, by kernel_rfl, by kernel_rfl⟩⟩
theorem goes21 : Goes Try.prog 21 := ⟨Try.call21⟩
theorem goes23 : Goes Try.prog 23 := ⟨Try.call23⟩
theorem goes15 : Goes Try.prog 15 := ⟨Try.call15⟩
theorem und38 : Try.prog.underlying 38 = some (.slice 45) := Try.underlying38
theorem eqAgg45 (x y : Parcel) : EqAgg Try.prog 45 (eParcel x) (eParcel y) (decide (x = y)) :=
  EqAgg.of (rs := [decide (x.From = y.From), decide (x.To = y.To), decide (x.Kind = y.Kind), decide (x.Body = y.Body), decide (x.Epoch = y.Epoch), decide (x.Data = y.Data)]) Try.eqGuardType45 Try.stoodInHeld45 Try.underlying45 (⟨by decide, ⟨_, _, rfl, rfl, .int tyOne3 Try.underlying3⟩, ⟨by decide, ⟨_, _, rfl, rfl, .int tyOne3 Try.underlying3⟩, ⟨by decide, ⟨_, _, rfl, rfl, .int tyOne3 Try.underlying3⟩, ⟨by decide, ⟨_, _, rfl, rfl, .int tyOne3 Try.underlying3⟩, ⟨by decide, ⟨_, _, rfl, rfl, .int tyOne3 Try.underlying3⟩, ⟨by decide, ⟨_, _, rfl, rfl, .str tyOne9 Try.underlying9⟩, trivial⟩⟩⟩⟩⟩⟩)
    (by cases x; cases y; rw [Bool.eq_iff_iff]; simp [Parcel.mk.injEq])
theorem goes32 : Goes Try.prog 32 := ⟨Try.call32⟩
theorem goes10 : Goes Try.prog 10 := ⟨Try.call10⟩
theorem goes39 : Goes Try.prog 39 := ⟨Try.call39⟩
theorem goes37 : Goes Try.prog 37 := ⟨Try.call37⟩
theorem goes7 : Goes Try.prog 7 := ⟨Try.call7⟩
theorem goes8 : Goes Try.prog 8 := ⟨Try.call8⟩
theorem goes9 : Goes Try.prog 9 := ⟨Try.call9⟩
theorem goes11 : Goes Try.prog 11 := ⟨Try.call11⟩
end Go.Proofs.Ytipepglcceogiaa
