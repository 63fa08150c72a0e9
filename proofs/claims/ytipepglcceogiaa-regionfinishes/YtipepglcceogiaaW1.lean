/- printed walks -/
import Derived.Test.YtipepglcceogiaaTypes
namespace Go.Proofs.Ytipepglcceogiaa
open Go.Sk
set_option maxHeartbeats 1000000
set_option maxRecDepth 4000
set_option linter.unusedSimpArgs false
set_option linter.unusedVariables false
theorem tyFld59_0 : TyField Try.prog 59 0 0 3 := ⟨⟨_, _, Try.t3, Try.underlying59, rfl, rfl, rfl, by kernel_rfl, by decide⟩⟩
theorem tyOne3 : TyOne Try.prog 3 := ⟨⟨_, Try.underlying3, rfl⟩, ⟨Try.t3, by kernel_rfl, by kernel_rfl⟩⟩
theorem und42 : Try.prog.underlying 42 = some (.slice 59) := Try.underlying42
theorem tySl42 : TySl Try.prog 42 59 5 48 [.i 0, .i 0, .i 0, .i 0, .str []] := ⟨Try.underlying42, ⟨Try.t59, _, by kernel_rfl, rfl, rfl, rfl, rfl, by decide, rfl⟩⟩
theorem tyAgg59 : TyAgg Try.prog 59 5 := ⟨⟨_, Try.underlying59, rfl⟩, ⟨Try.t59, by kernel_rfl, by kernel_rfl⟩⟩
theorem tyZero59 : TyZero Try.prog 59 [.i 0, .i 0, .i 0, .i 0, .str []] := ⟨⟨Try.t59, _, by kernel_rfl, rfl, rfl⟩⟩
theorem tyFld59_4 : TyField Try.prog 59 4 4 9 := ⟨⟨_, _, Try.t9, Try.underlying59, rfl, rfl, rfl, by kernel_rfl, by decide⟩⟩
theorem tyOne9 : TyOne Try.prog 9 := ⟨⟨_, Try.underlying9, rfl⟩, ⟨Try.t9, by kernel_rfl, by kernel_rfl⟩⟩
theorem und9 : Try.prog.underlying 9 = some .string := Try.underlying9
theorem undi3 : Try.prog.underlying 3 = some (.int .i64) := Try.underlying3
theorem undi84 : Try.prog.underlying 84 = some (.int .u64) := Try.underlying84
theorem goes58 : Goes Try.prog 58 := ⟨Try.call58⟩
theorem goes57 : Goes Try.prog 57 := ⟨Try.call57⟩
theorem ext65 : Ext Try.prog 65 (Go.Extern.SlicesOverlaps.overlaps #[42, 42] #[4]) := ⟨⟨(Try.prog.funcs[65]?).getD default, by kernel_rfl, by kernel_rfl, by kernel_rfl, by kernel_rfl, by kernel_rfl⟩⟩
theorem mixed : Try.prog.follows .mixedOrders = true := by kernel_rfl
theorem goes52 : Goes Try.prog 52 := ⟨Try.call52⟩
theorem goes45 : Goes Try.prog 45 := ⟨Try.call45⟩
theorem goes59 : Goes Try.prog 59 := ⟨Try.call59⟩
theorem goes44 : Goes Try.prog 44 := ⟨Try.call44⟩
theorem tyBuild59 : TyBuild Try.prog 59 [(0, 1), (1, 1), (2, 1), (3, 1), (4, 1)] [.i 0, .i 0, .i 0, .i 0, .str []] := ⟨⟨Try.t59, _, _, by kernel_rfl, rfl, rfl, Try.underlying59, by kernel_rfl⟩⟩
theorem goes46 : Goes Try.prog 46 := ⟨Try.call46⟩
theorem goes30 : Goes Try.prog 30 := ⟨Try.call30⟩
theorem goes47 : Goes Try.prog 47 := ⟨Try.call47⟩
theorem tyFld59_2 : TyField Try.prog 59 2 2 3 := ⟨⟨_, _, Try.t3, Try.underlying59, rfl, rfl, rfl, by kernel_rfl, by decide⟩⟩
theorem tyFld59_1 : TyField Try.prog 59 1 1 3 := ⟨⟨_, _, Try.t3, Try.underlying59, rfl, rfl, rfl, by kernel_rfl, by decide⟩⟩
theorem tyFld59_3 : TyField Try.prog 59 3 3 3 := ⟨⟨_, _, Try.t3, Try.underlying59, rfl, rfl, rfl, by kernel_rfl, by decide⟩⟩
theorem tyBuild45 : TyBuild Try.prog 45 [(0, 1), (1, 1), (2, 1), (3, 1), (4, 1), (5, 1)] [.i 0, .i 0, .i 0, .i 0, .i 0, .str []] := ⟨⟨Try.t45, _, _, by kernel_rfl, rfl, rfl, Try.underlying45, by kernel_rfl⟩⟩
theorem tyZero45 : TyZero Try.prog 45 [.i 0, .i 0, .i 0, .i 0, .i 0, .str []] := ⟨⟨Try.t45, _, by kernel_rfl, rfl, rfl⟩⟩
theorem tyAgg45 : TyAgg Try.prog 45 6 := ⟨⟨_, Try.underlying45, rfl⟩, ⟨Try.t45, by kernel_rfl, by kernel_rfl⟩⟩
theorem tyFld45_2 : TyField Try.prog 45 2 2 3 := ⟨⟨_, _, Try.t3, Try.underlying45, rfl, rfl, rfl, by kernel_rfl, by decide⟩⟩
theorem tyFld45_5 : TyField Try.prog 45 5 5 9 := ⟨⟨_, _, Try.t9, Try.underlying45, rfl, rfl, rfl, by kernel_rfl, by decide⟩⟩
theorem tySl38 : TySl Try.prog 38 45 6 56 [.i 0, .i 0, .i 0, .i 0, .i 0, .str []] := ⟨Try.underlying38, ⟨Try.t45, _, by kernel_rfl, rfl, rfl, rfl, rfl, by decide, rfl⟩⟩
theorem tyFld45_4 : TyField Try.prog 45 4 4 3 := ⟨⟨_, _, Try.t3, Try.underlying45, rfl, rfl, rfl, by kernel_rfl, by decide⟩⟩
theorem tyFld45_3 : TyField Try.prog 45 3 3 3 := ⟨⟨_, _, Try.t3, Try.underlying45, rfl, rfl, rfl, by kernel_rfl, by decide⟩⟩
theorem tyFld45_0 : TyField Try.prog 45 0 0 3 := ⟨⟨_, _, Try.t3, Try.underlying45, rfl, rfl, rfl, by kernel_rfl, by decide⟩⟩
theorem goes60 : Goes Try.prog 60 := ⟨Try.call60⟩
theorem goes61 : Goes Try.prog 61 := ⟨Try.call61⟩
theorem goes62 : Goes Try.prog 62 := ⟨Try.call62⟩
theorem goes63 : Goes Try.prog 63 := ⟨Try.call63⟩
theorem tyBuild81 : TyBuild Try.prog 81 [(0, 1), (1, 1)] [.i 0, .raw .nilFunc] := ⟨⟨Try.t81, _, _, by kernel_rfl, rfl, rfl, Try.underlying81, by kernel_rfl⟩⟩
theorem tySl77 : TySl Try.prog 77 81 2 16 [.i 0, .raw .nilFunc] := ⟨Try.underlying77, ⟨Try.t81, _, by kernel_rfl, rfl, rfl, rfl, rfl, by decide, rfl⟩⟩
theorem tyFld45_1 : TyField Try.prog 45 1 1 3 := ⟨⟨_, _, Try.t3, Try.underlying45, rfl, rfl, rfl, by kernel_rfl, by decide⟩⟩
theorem goes53 : Goes Try.prog 53 := ⟨Try.call53⟩
theorem und77 : Try.prog.underlying 77 = some (.slice 81) := Try.underlying77
theorem tyAgg81 : TyAgg Try.prog 81 2 := ⟨⟨_, Try.underlying81, rfl⟩, ⟨Try.t81, by kernel_rfl, by kernel_rfl⟩⟩
theorem tyZero81 : TyZero Try.prog 81 [.i 0, .raw .nilFunc] := ⟨⟨Try.t81, _, by kernel_rfl, rfl, rfl⟩⟩
theorem tyFld81_0 : TyField Try.prog 81 0 0 3 := ⟨⟨_, _, Try.t3, Try.underlying81, rfl, rfl, rfl, by kernel_rfl, by decide⟩⟩
theorem tyFld81_1 : TyField Try.prog 81 1 1 79 := ⟨⟨_, _, Try.t79, Try.underlying81, rfl, rfl, rfl, by kernel_rfl, by decide⟩⟩
theorem tyOne79 : TyOne Try.prog 79 := ⟨⟨_, Try.underlying79, rfl⟩, ⟨Try.t79, by kernel_rfl, by kernel_rfl⟩⟩
theorem eqAgg59 (x y : Holding) : EqAgg Try.prog 59 (eHolding x) (eHolding y) (decide (x = y)) :=
  EqAgg.of (rs := [decide (x.Body = y.Body), decide (x.Epoch = y.Epoch), decide (x.Phase = y.Phase), decide (x.Peer = y.Peer), decide (x.Data = y.Data)]) Try.eqGuardType59 Try.stoodInHeld59 Try.underlying59 (⟨by decide, ⟨_, _, rfl, rfl, .int tyOne3 Try.underlying3⟩, ⟨by decide, ⟨_, _, rfl, rfl, .int tyOne3 Try.underlying3⟩, ⟨by decide, ⟨_, _, rfl, rfl, .int tyOne3 Try.underlying3⟩, ⟨by decide, ⟨_, _, rfl, rfl, .int tyOne3 Try.underlying3⟩, ⟨by decide, ⟨_, _, rfl, rfl, .str tyOne9 Try.underlying9⟩, trivial⟩⟩⟩⟩⟩)
    (by cases x; cases y; rw [Bool.eq_iff_iff]; simp [Holding.mk.injEq])
theorem goes64 : Goes Try.prog 64 := ⟨Try.call64⟩
theorem und22 : Try.prog.underlying 22 = some (.slice 3) := Try.underlying22
theorem tySl22 : TySl Try.prog 22 3 1 8 [.i 0] := ⟨Try.underlying22, ⟨Try.t3, _, by kernel_rfl, rfl, rfl, rfl, rfl, by decide, rfl⟩⟩
theorem goes55 : Goes Try.prog 55 := ⟨Try.call55⟩
theorem goes56 : Goes Try.prog 56 := ⟨Try.call56⟩
theorem goes40 : Goes Try.prog 40 := ⟨Try.call40⟩
theorem und37 : Try.prog.underlying 37 = some (.slice 42) := Try.underlying37
theorem tySl37 : TySl Try.prog 37 42 1 24 [.nil] := ⟨Try.underlying37, ⟨Try.t42, _, by kernel_rfl, rfl, rfl, rfl, rfl, by decide, rfl⟩⟩
theorem tyOne42 : TyOne Try.prog 42 := ⟨⟨_, Try.underlying42, rfl⟩, ⟨Try.t42, by kernel_rfl, by kernel_rfl⟩⟩
theorem goes21 : Goes Try.prog 21 := ⟨Try.call21⟩
theorem goes23 : Goes Try.prog 23 := ⟨Try.call23⟩
theorem goes15 : Goes Try.prog 15 := ⟨Try.call15⟩
theorem und38 : Try.prog.underlying 38 = some (.slice 45) := Try.underlying38
theorem eqAgg45 (x y : Parcel) : EqAgg Try.prog 45 (eParcel x) (eParcel y) (decide (x = y)) :=
  EqAgg.of (rs := [decide (x.From = y.From), decide (x.To = y.To), decide (x.Kind = y.Kind), decide (x.Body = y.Body), decide (x.Epoch = y.Epoch), decide (x.Data = y.Data)]) Try.eqGuardType45 Try.stoodInHeld45 Try.underlying45 (⟨by decide, ⟨_, _, rfl, rfl, .int tyOne3 Try.underlying3⟩, ⟨by decide, ⟨_, _, rfl, rfl, .int tyOne3 Try.underlying3⟩, ⟨by decide, ⟨_, _, rfl, rfl, .int tyOne3 Try.underlying3⟩, ⟨by decide, ⟨_, _, rfl, rfl, .int tyOne3 Try.underlying3⟩, ⟨by decide, ⟨_, _, rfl, rfl, .int tyOne3 Try.underlying3⟩, ⟨by decide, ⟨_, _, rfl, rfl, .str tyOne9 Try.underlying9⟩, trivial⟩⟩⟩⟩⟩⟩)
    (by cases x; cases y; rw [Bool.eq_iff_iff]; simp [Parcel.mk.injEq])
theorem goes32 : Goes Try.prog 32 := ⟨Try.call32⟩
theorem goes10 : Goes Try.prog 10 := ⟨Try.call10⟩
theorem goes39 : Goes Try.prog 39 := ⟨Try.call39⟩
theorem goes37 : Goes Try.prog 37 := ⟨Try.call37⟩
theorem goes42 : Goes Try.prog 42 := ⟨Try.call42⟩
theorem goes48 : Goes Try.prog 48 := ⟨Try.call48⟩
theorem goes51 : Goes Try.prog 51 := ⟨Try.call51⟩
theorem goes50 : Goes Try.prog 50 := ⟨Try.call50⟩
theorem goes43 : Goes Try.prog 43 := ⟨Try.call43⟩
theorem tyZero54 : TyZero Try.prog 54 [.nil, .nil, .i 0] := ⟨⟨Try.t54, _, by kernel_rfl, rfl, rfl⟩⟩
theorem tyBuild54 : TyBuild Try.prog 54 [(0, 1), (1, 1), (2, 1)] [.nil, .nil, .i 0] := ⟨⟨Try.t54, _, _, by kernel_rfl, rfl, rfl, Try.underlying54, by kernel_rfl⟩⟩
theorem tyAgg54 : TyAgg Try.prog 54 3 := ⟨⟨_, Try.underlying54, rfl⟩, ⟨Try.t54, by kernel_rfl, by kernel_rfl⟩⟩
theorem goes49 : Goes Try.prog 49 := ⟨Try.call49⟩
theorem tyFld54_2 : TyField Try.prog 54 2 2 24 := ⟨⟨_, _, Try.t24, Try.underlying54, rfl, rfl, rfl, by kernel_rfl, by decide⟩⟩
theorem tyOne24 : TyOne Try.prog 24 := ⟨⟨_, Try.underlying24, rfl⟩, ⟨Try.t24, by kernel_rfl, by kernel_rfl⟩⟩
theorem tyFld54_0 : TyField Try.prog 54 0 0 42 := ⟨⟨_, _, Try.t42, Try.underlying54, rfl, rfl, rfl, by kernel_rfl, by decide⟩⟩
theorem goes34 : Goes Try.prog 34 := ⟨Try.call34⟩
theorem goes31 : Goes Try.prog 31 := ⟨Try.call31⟩
theorem goes54 : Goes Try.prog 54 := ⟨Try.call54⟩
theorem goes18 : Goes Try.prog 18 := ⟨Try.call18⟩
theorem goes7 : Goes Try.prog 7 := ⟨Try.call7⟩
theorem goes19 : Goes Try.prog 19 := ⟨Try.call19⟩
theorem goes20 : Goes Try.prog 20 := ⟨Try.call20⟩
theorem und4 : Try.prog.underlying 4 = some .bool := Try.underlying4
theorem goes22 : Goes Try.prog 22 := ⟨Try.call22⟩
theorem goes24 : Goes Try.prog 24 := ⟨Try.call24⟩
theorem goes26 : Goes Try.prog 26 := ⟨Try.call26⟩
theorem goes25 : Goes Try.prog 25 := ⟨Try.call25⟩
theorem goes27 : Goes Try.prog 27 := ⟨Try.call27⟩
theorem goes28 : Goes Try.prog 28 := ⟨Try.call28⟩
theorem goes29 : Goes Try.prog 29 := ⟨Try.call29⟩
theorem goes33 : Goes Try.prog 33 := ⟨Try.call33⟩
theorem tyFld54_1 : TyField Try.prog 54 1 1 38 := ⟨⟨_, _, Try.t38, Try.underlying54, rfl, rfl, rfl, by kernel_rfl, by decide⟩⟩
theorem tyOne38 : TyOne Try.prog 38 := ⟨⟨_, Try.underlying38, rfl⟩, ⟨Try.t38, by kernel_rfl, by kernel_rfl⟩⟩
theorem goes35 : Goes Try.prog 35 := ⟨Try.call35⟩
theorem goes36 : Goes Try.prog 36 := ⟨Try.call36⟩
theorem goes38 : Goes Try.prog 38 := ⟨Try.call38⟩
theorem tyBuild40 : TyBuild Try.prog 40 [(0, 1), (1, 1), (2, 1)] [.nil, .nil, .str []] := ⟨⟨Try.t40, _, _, by kernel_rfl, rfl, rfl, Try.underlying40, by kernel_rfl⟩⟩
theorem tyFld40_0 : TyField Try.prog 40 0 0 37 := ⟨⟨_, _, Try.t37, Try.underlying40, rfl, rfl, rfl, by kernel_rfl, by decide⟩⟩
theorem tyOne37 : TyOne Try.prog 37 := ⟨⟨_, Try.underlying37, rfl⟩, ⟨Try.t37, by kernel_rfl, by kernel_rfl⟩⟩
theorem tyFld40_1 : TyField Try.prog 40 1 1 38 := ⟨⟨_, _, Try.t38, Try.underlying40, rfl, rfl, rfl, by kernel_rfl, by decide⟩⟩
theorem tyFld33_1 : TyField Try.prog 33 1 1 3 := ⟨⟨_, _, Try.t3, Try.underlying33, rfl, rfl, rfl, by kernel_rfl, by decide⟩⟩
theorem tyFld33_0 : TyField Try.prog 33 0 0 3 := ⟨⟨_, _, Try.t3, Try.underlying33, rfl, rfl, rfl, by kernel_rfl, by decide⟩⟩
theorem tyFld33_2 : TyField Try.prog 33 2 2 3 := ⟨⟨_, _, Try.t3, Try.underlying33, rfl, rfl, rfl, by kernel_rfl, by decide⟩⟩
theorem tyFld33_3 : TyField Try.prog 33 3 3 3 := ⟨⟨_, _, Try.t3, Try.underlying33, rfl, rfl, rfl, by kernel_rfl, by decide⟩⟩
theorem undi5 : Try.prog.underlying 5 = some (.int .u8) := Try.underlying5
theorem tySl36 : TySl Try.prog 36 5 1 1 [.int .u8 0] := ⟨Try.underlying36, ⟨Try.t5, _, by kernel_rfl, rfl, rfl, rfl, rfl, by decide, rfl⟩⟩
theorem und36 : Try.prog.underlying 36 = some (.slice 5) := Try.underlying36
theorem tyFld40_2 : TyField Try.prog 40 2 2 9 := ⟨⟨_, _, Try.t9, Try.underlying40, rfl, rfl, rfl, by kernel_rfl, by decide⟩⟩
theorem goes16 : Goes Try.prog 16 := ⟨Try.call16⟩
theorem goes41 : Goes Try.prog 41 := ⟨Try.call41⟩
theorem und28 : Try.prog.underlying 28 = some (.slice 33) := Try.underlying28
theorem goes12 : Goes Try.prog 12 := ⟨Try.call12⟩
theorem tySl28 : TySl Try.prog 28 33 4 32 [.i 0, .i 0, .i 0, .i 0] := ⟨Try.underlying28, ⟨Try.t33, _, by kernel_rfl, rfl, rfl, rfl, rfl, by decide, rfl⟩⟩
theorem tyAgg33 : TyAgg Try.prog 33 4 := ⟨⟨_, Try.underlying33, rfl⟩, ⟨Try.t33, by kernel_rfl, by kernel_rfl⟩⟩
theorem tyZero33 : TyZero Try.prog 33 [.i 0, .i 0, .i 0, .i 0] := ⟨⟨Try.t33, _, by kernel_rfl, rfl, rfl⟩⟩
theorem goes13 : Goes Try.prog 13 := ⟨Try.call13⟩
theorem goes14 : Goes Try.prog 14 := ⟨Try.call14⟩
theorem goes17 : Goes Try.prog 17 := ⟨Try.call17⟩
theorem tyOne5 : TyOne Try.prog 5 := ⟨⟨_, Try.underlying5, rfl⟩, ⟨Try.t5, by kernel_rfl, by kernel_rfl⟩⟩
def region_place_1_S (F : Nat) (h0 : Holding) (n0 : Int) : Option Int :=
 some (IntKind.i64.wrap (h0.Body - n0))
theorem region_place_1_spec {F : Nat} {h0 : Holding} {n0 : Int} {r : Int} (h : region_place_1_S F h0 n0 = some r) : Meets Try.prog 58 [] [.agg (eHolding h0), .one (.i n0)] (Is [] (.b (.one (.i r)))) := by
  unfold region_place_1_S at h
  refine Meets.intro 9 Try.func58 Try.ntmps58 rfl (by simp) fun E => ?_
  show Tri _ E ⟨9, [], []⟩ _ ⟨[(0, .b (.agg [.i h0.Body, .i h0.Epoch, .i h0.Phase, .i h0.Peer, .str h0.Data])), (1, I n0)], []⟩ _
  refine Tri.seq ?_
  refine Tri.regionL ?_
  refine OpsL.cons rfl (op_box (k := 101) rfl rfl) ?_
  refine OpsL.cons rfl (op_assign rfl) ?_
  refine OpsL.nilK [1, 2] [101] (s' := ⟨[(1, I n0), (2, .b (.ptr 101 0))], [(101, .box 59 [.i h0.Body, .i h0.Epoch, .i h0.Phase, .i h0.Peer, .str h0.Data])]⟩) rfl ?_
  refine Tri.seq ?_
  refine Tri.regionL ?_
  refine OpsL.cons rfl (op_field_p tyFld59_0 rfl rfl) ?_
  refine OpsL.cons rfl (op_load_p1 tyOne3 rfl rfl rfl) ?_
  refine OpsL.cons rfl (op_move rfl) ?_
  refine OpsL.cons rfl (op_sub rfl rfl) ?_
  refine OpsL.cons rfl (op_assign rfl) ?_
  refine OpsL.nilK [4] [] (s' := ⟨[(4, I (IntKind.i64.wrap (h0.Body - n0)))], []⟩) rfl ?_
  refine Tri.ret ?_
  obtain rfl := Option.some.inj h
  refine Fin.keep [4] [] (s' := ⟨[(4, I (IntKind.i64.wrap (h0.Body - n0)))], []⟩) rfl ?_
  refine Fin.result' [.one (.i (IntKind.i64.wrap (h0.Body - n0)))] (.inl rfl) rfl (.cons (.tmp rfl) .nil) ⟨rfl, rfl⟩

def skewbacklaw41_short_S (F : Nat) (l0 : List Holding) : Option Bool :=
 Option.bind (iter F (fun x_1 => if (decide (x_1 < (l0.length : Int))) = true then (Option.bind (idx? l0 x_1) (fun x_2 => if (decide (100 < (x_2.Data.length : Int))) = true then (some (.inr (.inr false))) else (some (.inl (IntKind.i64.wrap (x_1 + 1)))))) else (some (.inr (.inl ())))) 0) (alt2 (fun _ => some (decide ((l0.length : Int) ≤ 20))) (fun y => some y))
theorem skewbacklaw41_short_spec {F : Nat} {l0 : List Holding} {r : Bool} (h : skewbacklaw41_short_S F l0 = some r) : Meets Try.prog 18 [] [.one (.sl 5 (l0.map eHolding))] (Is [] (.b (.one (.bool r)))) := by
  unfold skewbacklaw41_short_S at h
  refine Meets.intro 19 Try.func18 Try.ntmps18 rfl (by simp) fun E => ?_
  show Tri _ E ⟨19, [], []⟩ _ ⟨[(0, .b (.one (.sl 5 (l0.map eHolding))))], []⟩ _
  refine Tri.seq ?_
  refine Tri.regionL ?_
  refine OpsL.cons rfl (op_assign rfl) ?_
  refine OpsL.nilK [0] [] (s' := ⟨[(0, .b (.one (.sl 5 (l0.map eHolding))))], []⟩) rfl ?_
  obtain ⟨v1, h2, h⟩ := bnd h
  refine Tri.seqJ (v := v1) (fun (_ : Unit) => ⟨[(0, .b (.one (.sl 5 (l0.map eHolding))))], []⟩) (fun z => .inl z) ?_ ?_
  · refine Tri.seq ?_
    refine Tri.regionL ?_
    refine OpsL.cons rfl (op_move rfl) ?_
    refine OpsL.cons rfl (op_len_e' und42 rfl (List.length_map _)) ?_
    refine OpsL.cons rfl (op_move rfl) ?_
    refine OpsL.nilK [0, 5, 6, 7] [] (s' := ⟨[(0, .b (.one (.sl 5 (l0.map eHolding)))), (5, .b (.one (.sl 5 (l0.map eHolding)))), (6, I (l0.length : Int)), (7, I 0)], []⟩) rfl ?_
    refine Tri.block ?_
    refine Tri.loopJ h2 (fun (x_1 : Int) => ⟨[(0, .b (.one (.sl 5 (l0.map eHolding)))), (5, .b (.one (.sl 5 (l0.map eHolding)))), (6, I (l0.length : Int)), (7, I x_1)], []⟩) [0, 5, 6, 7] [] rfl ?_
    rintro x_1 o3 h4 hy5
    refine Tri.seq ?_
    refine Tri.regionL ?_
    refine OpsL.cons rfl (op_lss rfl rfl) ?_
    refine OpsL.nilK [0, 5, 6, 7, 8] [] (s' := ⟨[(0, .b (.one (.sl 5 (l0.map eHolding)))), (5, .b (.one (.sl 5 (l0.map eHolding)))), (6, I (l0.length : Int)), (7, I x_1), (8, B (decide (x_1 < (l0.length : Int))))], []⟩) rfl ?_
    refine Tri.seq ?_
    refine Tri.ite h4 rfl (fun _ h4 => ?_) (fun _ h4 => ?_)
    · refine Tri.skip ?_
      refine Fin.keep [0, 5, 6, 7] [] (s' := ⟨[(0, .b (.one (.sl 5 (l0.map eHolding)))), (5, .b (.one (.sl 5 (l0.map eHolding)))), (6, I (l0.length : Int)), (7, I x_1)], []⟩) rfl ?_
      refine Fin.then ?_
      refine Tri.seq ?_
      refine Tri.block ?_
      refine Tri.seq ?_
      refine Tri.regionL ?_
      obtain ⟨x_2, e6, h4⟩ := bnd h4
      refine OpsL.cons rfl (op_index_e tySl42 (ix_lo e6) (ix_map (e := eHolding) e6) rfl rfl) ?_
      refine OpsL.cons rfl (op_load_e tyAgg59 rfl rfl rfl) ?_
      refine OpsL.cons rfl (op_alloc (k := 101) tyZero59 rfl) ?_
      refine OpsL.cons rfl (op_store_p tyAgg59 rfl rfl rfl rfl (Nat.le_of_ble_eq_true rfl) rfl) ?_
      refine OpsL.nilK [0, 4, 5, 6, 7] [101] (s' := ⟨[(0, .b (.one (.sl 5 (l0.map eHolding)))), (4, .b (.ptr 101 0)), (5, .b (.one (.sl 5 (l0.map eHolding)))), (6, I (l0.length : Int)), (7, I x_1)], [(101, .box 59 [.i x_2.Body, .i x_2.Epoch, .i x_2.Phase, .i x_2.Peer, .str x_2.Data])]⟩) rfl ?_
      refine Tri.seq ?_
      refine Tri.regionL ?_
      refine OpsL.cons rfl (op_field_p tyFld59_4 rfl rfl) ?_
      refine OpsL.cons rfl (op_load_p1 tyOne9 rfl rfl rfl) ?_
      refine OpsL.cons rfl (op_len_str und9 rfl) ?_
      refine OpsL.cons rfl (op_gtr rfl rfl) ?_
      refine OpsL.nilK [0, 5, 6, 7, 14] [] (s' := ⟨[(0, .b (.one (.sl 5 (l0.map eHolding)))), (5, .b (.one (.sl 5 (l0.map eHolding)))), (6, I (l0.length : Int)), (7, I x_1), (14, B (decide (100 < (x_2.Data.length : Int))))], []⟩) rfl ?_
      refine Tri.ite h4 rfl (fun _ h4 => ?_) (fun _ h4 => ?_)
      · refine Tri.seq ?_
        refine Tri.regionL ?_
        refine OpsL.cons rfl (op_assign rfl) ?_
        refine OpsL.nilK [2] [] (s' := ⟨[(2, B false)], []⟩) rfl ?_
        refine Tri.ret ?_
        refine Fin.block_ret ?_
        refine Fin.then_ret ?_
        obtain rfl := hy5 _ (Option.some.inj h4).symm
        refine Fin.then_ret ?_
        refine Fin.block_ret ?_
        refine Fin.then_ret ?_
        obtain rfl := Option.some.inj h
        refine Fin.keep [2] [] (s' := ⟨[(2, B false)], []⟩) rfl ?_
        refine Fin.result' [.one (.bool false)] (.inl rfl) rfl (.cons (.tmp rfl) .nil) ⟨rfl, rfl⟩
      · refine Tri.skip ?_
        refine Fin.block_normal ?_
        refine Fin.keep [0, 5, 6, 7] [] (s' := ⟨[(0, .b (.one (.sl 5 (l0.map eHolding)))), (5, .b (.one (.sl 5 (l0.map eHolding)))), (6, I (l0.length : Int)), (7, I x_1)], []⟩) rfl ?_
        refine Fin.then ?_
        refine Tri.regionL ?_
        refine OpsL.cons rfl (op_add rfl rfl) ?_
        refine OpsL.cons rfl (op_move rfl) ?_
        refine OpsL.nil ?_
        exact Fin.againJ [0, 5, 6, 7] [] (IntKind.i64.wrap (x_1 + 1)) (Option.some.inj h4) rfl
    · refine Tri.exit ?_
      refine Fin.then_exit ?_
      obtain rfl := hy5 _ (Option.some.inj h4).symm
      refine Fin.then_exit ?_
      refine Fin.block_exit ?_
      exact Fin.join [0] [] () rfl rfl
  · rintro _ hv
    subst v1
    refine Tri.seq ?_
    refine Tri.regionL ?_
    refine OpsL.cons rfl (op_move rfl) ?_
    refine OpsL.cons rfl (op_len_e' und42 rfl (List.length_map _)) ?_
    refine OpsL.cons rfl (op_leq rfl rfl) ?_
    refine OpsL.cons rfl (op_assign rfl) ?_
    refine OpsL.nilK [2] [] (s' := ⟨[(2, B (decide ((l0.length : Int) ≤ 20)))], []⟩) rfl ?_
    refine Tri.ret ?_
    obtain rfl := Option.some.inj h
    refine Fin.keep [2] [] (s' := ⟨[(2, B (decide ((l0.length : Int) ≤ 20)))], []⟩) rfl ?_
    refine Fin.result' [.one (.bool (decide ((l0.length : Int) ≤ 20)))] (.inl rfl) rfl (.cons (.tmp rfl) .nil) ⟨rfl, rfl⟩

def region_known_S (F : Nat) (body0 : Int) : Option Bool :=
 some ((decide (1 ≤ body0)) && (decide (body0 ≤ 400)))
theorem region_known_spec {F : Nat} {body0 : Int} {r : Bool} (h : region_known_S F body0 = some r) : Meets Try.prog 44 [] [.one (.i body0)] (Is [] (.b (.one (.bool r)))) := by
  unfold region_known_S at h
  refine Meets.intro 9 Try.func44 Try.ntmps44 rfl (by simp) fun E => ?_
  show Tri _ E ⟨9, [], []⟩ _ ⟨[(0, I body0)], []⟩ _
  refine Tri.seq ?_
  refine Tri.regionL ?_
  refine OpsL.cons rfl (op_assign rfl) ?_
  refine OpsL.nilK [0] [] (s' := ⟨[(0, I body0)], []⟩) rfl ?_
  refine Tri.seq ?_
  refine Tri.regionL ?_
  refine OpsL.cons rfl (op_move rfl) ?_
  refine OpsL.cons rfl (op_geq rfl rfl) ?_
  refine OpsL.cons rfl (op_move rfl) ?_
  refine OpsL.consG (decide (1 ≤ body0)) 99 [] (.plain rfl) (eq_t _) rfl rfl (fun g1 => trivial) (fun g1 => op_move rfl) ?_
  refine OpsL.consG (decide (1 ≤ body0)) 99 [6] (.plain rfl) (eq_t _) rfl rfl (fun g2 => ⟨g2, trivial⟩) (fun g2 => op_leq rfl rfl) ?_
  refine OpsL.cons rfl (op_pick_and (fun e => e) rfl rfl rfl rfl) ?_
  refine OpsL.cons rfl (op_assign rfl) ?_
  refine OpsL.nilK [2] [] (s' := ⟨[(2, B ((decide (1 ≤ body0)) && (decide (body0 ≤ 400))))], []⟩) rfl ?_
  refine Tri.ret ?_
  obtain rfl := Option.some.inj h
  refine Fin.keep [2] [] (s' := ⟨[(2, B ((decide (1 ≤ body0)) && (decide (body0 ≤ 400))))], []⟩) rfl ?_
  refine Fin.result' [.one (.bool ((decide (1 ≤ body0)) && (decide (body0 ≤ 400))))] (.inl rfl) rfl (.cons (.tmp rfl) .nil) ⟨rfl, rfl⟩

def slices_BinarySearchFunc_S (F : Nat) (x0 : List Holding) (target0 : Int) : Option (Int × Bool) :=
 Option.bind (iter F (un2 fun i_2 j_3 => if (decide (i_2 < j_3)) = true then (letN (IntKind.u64.wrap (IntKind.i64.wrap (i_2 + j_3))) fun x_5 => Option.bind (idx? x0 (IntKind.i64.wrap (x_5 / 2))) (fun x_6 => Option.bind (region_place_1_S F x_6 target0) (fun x_7 => if (decide (x_7 < 0)) = true then (letN (IntKind.i64.wrap ((IntKind.i64.wrap (x_5 / 2)) + 1)) fun x_8 => some (.inl (x_8, j_3))) else (some (.inl (i_2, IntKind.i64.wrap (x_5 / 2))))))) else (some (.inr i_2))) (0, (x0.length : Int))) (fun i_1 => Option.bind (gcall (decide (i_1 < (x0.length : Int))) (idx? x0 i_1)) (fun x_9 => Option.bind (gcall (decide (i_1 < (x0.length : Int))) (region_place_1_S F x_9 target0)) (fun x_10 => some (i_1, (decide (i_1 < (x0.length : Int))) && (decide (x_10 = 0))))))
theorem slices_BinarySearchFunc_spec {F : Nat} {x0 : List Holding} {target0 : Int} {r : Int × Bool} (h : slices_BinarySearchFunc_S F x0 target0 = some r) : Meets Try.prog 57 [] [.one (.sl 5 (x0.map eHolding)), .one (.i target0), .one (.raw (.func (.func 58) #[] #[]))] (Is [] (.tup [.one (.i r.1), .one (.bool r.2)])) := by
  unfold slices_BinarySearchFunc_S at h
  refine Meets.intro 49 Try.func57 Try.ntmps57 rfl (by simp) fun E => ?_
  show Tri _ E ⟨49, [], []⟩ _ ⟨[(0, .b (.one (.sl 5 (x0.map eHolding)))), (1, I target0), (2, .b (.one (.raw (.func (.func 58) #[] #[]))))], []⟩ _
  refine Tri.seq ?_
  refine Tri.regionL ?_
  refine OpsL.cons rfl (op_assign rfl) ?_
  refine OpsL.cons rfl (op_assign rfl) ?_
  refine OpsL.nilK [0, 1, 2] [] (s' := ⟨[(0, .b (.one (.sl 5 (x0.map eHolding)))), (1, I target0), (2, .b (.one (.raw (.func (.func 58) #[] #[]))))], []⟩) rfl ?_
  refine Tri.seq ?_
  refine Tri.regionL ?_
  refine OpsL.cons rfl (op_move rfl) ?_
  refine OpsL.cons rfl (op_len_e' und42 rfl (List.length_map _)) ?_
  refine OpsL.cons rfl (op_assign rfl) ?_
  refine OpsL.nilK [0, 1, 2, 8] [] (s' := ⟨[(0, .b (.one (.sl 5 (x0.map eHolding)))), (1, I target0), (2, .b (.one (.raw (.func (.func 58) #[] #[])))), (8, I (x0.length : Int))], []⟩) rfl ?_
  refine Tri.seq ?_
  refine Tri.regionL ?_
  refine OpsL.cons rfl (op_move rfl) ?_
  refine OpsL.cons rfl (op_assign rfl) ?_
  refine OpsL.cons rfl (op_assign rfl) ?_
  refine OpsL.nilK [0, 1, 2, 8, 9, 10] [] (s' := ⟨[(0, .b (.one (.sl 5 (x0.map eHolding)))), (1, I target0), (2, .b (.one (.raw (.func (.func 58) #[] #[])))), (8, I (x0.length : Int)), (9, I 0), (10, I (x0.length : Int))], []⟩) rfl ?_
  obtain ⟨v1, h2, h⟩ := bnd h
  refine Tri.seqJ (v := v1) (fun (i_1 : Int) => ⟨[(0, .b (.one (.sl 5 (x0.map eHolding)))), (1, I target0), (2, .b (.one (.raw (.func (.func 58) #[] #[])))), (8, I (x0.length : Int)), (9, I i_1)], []⟩) (fun z => z) ?_ ?_
  · refine Tri.block ?_
    refine Tri.loopJ h2 (un2 fun (i_2 : Int) (j_3 : Int) => ⟨[(0, .b (.one (.sl 5 (x0.map eHolding)))), (1, I target0), (2, .b (.one (.raw (.func (.func 58) #[] #[])))), (8, I (x0.length : Int)), (9, I i_2), (10, I j_3)], []⟩) [0, 1, 2, 8, 9, 10] [] rfl ?_
    rintro ⟨i_2, j_3⟩ o3 h4 hy5
    refine Tri.seq ?_
    refine Tri.seq ?_
    refine Tri.regionL ?_
    refine OpsL.cons rfl (op_move rfl) ?_
    refine OpsL.cons rfl (op_move rfl) ?_
    refine OpsL.cons rfl (op_lss rfl rfl) ?_
    refine OpsL.nilK [0, 1, 2, 8, 9, 10, 17] [] (s' := ⟨[(0, .b (.one (.sl 5 (x0.map eHolding)))), (1, I target0), (2, .b (.one (.raw (.func (.func 58) #[] #[])))), (8, I (x0.length : Int)), (9, I i_2), (10, I j_3), (17, B (decide (i_2 < j_3)))], []⟩) rfl ?_
    refine Tri.ite h4 rfl (fun _ h4 => ?_) (fun _ h4 => ?_)
    · refine Tri.skip ?_
      refine Fin.keep [0, 1, 2, 8, 9, 10] [] (s' := ⟨[(0, .b (.one (.sl 5 (x0.map eHolding)))), (1, I target0), (2, .b (.one (.raw (.func (.func 58) #[] #[])))), (8, I (x0.length : Int)), (9, I i_2), (10, I j_3)], []⟩) rfl ?_
      refine Fin.then ?_
      refine Tri.block ?_
      refine Tri.seq ?_
      refine Tri.regionL ?_
      refine OpsL.cons rfl (op_move rfl) ?_
      refine OpsL.cons rfl (op_move rfl) ?_
      refine OpsL.cons rfl (op_add rfl rfl) ?_
      refine OpsL.consI .u64 h4 rfl (op_conv_wrap undi3 undi84 rfl) (fun x_5 h4 => ?_)
      refine OpsL.cons rfl (op_shr2 (m := 1) (by decide) rfl rfl rfl) ?_
      refine OpsL.cons rfl (op_conv_wrap undi84 undi3 rfl) ?_
      refine OpsL.cons rfl (op_assign rfl) ?_
      refine OpsL.nilK [0, 1, 2, 8, 9, 10, 11] [] (s' := ⟨[(0, .b (.one (.sl 5 (x0.map eHolding)))), (1, I target0), (2, .b (.one (.raw (.func (.func 58) #[] #[])))), (8, I (x0.length : Int)), (9, I i_2), (10, I j_3), (11, I (IntKind.i64.wrap (x_5 / 2)))], []⟩) rfl ?_
      refine Tri.seq ?_
      refine Tri.regionL ?_
      refine OpsL.cons rfl (op_move rfl) ?_
      refine OpsL.cons rfl (op_move rfl) ?_
      refine OpsL.cons rfl (op_move rfl) ?_
      obtain ⟨x_6, e6, h4⟩ := bnd h4
      refine OpsL.cons rfl (op_index_e tySl42 (ix_lo e6) (ix_map (e := eHolding) e6) rfl rfl) ?_
      refine OpsL.cons rfl (op_load_e tyAgg59 rfl rfl rfl) ?_
      refine OpsL.cons rfl (op_move rfl) ?_
      obtain ⟨x_7, e7, h4⟩ := bnd h4
      refine OpsL.cons rfl (op_callv0 (region_place_1_spec e7) goes58 rfl rfl rfl) ?_
      refine OpsL.cons rfl (op_lss rfl rfl) ?_
      refine OpsL.nilK [0, 1, 2, 8, 9, 10, 11, 31] [] (s' := ⟨[(0, .b (.one (.sl 5 (x0.map eHolding)))), (1, I target0), (2, .b (.one (.raw (.func (.func 58) #[] #[])))), (8, I (x0.length : Int)), (9, I i_2), (10, I j_3), (11, I (IntKind.i64.wrap (x_5 / 2))), (31, B (decide (x_7 < 0)))], []⟩) rfl ?_
      refine Tri.ite h4 rfl (fun _ h4 => ?_) (fun _ h4 => ?_)
      · refine Tri.regionL ?_
        refine OpsL.cons rfl (op_move rfl) ?_
        refine OpsL.consI .i64 h4 rfl (op_add rfl rfl) (fun x_8 h4 => ?_)
        refine OpsL.cons rfl (op_assign rfl) ?_
        refine OpsL.nil ?_
        refine Fin.block_normal ?_
        exact Fin.againJ [0, 1, 2, 8, 9, 10] [] (x_8, j_3) (Option.some.inj h4) rfl
      · refine Tri.regionL ?_
        refine OpsL.cons rfl (op_move rfl) ?_
        refine OpsL.cons rfl (op_assign rfl) ?_
        refine OpsL.nil ?_
        refine Fin.block_normal ?_
        exact Fin.againJ [0, 1, 2, 8, 9, 10] [] (i_2, IntKind.i64.wrap (x_5 / 2)) (Option.some.inj h4) rfl
    · refine Tri.exit ?_
      refine Fin.then_exit ?_
      obtain rfl := hy5 _ (Option.some.inj h4).symm
      refine Fin.then_exit ?_
      refine Fin.block_exit ?_
      exact Fin.join [0, 1, 2, 8, 9] [] i_2 rfl rfl
  · rintro i_1 hv
    subst v1
    refine Tri.seq ?_
    refine Tri.regionL ?_
    refine OpsL.cons rfl (op_move rfl) ?_
    refine OpsL.cons rfl (op_move rfl) ?_
    refine OpsL.cons rfl (op_move rfl) ?_
    refine OpsL.cons rfl (op_lss rfl rfl) ?_
    refine OpsL.cons rfl (op_move rfl) ?_
    refine OpsL.consG (decide (i_1 < (x0.length : Int))) 99 [] (.plain rfl) (eq_t _) rfl rfl (fun g8 => trivial) (fun g8 => op_move rfl) ?_
    refine OpsL.consG (decide (i_1 < (x0.length : Int))) 99 [] (.plain rfl) (eq_t _) rfl rfl (fun g9 => trivial) (fun g9 => op_move rfl) ?_
    refine OpsL.keep [1, 9, 35, 39, 40, 41] [] (s' := ⟨[(1, I target0), (9, I i_1), (35, I i_1), (39, B (decide (i_1 < (x0.length : Int)))), (40, .opt (decide (i_1 < (x0.length : Int))) (.one (.raw (.func (.func 58) #[] #[])))), (41, .opt (decide (i_1 < (x0.length : Int))) (.one (.sl 5 (x0.map eHolding))))], []⟩) rfl ?_
    refine OpsL.consG (decide (i_1 < (x0.length : Int))) 99 [] (.plain rfl) (eq_t _) rfl rfl (fun g10 => trivial) (fun g10 => op_move rfl) ?_
    obtain ⟨x_9, e12, h⟩ := bnd h
    refine OpsL.consG (decide (i_1 < (x0.length : Int))) 99 [41, 42] (.plain rfl) (eq_t _) rfl rfl (fun g11 => ⟨g11, g11, trivial⟩) (fun g11 => op_index_e tySl42 (ix_lo (gc e12 g11)) (ix_map (e := eHolding) (gc e12 g11)) rfl rfl) ?_
    refine OpsL.consG (decide (i_1 < (x0.length : Int))) 99 [43] (.plain rfl) (eq_t _) rfl rfl (fun g13 => ⟨g13, trivial⟩) (fun g13 => op_load_e tyAgg59 rfl rfl rfl) ?_
    refine OpsL.consG (decide (i_1 < (x0.length : Int))) 99 [] (.plain rfl) (eq_t _) rfl rfl (fun g14 => trivial) (fun g14 => op_move rfl) ?_
    obtain ⟨x_10, e16, h⟩ := bnd h
    refine OpsL.consG (decide (i_1 < (x0.length : Int))) 99 [40, 44, 45] (.plain rfl) (eq_t _) rfl rfl (fun g15 => ⟨g15, g15, g15, trivial⟩) (fun g15 => op_callv0 (region_place_1_spec (gc e16 g15)) goes58 rfl rfl rfl) ?_
    refine OpsL.consG (decide (i_1 < (x0.length : Int))) 99 [46] (.plain rfl) (eq_t _) rfl rfl (fun g17 => ⟨g17, trivial⟩) (fun g17 => op_eql rfl rfl) ?_
    refine OpsL.keep [35, 39, 47] [] (s' := ⟨[(35, I i_1), (39, B (decide (i_1 < (x0.length : Int)))), (47, .opt (decide (i_1 < (x0.length : Int))) (.one (.bool (decide (x_10 = 0)))))], []⟩) rfl ?_
    refine OpsL.cons rfl (op_pick_and (fun e => e) rfl rfl rfl rfl) ?_
    refine OpsL.cons rfl (op_assign rfl) ?_
    refine OpsL.cons rfl (op_assign rfl) ?_
    refine OpsL.nilK [6, 7] [] (s' := ⟨[(6, I i_1), (7, B ((decide (i_1 < (x0.length : Int))) && (decide (x_10 = 0))))], []⟩) rfl ?_
    refine Tri.ret ?_
    obtain rfl := Option.some.inj h
    refine Fin.keep [6, 7] [] (s' := ⟨[(6, I i_1), (7, B ((decide (i_1 < (x0.length : Int))) && (decide (x_10 = 0))))], []⟩) rfl ?_
    refine Fin.result' [.one (.i i_1), .one (.bool ((decide (i_1 < (x0.length : Int))) && (decide (x_10 = 0))))] (.inl rfl) rfl (.cons (.tmp rfl) (.cons (.tmp rfl) .nil)) ⟨rfl, rfl⟩

def region_place_S (F : Nat) (l0 : List Holding) (body0 : Int) : Option (Int × Bool) :=
 Option.bind (slices_BinarySearchFunc_S F l0 body0) (un2 fun x_1 x_2 => some (x_1, x_2))
theorem region_place_spec {F : Nat} {l0 : List Holding} {body0 : Int} {r : Int × Bool} (h : region_place_S F l0 body0 = some r) : Meets Try.prog 45 [] [.one (.sl 5 (l0.map eHolding)), .one (.i body0)] (Is [] (.tup [.one (.i r.1), .one (.bool r.2)])) := by
  unfold region_place_S at h
  refine Meets.intro 11 Try.func45 Try.ntmps45 rfl (by simp) fun E => ?_
  show Tri _ E ⟨11, [], []⟩ _ ⟨[(0, .b (.one (.sl 5 (l0.map eHolding)))), (1, I body0)], []⟩ _
  refine Tri.seq ?_
  refine Tri.regionL ?_
  refine OpsL.cons rfl (op_assign rfl) ?_
  refine OpsL.cons rfl (op_assign rfl) ?_
  refine OpsL.nilK [0, 1] [] (s' := ⟨[(0, .b (.one (.sl 5 (l0.map eHolding)))), (1, I body0)], []⟩) rfl ?_
  refine Tri.seq ?_
  refine Tri.regionL ?_
  refine OpsL.cons rfl (op_move rfl) ?_
  refine OpsL.cons rfl (op_move rfl) ?_
  obtain ⟨⟨x_1, x_2⟩, e1, h⟩ := bnd h
  refine OpsL.cons rfl (op_call0 (slices_BinarySearchFunc_spec e1) goes57 rfl rfl) ?_
  refine OpsL.cons rfl (op_extract rfl rfl) ?_
  refine OpsL.cons rfl (op_extract rfl rfl) ?_
  refine OpsL.cons rfl (op_assign rfl) ?_
  refine OpsL.cons rfl (op_assign rfl) ?_
  refine OpsL.nilK [4, 5] [] (s' := ⟨[(4, I x_1), (5, B x_2)], []⟩) rfl ?_
  refine Tri.ret ?_
  obtain rfl := Option.some.inj h
  refine Fin.keep [4, 5] [] (s' := ⟨[(4, I x_1), (5, B x_2)], []⟩) rfl ?_
  refine Fin.result' [.one (.i x_1), .one (.bool x_2)] (.inl rfl) rfl (.cons (.tmp rfl) (.cons (.tmp rfl) .nil)) ⟨rfl, rfl⟩

def slices_Clone_S (F : Nat) (s0 : List Holding) : Option (List Holding) :=
 Option.bind (app? [] s0) (fun x_2 => some x_2)
theorem slices_Clone_spec (k0 : Nat) {F : Nat} {s0 : List Holding} {r : (List Holding)} (h : slices_Clone_S F s0 = some r) : Meets Try.prog 52 [] [.one (.sl 5 (s0.map eHolding))] (Is [(k0, .row 59 5 (r.map eHolding))] (.b (.row k0))) := by
  unfold slices_Clone_S at h
  refine Meets.intro 8 Try.func52 Try.ntmps52 rfl (by simp) fun E => ?_
  show Tri _ E ⟨8, [], []⟩ _ ⟨[(0, .b (.one (.sl 5 (s0.map eHolding))))], []⟩ _
  refine Tri.seq ?_
  refine Tri.regionL ?_
  refine OpsL.cons rfl (op_assign rfl) ?_
  refine OpsL.nilK [0] [] (s' := ⟨[(0, .b (.one (.sl 5 (s0.map eHolding))))], []⟩) rfl ?_
  refine Tri.seq ?_
  refine Tri.seq ?_
  refine Tri.regionL ?_
  refine OpsL.cons rfl (op_move rfl) ?_
  refine OpsL.eqnil_e und42 rfl (fun nb_1 hnb1 => ?_)
  refine OpsL.nilK [0, 4] [] (s' := ⟨[(0, .b (.one (.sl 5 (s0.map eHolding)))), (4, B nb_1)], []⟩) rfl ?_
  refine Tri.cond rfl (fun hc2 => ?_) (fun _ => ?_)
  ·
    obtain rfl : s0 = [] := by simpa using hnb1 hc2
    refine Tri.seq ?_
    refine Tri.regionL ?_
    refine OpsL.cons rfl (op_assign rfl) ?_
    refine OpsL.nilK [2] [] (s' := ⟨[(2, .b (.one (.nil)))], []⟩) rfl ?_
    refine Tri.ret ?_
    refine Fin.then_ret ?_
    obtain rfl : [] = r := by first | (simp [app?] at h; exact h) | (simp [app?] at h; exact h.symm)
    refine Fin.keep [2] [] (s' := ⟨[(2, .b (.one (.nil)))], []⟩) rfl ?_
    refine Fin.nilrow 2 101 5 59 rfl (by decide) rfl ?_
    refine Fin.resultK 101 k0 [.row 101] (.inl rfl) rfl (.cons (.tmp rfl) .nil) rfl rfl rfl rfl ⟨rfl, rfl⟩
  · refine Tri.skip ?_
    refine Fin.keep [0] [] (s' := ⟨[(0, .b (.one (.sl 5 (s0.map eHolding))))], []⟩) rfl ?_
    refine Fin.then ?_
    refine Tri.seq ?_
    refine Tri.regionL ?_
    refine OpsL.cons rfl (op_build0 (k := 101) tySl42 rfl) ?_
    refine OpsL.cons rfl (op_move rfl) ?_
    obtain ⟨x_2, e3, h⟩ := bnd h
    refine OpsL.cons rfl (op_append tySl42 (app_b e3) (app_m e3) rfl rfl rfl (app_map e3) rfl) ?_
    refine OpsL.cons rfl (op_assign rfl) ?_
    refine OpsL.nilK [2] [101] (s' := ⟨[(2, .b (.row 101))], [(101, .row 59 5 (x_2.map eHolding))]⟩) rfl ?_
    refine Tri.ret ?_
    obtain rfl := Option.some.inj h
    refine Fin.keep [2] [101] (s' := ⟨[(2, .b (.row 101))], [(101, .row 59 5 (x_2.map eHolding))]⟩) rfl ?_
    refine Fin.resultK 101 k0 [.row 101] (.inl rfl) rfl (.cons (.tmp rfl) .nil) rfl rfl rfl rfl ⟨rfl, rfl⟩


theorem slices_Insert_spec {F : Nat} {i : Int} {v s r : List Holding} (h : slices_Insert_S F i v s = some r) : Meets Try.prog 59 [(1, .row 59 5 (s.map eHolding))] [.row 1, .one (.i i), .one (.sl 5 (v.map eHolding))] (Is [(1, .row 59 5 (r.map eHolding))] (.b (.row 1))) := by
  obtain ⟨h0, h1, hv, hs, rfl⟩ := ins1_ok (show ins1? s i v = some r from h)
  refine Meets.intro 95 Try.func59 Try.ntmps59 rfl (by simp) fun E => ?_
  show Tri _ E ⟨95, [], [1]⟩ _ ⟨[(0, .b (.row 1)), (1, I i), (2, .b (.one (.sl 5 (v.map eHolding))))], [(1, .row 59 5 (s.map eHolding))]⟩ _
  refine Tri.seq (Tri.regionL ?_)
  refine OpsL.cons rfl (op_assign rfl) ?_
  refine OpsL.nilK [0, 1, 2] [1] (s' := ⟨[(0, .b (.row 1)), (1, I i), (2, .b (.one (.sl 5 (v.map eHolding))))], [(1, .row 59 5 (s.map eHolding))]⟩) rfl ?_
  refine Tri.seq (Tri.regionL ?_)
  refine OpsL.cons rfl (op_move rfl) ?_
  refine OpsL.cons rfl (op_move rfl) ?_
  refine OpsL.cons rfl (op_slice_row_any tySl42 h0 (by simpa using h1) rfl rfl rfl) ?_
  refine OpsL.nilK [0, 1, 2] [1] (s' := ⟨[(0, .b (.row 1)), (1, I i), (2, .b (.one (.sl 5 (v.map eHolding))))], [(1, .row 59 5 (s.map eHolding))]⟩) rfl ?_
  refine Tri.seq (Tri.regionL ?_)
  refine OpsL.cons rfl (op_move rfl) ?_
  refine OpsL.cons rfl (op_len_e' und42 rfl (List.length_map _)) ?_
  refine OpsL.cons rfl (op_assign rfl) ?_
  refine OpsL.nilK [0, 1, 2, 7] [1] (s' := ⟨[(0, .b (.row 1)), (1, I i), (2, .b (.one (.sl 5 (v.map eHolding)))), (7, I (v.length : Int))], [(1, .row 59 5 (s.map eHolding))]⟩) rfl ?_
  refine Tri.seq (Tri.seq (Tri.regionL ?_))
  refine OpsL.cons rfl (op_move rfl) ?_
  refine OpsL.cons rfl (op_eql rfl rfl) ?_
  refine OpsL.nilK [0, 1, 2, 7, 16] [1] (s' := ⟨[(0, .b (.row 1)), (1, I i), (2, .b (.one (.sl 5 (v.map eHolding)))), (7, I (v.length : Int)), (16, B (decide ((v.length : Int) = 0)))], [(1, .row 59 5 (s.map eHolding))]⟩) rfl ?_
  refine Tri.cond rfl (fun hc => absurd hc (by simp [hv])) (fun _ => Tri.skip (Fin.then ?_))
  refine Tri.seq (Tri.regionL ?_)
  refine OpsL.cons rfl (op_move rfl) ?_
  refine OpsL.cons rfl (op_len_r' und42 rfl rfl (List.length_map _)) ?_
  refine OpsL.cons rfl (op_assign rfl) ?_
  refine OpsL.nilK [0, 1, 2, 7, 8] [1] (s' := ⟨[(0, .b (.row 1)), (1, I i), (2, .b (.one (.sl 5 (v.map eHolding)))), (7, I (v.length : Int)), (8, I (s.length : Int))], [(1, .row 59 5 (s.map eHolding))]⟩) rfl ?_
  refine Tri.seq (Tri.seq (Tri.regionL ?_))
  refine OpsL.cons rfl (op_move rfl) ?_
  refine OpsL.cons rfl (op_move rfl) ?_
  refine OpsL.cons rfl (op_eql rfl rfl) ?_
  refine OpsL.nilK [0, 1, 2, 7, 8, 22] [1] (s' := ⟨[(0, .b (.row 1)), (1, I i), (2, .b (.one (.sl 5 (v.map eHolding)))), (7, I (v.length : Int)), (8, I (s.length : Int)), (22, B (decide (i = (s.length : Int))))], [(1, .row 59 5 (s.map eHolding))]⟩) rfl ?_
  refine Tri.cond rfl (fun hc => ?_) (fun hc => Tri.skip (Fin.then ?_))
  · have hi : i = (s.length : Int) := by simpa using hc
    refine Tri.seq (Tri.regionL ?_)
    refine OpsL.cons rfl (op_move rfl) ?_
    refine OpsL.cons rfl (op_move rfl) ?_
    refine OpsL.cons rfl (op_append (es' := (s ++ v).map eHolding) tySl42 (by simp only [List.length_map]; omega) (by simp only [List.length_map]; omega) rfl rfl rfl List.map_append.symm rfl) ?_
    refine OpsL.cons rfl (op_assign rfl) ?_
    have e : s.take i.toNat ++ v ++ s.drop i.toNat = s ++ v := by rw [List.take_of_length_le (by omega), List.drop_of_length_le (by omega), List.append_nil]
    rw [e]
    refine OpsL.nilK [6] [1] (s' := ⟨[(6, .b (.row 1))], [(1, .row 59 5 ((s ++ v).map eHolding))]⟩) rfl ?_
    refine Tri.ret (Fin.then_ret ?_)
    exact Fin.result [.row 1] (.inl rfl) rfl (.cons (.tmp rfl) .nil) ⟨rfl, rfl⟩
  · have hi : i < (s.length : Int) := by
      have : i ≠ (s.length : Int) := by simpa using hc
      omega
    have hin : i.toNat < s.length := by omega
    have hw1 : IntKind.i64.wrap ((s.length : Int) + (v.length : Int)) = (s.length : Int) + 1 := by rw [hv]; exact wrap_of_inR (inR_i64 (by omega) (by omega))
    refine Tri.seq (Tri.seq (Tri.regionL ?_))
    refine OpsL.cons rfl (op_move rfl) ?_
    refine OpsL.cons rfl (op_move rfl) ?_
    refine OpsL.cons rfl (op_add rfl rfl) ?_
    rw [hw1]
    refine OpsL.cons rfl (op_move rfl) ?_
    refine OpsL.toPart 1 rfl (by simp only [List.length_map]; omega) (fun c hc1 hc2 => ?_)
    simp only [List.length_map] at hc1
    refine OpsL.cons rfl (op_cap_part und42 (by omega) rfl) ?_
    refine OpsL.cons rfl (op_gtr rfl rfl) ?_
    refine OpsL.nilK [0, 1, 2, 7, 8, 31] [1] (s' := ⟨[(0, .b (.part 1 5 0 (s.map eHolding).length c)), (1, I i), (2, .b (.one (.sl 5 (v.map eHolding)))), (7, I (v.length : Int)), (8, I (s.length : Int)), (31, B (decide (((c - 0 : Nat) : Int) < (s.length : Int) + 1)))], [(1, .row 59 5 (s.map eHolding))]⟩) rfl ?_
    refine Tri.cond rfl (fun hc => ?_) (fun hc => Tri.skip (Fin.then ?_))
    · have hcl : c < s.length + 1 := by simp at hc; omega
      have hN : IntKind.i64.wrap ((s.length : Int) + 1 - i) = ((s.length + 1 - i.toNat : Nat) : Int) := by rw [wrap_of_inR (inR_i64 (by omega) (by omega))]; omega
      refine Tri.seq (Tri.regionL ?_)
      refine OpsL.cons rfl (op_move rfl) ?_
      refine OpsL.cons rfl (op_move rfl) ?_
      refine OpsL.cons rfl (op_slice_ph tySl42 h0 (by omega) rfl rfl) ?_
      refine OpsL.cons rfl (op_move rfl) ?_
      refine OpsL.cons rfl (op_move rfl) ?_
      refine OpsL.cons rfl (op_add rfl rfl) ?_
      rw [hw1]
      refine OpsL.cons rfl (op_move rfl) ?_
      refine OpsL.cons rfl (op_sub rfl rfl) ?_
      rw [hN]
      refine OpsL.cons rfl (op_append_zeros (k2 := 2) (N := s.length + 1 - i.toNat) tySl42 undi3 (by omega) (by omega) (by omega) (by omega) (by simp only [List.length_map]; omega) rfl (map_zeros s eHolding i.toNat (s.length + 1 - i.toNat) (⟨0, 0, 0, 0, []⟩ : Holding)) rfl rfl rfl rfl) ?_
      refine OpsL.cons rfl (op_assign rfl) ?_
      generalize hes : s.take i.toNat ++ List.replicate (s.length + 1 - i.toNat) (⟨0, 0, 0, 0, []⟩ : Holding) = es
      have hesl : es.length = s.length + 1 := by rw [← hes]; simp; omega
      refine OpsL.nilK [0, 1, 2, 7, 9] [1, 2] (s' := ⟨[(0, .b (.part 1 5 0 (s.map eHolding).length c)), (1, I i), (2, .b (.one (.sl 5 (v.map eHolding)))), (7, I (v.length : Int)), (9, .b (.row 2))], [(1, .row 59 5 (s.map eHolding)), (2, .row 59 5 (es.map eHolding))]⟩) rfl ?_
      refine Tri.seq (Tri.regionL ?_)
      refine OpsL.toPart 2 rfl (by simp only [List.length_map]; omega) (fun c2 hd1 hd2 => ?_)
      simp only [List.length_map] at hd1
      refine OpsL.cons rfl (op_move rfl) ?_
      refine OpsL.cons rfl (op_move rfl) ?_
      refine OpsL.cons rfl (op_slice_pl tySl42 h0 (by simp only [List.length_map]; omega) (by omega) rfl rfl) ?_
      refine OpsL.cons rfl (op_move rfl) ?_
      refine OpsL.cons rfl (op_copy_sl tySl42 (by simp only [List.length_map]; omega) (by simp only [List.length_map]; omega) (by simp only [List.length_map]; omega) (by simp only [List.length_map]; omega) rfl rfl rfl (map_spliceE _ _ _ _) rfl rfl (by simp only [List.length_map]; omega)) ?_
      rw [Nat.zero_add]
      generalize hes2 : spliceE es i.toNat v = es2
      have hesl2 : es2.length = s.length + 1 := by rw [← hes2, spliceE_len (by omega)]; omega
      refine OpsL.nilK [0, 1, 7, 9] [1, 2] (s' := ⟨[(0, .b (.part 1 5 0 (s.map eHolding).length c)), (1, I i), (7, I (v.length : Int)), (9, .b (.part 2 5 0 (es.map eHolding).length c2))], [(1, .row 59 5 (s.map eHolding)), (2, .row 59 5 (es2.map eHolding))]⟩) rfl ?_
      refine Tri.seq ?_
      have hw2 : IntKind.i64.wrap (i + (v.length : Int)) = i + 1 := by rw [hv]; exact wrap_of_inR (inR_i64 (by omega) (by omega))
      refine Tri.regionZ mixed [.b (.part 2 5 0 (es.map eHolding).length c2), I i, I (v.length : Int), I (IntKind.i64.wrap (i + (v.length : Int))), .b (.part 2 5 (0 + (IntKind.i64.wrap (i + (v.length : Int))).toNat) ((es.map eHolding).length - (IntKind.i64.wrap (i + (v.length : Int))).toNat) c2), .b (.part 1 5 0 (s.map eHolding).length c), I i, .b (.part 1 5 (0 + i.toNat) ((s.map eHolding).length - i.toNat) c)] [9] [2] (s' := ⟨[(9, .b (.part 2 5 0 (es.map eHolding).length c2))], [(2, .row 59 5 ((spliceE es2 (0 + (IntKind.i64.wrap (i + (v.length : Int))).toNat) ((s.drop (0 + i.toNat)).take (s.length - i.toNat))).map eHolding))]⟩) (by simp) rfl rfl
        ⟨fun _ => .plain rfl (op_move rfl), fun _ => .plain rfl (op_move rfl), fun _ => .plain rfl (op_move rfl), fun _ => .plain rfl (op_add rfl rfl), fun _ => .plain rfl (op_slice_pl tySl42 (by rw [hw2]; omega) (by rw [hw2]; simp only [List.length_map]; omega) (by rw [hw2]; omega) rfl rfl), fun _ => .plain rfl (op_move rfl), fun _ => .plain rfl (op_move rfl), fun _ => .plain rfl (op_slice_pl tySl42 h0 (by simp only [List.length_map]; omega) (by omega) rfl rfl), trivial⟩
        (.plain rfl (op_copy_part (m := s.length - i.toNat) tySl42 (by rw [hw2]; simp only [List.length_map]; omega) (by rw [hw2]; omega) (by rw [hw2]; simp only [List.length_map]; omega) (by simp only [List.length_map]; omega) rfl rfl rfl rfl (map_spliceP _ _ _ _ _ _) rfl rfl (by omega))) rfl ?_
      have hfin : spliceE es2 (0 + (IntKind.i64.wrap (i + (v.length : Int))).toNat) ((s.drop (0 + i.toNat)).take (s.length - i.toNat)) = s.take i.toNat ++ v ++ s.drop i.toNat := by
        rw [hw2, Nat.zero_add, Nat.zero_add, ← hes2, ← hes]
        have e1 : (i + 1).toNat = i.toNat + 1 := by omega
        rw [e1]
        exact ins_grow hin hv
      rw [hfin]
      refine Tri.seq (Tri.regionL ?_)
      refine OpsL.cons rfl (op_move rfl) ?_
      refine OpsL.cons rfl (op_assign rfl) ?_
      refine OpsL.nilK [6] [2] (s' := ⟨[(6, .b (.part 2 5 0 (es.map eHolding).length c2))], [(2, .row 59 5 ((s.take i.toNat ++ v ++ s.drop i.toNat).map eHolding))]⟩) rfl ?_
      refine Tri.ret (Fin.then_ret ?_)
      refine Fin.partrow 6 2 rfl rfl (by simp only [List.length_map, List.length_append, List.length_take, List.length_drop]; omega) ?_
      refine Fin.rename 2 1 rfl (by decide) rfl ?_
      refine Fin.keep [6] [1] (s' := ⟨[(6, .b (.row 1))], [(1, .row 59 5 ((s.take i.toNat ++ v ++ s.drop i.toNat).map eHolding))]⟩) rfl ?_
      exact Fin.result [.row 1] (.inl rfl) rfl (.cons (.tmp rfl) .nil) ⟨rfl, rfl⟩
    · have hcl : s.length + 1 ≤ c := by simp at hc; omega
      refine Tri.seq (Tri.regionL ?_)
      refine OpsL.cons rfl (op_move rfl) ?_
      refine OpsL.cons rfl (op_move rfl) ?_
      refine OpsL.cons rfl (op_move rfl) ?_
      refine OpsL.cons rfl (op_add rfl rfl) ?_
      rw [hw1]
      refine OpsL.cons rfl (op_slice_ph tySl42 (by omega) (by omega) rfl rfl) ?_
      refine OpsL.cons rfl (op_assign rfl) ?_
      have e2 : ((s.length : Int) + 1).toNat = s.length + 1 := by omega
      rw [e2]
      refine OpsL.nilK [0, 1, 2, 7] [1] (s' := ⟨[(0, .b (.part 1 5 0 (s.length + 1) c)), (1, I i), (2, .b (.one (.sl 5 (v.map eHolding)))), (7, I (v.length : Int))], [(1, .row 59 5 (s.map eHolding))]⟩) rfl ?_
      have hw2 : IntKind.i64.wrap (i + (v.length : Int)) = i + 1 := by rw [hv]; exact wrap_of_inR (inR_i64 (by omega) (by omega))
      refine Tri.seq (Tri.seq (Tri.regionL ?_))
      refine OpsL.cons rfl (op_move rfl) ?_
      refine OpsL.cons rfl (op_move rfl) ?_
      refine OpsL.cons rfl (op_move rfl) ?_
      refine OpsL.cons rfl (op_move rfl) ?_
      refine OpsL.cons rfl (op_add rfl rfl) ?_
      rw [hw2]
      have e3 : (i + 1).toNat = i.toNat + 1 := by omega
      refine OpsL.cons rfl (op_slice_pl tySl42 (by omega) (by omega) (by omega) rfl rfl) ?_
      rw [e3]
      refine OpsL.cons rfl (op_overlaps ext65 tySl42 (by simp only [List.length_map]; omega) rfl rfl rfl (by simp only [List.length_map]; omega)) ?_
      refine OpsL.cons rfl (op_not rfl) ?_
      refine OpsL.nilK [0, 1, 2, 7, 68] [1] (s' := ⟨[(0, .b (.part 1 5 0 (s.length + 1) c)), (1, I i), (2, .b (.one (.sl 5 (v.map eHolding)))), (7, I (v.length : Int)), (68, B true)], [(1, .row 59 5 (s.map eHolding))]⟩) rfl ?_
      refine Tri.cond rfl (fun _ => ?_) (fun hc => absurd hc (by simp))
      refine Tri.seq ?_
      refine Tri.regionZ mixed [.b (.part 1 5 0 (s.length + 1) c), I i, I (v.length : Int), I (IntKind.i64.wrap (i + (v.length : Int))), .b (.part 1 5 (0 + (IntKind.i64.wrap (i + (v.length : Int))).toNat) (s.length + 1 - (IntKind.i64.wrap (i + (v.length : Int))).toNat) c), .b (.part 1 5 0 (s.length + 1) c), I i, .b (.part 1 5 (0 + i.toNat) (s.length + 1 - i.toNat) c)] [0, 1, 2] [1] (s' := ⟨[(0, .b (.part 1 5 0 (s.length + 1) c)), (1, I i), (2, .b (.one (.sl 5 (v.map eHolding))))], [(1, .row 59 5 ((spliceE s (0 + (IntKind.i64.wrap (i + (v.length : Int))).toNat) ((s.drop (0 + i.toNat)).take (s.length - i.toNat))).map eHolding))]⟩) (by simp) rfl rfl
        ⟨fun _ => .plain rfl (op_move rfl), fun _ => .plain rfl (op_move rfl), fun _ => .plain rfl (op_move rfl), fun _ => .plain rfl (op_add rfl rfl), fun _ => .plain rfl (op_slice_pl tySl42 (by rw [hw2]; omega) (by rw [hw2]; omega) (by rw [hw2]; omega) rfl rfl), fun _ => .plain rfl (op_move rfl), fun _ => .plain rfl (op_move rfl), fun _ => .plain rfl (op_slice_pl tySl42 h0 (by omega) (by omega) rfl rfl), trivial⟩
        (.plain rfl (op_copy_part (m := s.length - i.toNat) tySl42 (by rw [hw2]; simp only [List.length_map]; omega) (by rw [hw2]; omega) (by rw [hw2]; omega) (by simp only [List.length_map]; omega) rfl rfl rfl rfl (map_spliceP _ _ _ _ _ _) rfl rfl (by omega))) rfl ?_
      rw [hw2, e3]
      generalize hes : spliceE s (0 + (i.toNat + 1)) ((s.drop (0 + i.toNat)).take (s.length - i.toNat)) = es
      have hesl : es.length = s.length + 1 := by rw [← hes, spliceE_len (by omega)]; simp; omega
      refine Tri.seq (Tri.regionL ?_)
      refine OpsL.cons rfl (op_move rfl) ?_
      refine OpsL.cons rfl (op_move rfl) ?_
      refine OpsL.cons rfl (op_slice_pl tySl42 h0 (by omega) (by omega) rfl rfl) ?_
      refine OpsL.cons rfl (op_move rfl) ?_
      refine OpsL.cons rfl (op_copy_sl tySl42 (by simp only [List.length_map]; omega) (by simp only [List.length_map]; omega) (by simp only [List.length_map]; omega) (by simp only [List.length_map]; omega) rfl rfl rfl (map_spliceE _ _ _ _) rfl rfl (by simp only [List.length_map]; omega)) ?_
      have hfin : spliceE es (0 + i.toNat) v = s.take i.toNat ++ v ++ s.drop i.toNat := by
        rw [Nat.zero_add, ← hes, Nat.zero_add, Nat.zero_add]
        exact ins_place hin hv
      rw [hfin]
      refine OpsL.nilK [0] [1] (s' := ⟨[(0, .b (.part 1 5 0 (s.length + 1) c))], [(1, .row 59 5 ((s.take i.toNat ++ v ++ s.drop i.toNat).map eHolding))]⟩) rfl ?_
      refine Tri.seq (Tri.regionL ?_)
      refine OpsL.cons rfl (op_move rfl) ?_
      refine OpsL.cons rfl (op_assign rfl) ?_
      refine OpsL.nilK [6] [1] (s' := ⟨[(6, .b (.part 1 5 0 (s.length + 1) c))], [(1, .row 59 5 ((s.take i.toNat ++ v ++ s.drop i.toNat).map eHolding))]⟩) rfl ?_
      refine Tri.ret (Fin.then_ret ?_)
      refine Fin.partrow 6 1 rfl rfl (by simp only [List.length_map, List.length_append, List.length_take, List.length_drop]; omega) ?_
      exact Fin.result [.row 1] (.inl rfl) rfl (.cons (.tmp rfl) .nil) ⟨rfl, rfl⟩


def region_set_S (F : Nat) (l0 : List Holding) (h0 : Holding) : Option (List Holding) :=
 Option.bind (slices_Clone_S F l0) (fun x_1 => Option.bind (region_place_S F x_1 h0.Body) (un2 fun x_2 x_3 => if x_3 = true then (Option.bind (idx? x_1 x_2) (fun x_4 => some (x_1.set (x_2 : Int).toNat h0))) else (Option.bind (slices_Insert_S F x_2 [h0] x_1) (fun x_5 => some x_5))))
theorem region_set_spec (k0 : Nat) {F : Nat} {l0 : List Holding} {h0 : Holding} {r : (List Holding)} (h : region_set_S F l0 h0 = some r) : Meets Try.prog 46 [] [.one (.sl 5 (l0.map eHolding)), .agg (eHolding h0)] (Is [(k0, .row 59 5 (r.map eHolding))] (.b (.row k0))) := by
  unfold region_set_S at h
  refine Meets.intro 28 Try.func46 Try.ntmps46 rfl (by simp) fun E => ?_
  show Tri _ E ⟨28, [], []⟩ _ ⟨[(0, .b (.one (.sl 5 (l0.map eHolding)))), (1, .b (.agg [.i h0.Body, .i h0.Epoch, .i h0.Phase, .i h0.Peer, .str h0.Data]))], []⟩ _
  refine Tri.seq ?_
  refine Tri.regionL ?_
  refine OpsL.cons rfl (op_box (k := 101) rfl rfl) ?_
  refine OpsL.cons rfl (op_assign rfl) ?_
  refine OpsL.nilK [0, 3] [101] (s' := ⟨[(0, .b (.one (.sl 5 (l0.map eHolding)))), (3, .b (.ptr 101 0))], [(101, .box 59 [.i h0.Body, .i h0.Epoch, .i h0.Phase, .i h0.Peer, .str h0.Data])]⟩) rfl ?_
  refine Tri.seq ?_
  refine Tri.regionL ?_
  refine OpsL.cons rfl (op_move rfl) ?_
  obtain ⟨x_1, e1, h⟩ := bnd h
  refine OpsL.cons rfl (op_call (slices_Clone_spec 102 e1) goes52 rfl trivial rfl rfl) ?_
  refine OpsL.cons rfl (op_assign rfl) ?_
  refine OpsL.nilK [3, 5] [101, 102] (s' := ⟨[(3, .b (.ptr 101 0)), (5, .b (.row 102))], [(101, .box 59 [.i h0.Body, .i h0.Epoch, .i h0.Phase, .i h0.Peer, .str h0.Data]), (102, .row 59 5 (x_1.map eHolding))]⟩) rfl ?_
  refine Tri.seq ?_
  refine Tri.regionL ?_
  refine OpsL.cons rfl (op_move rfl) ?_
  refine OpsL.cons rfl (op_field_p tyFld59_0 rfl rfl) ?_
  refine OpsL.cons rfl (op_load_p1 tyOne3 rfl rfl rfl) ?_
  obtain ⟨⟨x_2, x_3⟩, e2, h⟩ := bnd h
  refine OpsL.cons rfl (op_callB (region_place_spec e2) goes45 rfl (flat_tup ⟨CP.flat_int, CP.flat_bool, trivial⟩)) ?_
  refine OpsL.cons rfl (op_move rfl) ?_
  refine OpsL.keep [3, 5, 10] [101, 102] (s' := ⟨[(3, .b (.ptr 101 0)), (5, .b (.row 102)), (10, .tup [.one (.i x_2), .one (.bool x_3)])], [(101, .box 59 [.i h0.Body, .i h0.Epoch, .i h0.Phase, .i h0.Peer, .str h0.Data]), (102, .row 59 5 (x_1.map eHolding))]⟩) rfl ?_
  refine OpsL.cons rfl (op_extract rfl rfl) ?_
  refine OpsL.cons rfl (op_extract rfl rfl) ?_
  refine OpsL.cons rfl (op_assign rfl) ?_
  refine OpsL.cons rfl (op_assign rfl) ?_
  refine OpsL.nilK [3, 5, 6, 7] [101, 102] (s' := ⟨[(3, .b (.ptr 101 0)), (5, .b (.row 102)), (6, I x_2), (7, B x_3)], [(101, .box 59 [.i h0.Body, .i h0.Epoch, .i h0.Phase, .i h0.Peer, .str h0.Data]), (102, .row 59 5 (x_1.map eHolding))]⟩) rfl ?_
  refine Tri.seq ?_
  refine Tri.seq ?_
  refine Tri.regionL ?_
  refine OpsL.cons rfl (op_move rfl) ?_
  refine OpsL.nilK [3, 5, 6, 17] [101, 102] (s' := ⟨[(3, .b (.ptr 101 0)), (5, .b (.row 102)), (6, I x_2), (17, B x_3)], [(101, .box 59 [.i h0.Body, .i h0.Epoch, .i h0.Phase, .i h0.Peer, .str h0.Data]), (102, .row 59 5 (x_1.map eHolding))]⟩) rfl ?_
  refine Tri.ite h rfl (fun _ h => ?_) (fun _ h => ?_)
  · refine Tri.seq ?_
    refine Tri.regionL ?_
    refine OpsL.cons rfl (op_move rfl) ?_
    refine OpsL.cons rfl (op_move rfl) ?_
    refine OpsL.cons rfl (op_load_p tyAgg59 rfl rfl rfl rfl) ?_
    obtain ⟨x_4, e3, h⟩ := bnd h
    refine OpsL.cons rfl (op_index_r tySl42 (ix_lo e3) (ix_lt' e3) rfl rfl rfl rfl) ?_
    refine OpsL.cons rfl (op_store_r (i := (x_2 : Int).toNat) tyAgg59 rfl rfl rfl rfl (ix_lt e3) (map_set _ _ _ _)) ?_
    refine OpsL.nilK [5] [102] (s' := ⟨[(5, .b (.row 102))], [(102, .row 59 5 ((x_1.set (x_2 : Int).toNat h0).map eHolding))]⟩) rfl ?_
    refine Tri.seq ?_
    refine Tri.regionL ?_
    refine OpsL.cons rfl (op_move rfl) ?_
    refine OpsL.cons rfl (op_assign rfl) ?_
    refine OpsL.nilK [4] [102] (s' := ⟨[(4, .b (.row 102))], [(102, .row 59 5 ((x_1.set (x_2 : Int).toNat h0).map eHolding))]⟩) rfl ?_
    refine Tri.ret ?_
    refine Fin.then_ret ?_
    obtain rfl := Option.some.inj h
    refine Fin.keep [4] [102] (s' := ⟨[(4, .b (.row 102))], [(102, .row 59 5 ((x_1.set (x_2 : Int).toNat h0).map eHolding))]⟩) rfl ?_
    refine Fin.resultK 102 k0 [.row 102] (.inl rfl) rfl (.cons (.tmp rfl) .nil) rfl rfl rfl rfl ⟨rfl, rfl⟩
  · refine Tri.skip ?_
    refine Fin.keep [3, 5, 6] [101, 102] (s' := ⟨[(3, .b (.ptr 101 0)), (5, .b (.row 102)), (6, I x_2)], [(101, .box 59 [.i h0.Body, .i h0.Epoch, .i h0.Phase, .i h0.Peer, .str h0.Data]), (102, .row 59 5 (x_1.map eHolding))]⟩) rfl ?_
    refine Fin.then ?_
    refine Tri.seq ?_
    refine Tri.regionL ?_
    refine OpsL.cons rfl (op_move rfl) ?_
    refine OpsL.cons rfl (op_move rfl) ?_
    refine OpsL.cons rfl (op_load_p tyAgg59 rfl rfl rfl rfl) ?_
    refine OpsL.cons rfl (op_buildSlice (k := 103) (es := [h0].map eHolding) tySl42 rfl rfl (uni_map fun _ => rfl) rfl (by decide) (by decide) rfl) ?_
    refine OpsL.persist 103 rfl ?_
    obtain ⟨x_5, e4, h⟩ := bnd h
    refine OpsL.cons rfl (op_call (own_a := [(102, _)]) ((slices_Insert_spec e4).sw 1 102) goes59 rfl ⟨rfl, trivial⟩ rfl rfl) ?_
    refine OpsL.cons rfl (op_assign rfl) ?_
    refine OpsL.nilK [4] [102] (s' := ⟨[(4, .b (.row 102))], [(102, .row 59 5 (x_5.map eHolding))]⟩) rfl ?_
    refine Tri.ret ?_
    obtain rfl := Option.some.inj h
    refine Fin.keep [4] [102] (s' := ⟨[(4, .b (.row 102))], [(102, .row 59 5 (x_5.map eHolding))]⟩) rfl ?_
    refine Fin.resultK 102 k0 [.row 102] (.inl rfl) rfl (.cons (.tmp rfl) .nil) rfl rfl rfl rfl ⟨rfl, rfl⟩

def region_Begin_S (F : Nat) (l0 : List Holding) (body0 : Int) (data0 : Str) : Option ((List Holding) × Int) :=
 Option.bind (region_known_S F body0) (fun x_1 => if (!x_1) = true then (some ([], 1)) else (Option.bind (region_place_S F l0 body0) (un2 fun x_2 x_3 => if x_3 = true then (some ([], 6)) else (Option.bind (region_set_S F l0 (⟨body0, 0, 1, 0, data0⟩ : Holding)) (fun x_4 => some (x_4, 0))))))
theorem region_Begin_spec (k0 : Nat) {F : Nat} {l0 : List Holding} {body0 : Int} {data0 : Str} {r : (List Holding) × Int} (h : region_Begin_S F l0 body0 data0 = some r) : Meets Try.prog 21 [] [.one (.sl 5 (l0.map eHolding)), .one (.i body0), .one (.str data0)] (Is [(k0, .row 59 5 (r.1.map eHolding))] (.tup [.row k0, .one (.i r.2)])) := by
  unfold region_Begin_S at h
  refine Meets.intro 25 Try.func21 Try.ntmps21 rfl (by simp) fun E => ?_
  show Tri _ E ⟨25, [], []⟩ _ ⟨[(0, .b (.one (.sl 5 (l0.map eHolding)))), (1, I body0), (2, .b (.one (.str data0)))], []⟩ _
  refine Tri.seq ?_
  refine Tri.regionL ?_
  refine OpsL.cons rfl (op_assign rfl) ?_
  refine OpsL.cons rfl (op_assign rfl) ?_
  refine OpsL.nilK [0, 1, 2] [] (s' := ⟨[(0, .b (.one (.sl 5 (l0.map eHolding)))), (1, I body0), (2, .b (.one (.str data0)))], []⟩) rfl ?_
  refine Tri.seq ?_
  refine Tri.seq ?_
  refine Tri.regionL ?_
  refine OpsL.cons rfl (op_move rfl) ?_
  obtain ⟨x_1, e1, h⟩ := bnd h
  refine OpsL.cons rfl (op_call0 (region_known_spec e1) goes44 rfl rfl) ?_
  refine OpsL.cons rfl (op_not rfl) ?_
  refine OpsL.nilK [0, 1, 2, 12] [] (s' := ⟨[(0, .b (.one (.sl 5 (l0.map eHolding)))), (1, I body0), (2, .b (.one (.str data0))), (12, B (!x_1))], []⟩) rfl ?_
  refine Tri.ite h rfl (fun _ h => ?_) (fun _ h => ?_)
  · refine Tri.seq ?_
    refine Tri.regionL ?_
    refine OpsL.cons rfl (op_assign rfl) ?_
    refine OpsL.cons rfl (op_assign rfl) ?_
    refine OpsL.nilK [6, 7] [] (s' := ⟨[(6, .b (.one (.nil))), (7, I 1)], []⟩) rfl ?_
    refine Tri.ret ?_
    refine Fin.then_ret ?_
    obtain rfl := Option.some.inj h
    refine Fin.keep [6, 7] [] (s' := ⟨[(6, .b (.one (.nil))), (7, I 1)], []⟩) rfl ?_
    refine Fin.nilrow 6 101 5 59 rfl (by decide) rfl ?_
    refine Fin.resultK 101 k0 [.row 101, .one (.i 1)] (.inl rfl) rfl (.cons (.tmp rfl) (.cons (.tmp rfl) .nil)) rfl rfl rfl rfl ⟨rfl, rfl⟩
  · refine Tri.skip ?_
    refine Fin.keep [0, 1, 2] [] (s' := ⟨[(0, .b (.one (.sl 5 (l0.map eHolding)))), (1, I body0), (2, .b (.one (.str data0)))], []⟩) rfl ?_
    refine Fin.then ?_
    refine Tri.seq ?_
    refine Tri.seq ?_
    refine Tri.regionL ?_
    refine OpsL.cons rfl (op_move rfl) ?_
    refine OpsL.cons rfl (op_move rfl) ?_
    obtain ⟨⟨x_2, x_3⟩, e2, h⟩ := bnd h
    refine OpsL.cons rfl (op_call0 (region_place_spec e2) goes45 rfl rfl) ?_
    refine OpsL.cons rfl (op_move rfl) ?_
    refine OpsL.cons rfl (op_extract rfl rfl) ?_
    refine OpsL.keep [0, 1, 2, 13, 17] [] (s' := ⟨[(0, .b (.one (.sl 5 (l0.map eHolding)))), (1, I body0), (2, .b (.one (.str data0))), (13, .tup [.one (.i x_2), .one (.bool x_3)]), (17, I x_2)], []⟩) rfl ?_
    refine OpsL.cons rfl (op_extract rfl rfl) ?_
    refine OpsL.cons rfl (op_assign rfl) ?_
    refine OpsL.cons rfl (op_assign rfl) ?_
    refine OpsL.nilK [0, 1, 2, 9] [] (s' := ⟨[(0, .b (.one (.sl 5 (l0.map eHolding)))), (1, I body0), (2, .b (.one (.str data0))), (9, B x_3)], []⟩) rfl ?_
    refine Tri.seq ?_
    refine Tri.regionL ?_
    refine OpsL.cons rfl (op_move rfl) ?_
    refine OpsL.nilK [0, 1, 2, 19] [] (s' := ⟨[(0, .b (.one (.sl 5 (l0.map eHolding)))), (1, I body0), (2, .b (.one (.str data0))), (19, B x_3)], []⟩) rfl ?_
    refine Tri.ite h rfl (fun _ h => ?_) (fun _ h => ?_)
    · refine Tri.seq ?_
      refine Tri.regionL ?_
      refine OpsL.cons rfl (op_assign rfl) ?_
      refine OpsL.cons rfl (op_assign rfl) ?_
      refine OpsL.nilK [6, 7] [] (s' := ⟨[(6, .b (.one (.nil))), (7, I 6)], []⟩) rfl ?_
      refine Tri.ret ?_
      refine Fin.then_ret ?_
      obtain rfl := Option.some.inj h
      refine Fin.keep [6, 7] [] (s' := ⟨[(6, .b (.one (.nil))), (7, I 6)], []⟩) rfl ?_
      refine Fin.nilrow 6 102 5 59 rfl (by decide) rfl ?_
      refine Fin.resultK 102 k0 [.row 102, .one (.i 6)] (.inl rfl) rfl (.cons (.tmp rfl) (.cons (.tmp rfl) .nil)) rfl rfl rfl rfl ⟨rfl, rfl⟩
    · refine Tri.skip ?_
      refine Fin.keep [0, 1, 2] [] (s' := ⟨[(0, .b (.one (.sl 5 (l0.map eHolding)))), (1, I body0), (2, .b (.one (.str data0)))], []⟩) rfl ?_
      refine Fin.then ?_
      refine Tri.seq ?_
      refine Tri.regionL ?_
      refine OpsL.cons rfl (op_move rfl) ?_
      refine OpsL.cons rfl (op_move rfl) ?_
      refine OpsL.cons rfl (op_move rfl) ?_
      refine OpsL.cons rfl (op_build tyBuild59 rfl rfl) ?_
      obtain ⟨x_4, e3, h⟩ := bnd h
      refine OpsL.cons rfl (op_call (region_set_spec 103 e3) goes46 rfl trivial rfl rfl) ?_
      refine OpsL.cons rfl (op_assign rfl) ?_
      refine OpsL.cons rfl (op_assign rfl) ?_
      refine OpsL.nilK [6, 7] [103] (s' := ⟨[(6, .b (.row 103)), (7, I 0)], [(103, .row 59 5 (x_4.map eHolding))]⟩) rfl ?_
      refine Tri.ret ?_
      obtain rfl := Option.some.inj h
      refine Fin.keep [6, 7] [103] (s' := ⟨[(6, .b (.row 103)), (7, I 0)], [(103, .row 59 5 (x_4.map eHolding))]⟩) rfl ?_
      refine Fin.resultK 103 k0 [.row 103, .one (.i 0)] (.inl rfl) rfl (.cons (.tmp rfl) (.cons (.tmp rfl) .nil)) rfl rfl rfl rfl ⟨rfl, rfl⟩

def region_Get_S (F : Nat) (l0 : List Holding) (body0 : Int) : Option Holding :=
 Option.bind (region_place_S F l0 body0) (un2 fun x_1 x_2 => if x_2 = true then (Option.bind (idx? l0 x_1) (fun x_3 => some x_3)) else (some (⟨body0, 0, 0, 0, []⟩ : Holding)))
theorem region_Get_spec {F : Nat} {l0 : List Holding} {body0 : Int} {r : Holding} (h : region_Get_S F l0 body0 = some r) : Meets Try.prog 30 [] [.one (.sl 5 (l0.map eHolding)), .one (.i body0)] (Is [] (.b (.agg (eHolding r)))) := by
  unfold region_Get_S at h
  refine Meets.intro 20 Try.func30 Try.ntmps30 rfl (by simp) fun E => ?_
  show Tri _ E ⟨20, [], []⟩ _ ⟨[(0, .b (.one (.sl 5 (l0.map eHolding)))), (1, I body0)], []⟩ _
  refine Tri.seq ?_
  refine Tri.regionL ?_
  refine OpsL.cons rfl (op_alloc (k := 101) tyZero59 rfl) ?_
  refine OpsL.nilK [0, 1, 4] [101] (s' := ⟨[(0, .b (.one (.sl 5 (l0.map eHolding)))), (1, I body0), (4, .b (.ptr 101 0))], [(101, .box 59 [.i 0, .i 0, .i 0, .i 0, .str []])]⟩) rfl ?_
  refine Tri.seq ?_
  refine Tri.seq ?_
  refine Tri.regionL ?_
  refine OpsL.cons rfl (op_move rfl) ?_
  refine OpsL.cons rfl (op_move rfl) ?_
  obtain ⟨⟨x_1, x_2⟩, e1, h⟩ := bnd h
  refine OpsL.cons rfl (op_call0 (region_place_spec e1) goes45 rfl rfl) ?_
  refine OpsL.cons rfl (op_move rfl) ?_
  refine OpsL.cons rfl (op_extract rfl rfl) ?_
  refine OpsL.keep [0, 1, 4, 7, 11] [101] (s' := ⟨[(0, .b (.one (.sl 5 (l0.map eHolding)))), (1, I body0), (4, .b (.ptr 101 0)), (7, .tup [.one (.i x_1), .one (.bool x_2)]), (11, I x_1)], [(101, .box 59 [.i 0, .i 0, .i 0, .i 0, .str []])]⟩) rfl ?_
  refine OpsL.cons rfl (op_extract rfl rfl) ?_
  refine OpsL.cons rfl (op_assign rfl) ?_
  refine OpsL.cons rfl (op_assign rfl) ?_
  refine OpsL.nilK [0, 1, 4, 5, 6] [101] (s' := ⟨[(0, .b (.one (.sl 5 (l0.map eHolding)))), (1, I body0), (4, .b (.ptr 101 0)), (5, I x_1), (6, B x_2)], [(101, .box 59 [.i 0, .i 0, .i 0, .i 0, .str []])]⟩) rfl ?_
  refine Tri.seq ?_
  refine Tri.regionL ?_
  refine OpsL.cons rfl (op_move rfl) ?_
  refine OpsL.nilK [0, 1, 4, 5, 13] [101] (s' := ⟨[(0, .b (.one (.sl 5 (l0.map eHolding)))), (1, I body0), (4, .b (.ptr 101 0)), (5, I x_1), (13, B x_2)], [(101, .box 59 [.i 0, .i 0, .i 0, .i 0, .str []])]⟩) rfl ?_
  refine Tri.ite h rfl (fun _ h => ?_) (fun _ h => ?_)
  · refine Tri.seq ?_
    refine Tri.regionL ?_
    refine OpsL.cons rfl (op_move rfl) ?_
    refine OpsL.cons rfl (op_move rfl) ?_
    obtain ⟨x_3, e2, h⟩ := bnd h
    refine OpsL.cons rfl (op_index_e tySl42 (ix_lo e2) (ix_map (e := eHolding) e2) rfl rfl) ?_
    refine OpsL.cons rfl (op_load_e tyAgg59 rfl rfl rfl) ?_
    refine OpsL.cons rfl (op_store_p tyAgg59 rfl rfl rfl rfl (Nat.le_of_ble_eq_true rfl) rfl) ?_
    refine OpsL.nilK [4] [101] (s' := ⟨[(4, .b (.ptr 101 0))], [(101, .box 59 [.i x_3.Body, .i x_3.Epoch, .i x_3.Phase, .i x_3.Peer, .str x_3.Data])]⟩) rfl ?_
    refine Tri.ret ?_
    refine Fin.then_ret ?_
    obtain rfl := Option.some.inj h
    refine Fin.keep [4] [101] (s' := ⟨[(4, .b (.ptr 101 0))], [(101, .box 59 [.i x_3.Body, .i x_3.Epoch, .i x_3.Phase, .i x_3.Peer, .str x_3.Data])]⟩) rfl ?_
    refine Fin.result' [.agg [.i x_3.Body, .i x_3.Epoch, .i x_3.Phase, .i x_3.Peer, .str x_3.Data]] (.inl rfl) rfl (.cons (.agg tyAgg59 rfl rfl rfl rfl) .nil) ⟨rfl, rfl⟩
  · refine Tri.skip ?_
    refine Fin.keep [1, 4] [101] (s' := ⟨[(1, I body0), (4, .b (.ptr 101 0))], [(101, .box 59 [.i 0, .i 0, .i 0, .i 0, .str []])]⟩) rfl ?_
    refine Fin.then ?_
    refine Tri.seq ?_
    refine Tri.regionL ?_
    refine OpsL.cons rfl (op_move rfl) ?_
    refine OpsL.cons rfl (op_build tyBuild59 rfl rfl) ?_
    refine OpsL.cons rfl (op_store_p tyAgg59 rfl rfl rfl rfl (Nat.le_of_ble_eq_true rfl) rfl) ?_
    refine OpsL.nilK [4] [101] (s' := ⟨[(4, .b (.ptr 101 0))], [(101, .box 59 [.i body0, .i 0, .i 0, .i 0, .str []])]⟩) rfl ?_
    refine Tri.ret ?_
    obtain rfl := Option.some.inj h
    refine Fin.keep [4] [101] (s' := ⟨[(4, .b (.ptr 101 0))], [(101, .box 59 [.i body0, .i 0, .i 0, .i 0, .str []])]⟩) rfl ?_
    refine Fin.result' [.agg [.i body0, .i 0, .i 0, .i 0, .str []]] (.inl rfl) rfl (.cons (.agg tyAgg59 rfl rfl rfl rfl) .nil) ⟨rfl, rfl⟩

def region_node_S (F : Nat) (n0 : Int) : Option Bool :=
 some ((decide (0 ≤ n0)) && (decide (n0 < 16)))
theorem region_node_spec {F : Nat} {n0 : Int} {r : Bool} (h : region_node_S F n0 = some r) : Meets Try.prog 47 [] [.one (.i n0)] (Is [] (.b (.one (.bool r)))) := by
  unfold region_node_S at h
  refine Meets.intro 9 Try.func47 Try.ntmps47 rfl (by simp) fun E => ?_
  show Tri _ E ⟨9, [], []⟩ _ ⟨[(0, I n0)], []⟩ _
  refine Tri.seq ?_
  refine Tri.regionL ?_
  refine OpsL.cons rfl (op_assign rfl) ?_
  refine OpsL.nilK [0] [] (s' := ⟨[(0, I n0)], []⟩) rfl ?_
  refine Tri.seq ?_
  refine Tri.regionL ?_
  refine OpsL.cons rfl (op_move rfl) ?_
  refine OpsL.cons rfl (op_geq rfl rfl) ?_
  refine OpsL.cons rfl (op_move rfl) ?_
  refine OpsL.consG (decide (0 ≤ n0)) 99 [] (.plain rfl) (eq_t _) rfl rfl (fun g1 => trivial) (fun g1 => op_move rfl) ?_
  refine OpsL.consG (decide (0 ≤ n0)) 99 [6] (.plain rfl) (eq_t _) rfl rfl (fun g2 => ⟨g2, trivial⟩) (fun g2 => op_lss rfl rfl) ?_
  refine OpsL.cons rfl (op_pick_and (fun e => e) rfl rfl rfl rfl) ?_
  refine OpsL.cons rfl (op_assign rfl) ?_
  refine OpsL.nilK [2] [] (s' := ⟨[(2, B ((decide (0 ≤ n0)) && (decide (n0 < 16))))], []⟩) rfl ?_
  refine Tri.ret ?_
  obtain rfl := Option.some.inj h
  refine Fin.keep [2] [] (s' := ⟨[(2, B ((decide (0 ≤ n0)) && (decide (n0 < 16))))], []⟩) rfl ?_
  refine Fin.result' [.one (.bool ((decide (0 ≤ n0)) && (decide (n0 < 16))))] (.inl rfl) rfl (.cons (.tmp rfl) .nil) ⟨rfl, rfl⟩

def region_Offer_S (F : Nat) (l0 : List Holding) (from0 : Int) (body0 : Int) (to0 : Int) : Option ((List Holding) × Int) :=
 Option.bind (region_Get_S F l0 body0) (fun x_1 => Option.bind (region_node_S F from0) (fun x_2 => Option.bind (gcall (!(!x_2)) (region_node_S F to0)) (fun x_3 => if (((!x_2) || (!x_3)) || (decide (from0 = to0))) = true then (some ([], 1)) else (if (decide (x_1.Phase ≠ 1)) = true then (some ([], 4)) else (if (decide (x_1.Epoch = 1099511627776)) = true then (some ([], 2)) else (Option.bind (region_set_S F l0 (⟨x_1.Body, IntKind.i64.wrap (x_1.Epoch + 1), 2, to0, x_1.Data⟩ : Holding)) (fun x_4 => some (x_4, 0))))))))
theorem region_Offer_spec (k0 : Nat) {F : Nat} {l0 : List Holding} {from0 : Int} {body0 : Int} {to0 : Int} {r : (List Holding) × Int} (h : region_Offer_S F l0 from0 body0 to0 = some r) : Meets Try.prog 23 [] [.one (.sl 5 (l0.map eHolding)), .one (.i from0), .one (.i body0), .one (.i to0)] (Is [(k0, .row 59 5 (r.1.map eHolding))] (.tup [.row k0, .one (.i r.2)])) := by
  unfold region_Offer_S at h
  refine Meets.intro 46 Try.func23 Try.ntmps23 rfl (by simp) fun E => ?_
  show Tri _ E ⟨46, [], []⟩ _ ⟨[(0, .b (.one (.sl 5 (l0.map eHolding)))), (1, I from0), (2, I body0), (3, I to0)], []⟩ _
  refine Tri.seq ?_
  refine Tri.regionL ?_
  refine OpsL.cons rfl (op_assign rfl) ?_
  refine OpsL.cons rfl (op_assign rfl) ?_
  refine OpsL.nilK [0, 1, 2, 3] [] (s' := ⟨[(0, .b (.one (.sl 5 (l0.map eHolding)))), (1, I from0), (2, I body0), (3, I to0)], []⟩) rfl ?_
  refine Tri.seq ?_
  refine Tri.regionL ?_
  refine OpsL.cons rfl (op_move rfl) ?_
  refine OpsL.cons rfl (op_move rfl) ?_
  obtain ⟨x_1, e1, h⟩ := bnd h
  refine OpsL.cons rfl (op_call0 (region_Get_spec e1) goes30 rfl rfl) ?_
  refine OpsL.cons rfl (op_alloc (k := 101) tyZero59 rfl) ?_
  refine OpsL.cons rfl (op_store_p tyAgg59 rfl rfl rfl rfl (Nat.le_of_ble_eq_true rfl) rfl) ?_
  refine OpsL.nilK [0, 1, 3, 10] [101] (s' := ⟨[(0, .b (.one (.sl 5 (l0.map eHolding)))), (1, I from0), (3, I to0), (10, .b (.ptr 101 0))], [(101, .box 59 [.i x_1.Body, .i x_1.Epoch, .i x_1.Phase, .i x_1.Peer, .str x_1.Data])]⟩) rfl ?_
  refine Tri.seq ?_
  refine Tri.block ?_
  refine Tri.seq ?_
  refine Tri.regionL ?_
  refine OpsL.cons rfl (op_move rfl) ?_
  obtain ⟨x_2, e2, h⟩ := bnd h
  refine OpsL.cons rfl (op_call0 (region_node_spec e2) goes47 rfl rfl) ?_
  refine OpsL.cons rfl (op_not rfl) ?_
  refine OpsL.cons rfl (op_move rfl) ?_
  refine OpsL.consG (!(!x_2)) 99 [] (.plain rfl) (eq_f _) rfl rfl (fun g3 => trivial) (fun g3 => op_move rfl) ?_
  refine OpsL.keep [0, 1, 3, 10, 18, 19] [101] (s' := ⟨[(0, .b (.one (.sl 5 (l0.map eHolding)))), (1, I from0), (3, I to0), (10, .b (.ptr 101 0)), (18, B (!x_2)), (19, .opt (!(!x_2)) (.one (.i to0)))], [(101, .box 59 [.i x_1.Body, .i x_1.Epoch, .i x_1.Phase, .i x_1.Peer, .str x_1.Data])]⟩) rfl ?_
  obtain ⟨x_3, e5, h⟩ := bnd h
  refine OpsL.consG (!(!x_2)) 99 [19] (.plain rfl) (eq_f _) rfl rfl (fun g4 => ⟨g4, trivial⟩) (fun g4 => op_call0 (region_node_spec (gc e5 g4)) goes47 rfl rfl) ?_
  refine OpsL.consG (!(!x_2)) 99 [20] (.plain rfl) (eq_f _) rfl rfl (fun g6 => ⟨g6, trivial⟩) (fun g6 => op_not rfl) ?_
  refine OpsL.cons rfl (op_pick_or (fun e => by rw [e]; rfl) rfl rfl rfl rfl) ?_
  refine OpsL.cons rfl (op_move rfl) ?_
  refine OpsL.consG (!((!x_2) || (!x_3))) 99 [] (.plain rfl) (eq_f _) rfl rfl (fun g7 => trivial) (fun g7 => op_move rfl) ?_
  refine OpsL.consG (!((!x_2) || (!x_3))) 99 [] (.plain rfl) (eq_f _) rfl rfl (fun g8 => trivial) (fun g8 => op_move rfl) ?_
  refine OpsL.consG (!((!x_2) || (!x_3))) 99 [24, 25] (.plain rfl) (eq_f _) rfl rfl (fun g9 => ⟨g9, g9, trivial⟩) (fun g9 => op_eql rfl rfl) ?_
  refine OpsL.cons rfl (op_pick_or (fun e => by rw [e]; rfl) rfl rfl rfl rfl) ?_
  refine OpsL.cons rfl (op_assign rfl) ?_
  refine OpsL.nilK [0, 3, 10, 14] [101] (s' := ⟨[(0, .b (.one (.sl 5 (l0.map eHolding)))), (3, I to0), (10, .b (.ptr 101 0)), (14, B (((!x_2) || (!x_3)) || (decide (from0 = to0))))], [(101, .box 59 [.i x_1.Body, .i x_1.Epoch, .i x_1.Phase, .i x_1.Peer, .str x_1.Data])]⟩) rfl ?_
  refine Tri.ite h rfl (fun _ h => ?_) (fun _ h => ?_)
  · refine Tri.seq ?_
    refine Tri.regionL ?_
    refine OpsL.cons rfl (op_assign rfl) ?_
    refine OpsL.cons rfl (op_assign rfl) ?_
    refine OpsL.nilK [8, 9] [] (s' := ⟨[(8, .b (.one (.nil))), (9, I 1)], []⟩) rfl ?_
    refine Tri.ret ?_
    refine Fin.block_ret ?_
    refine Fin.then_ret ?_
    obtain rfl := Option.some.inj h
    refine Fin.keep [8, 9] [] (s' := ⟨[(8, .b (.one (.nil))), (9, I 1)], []⟩) rfl ?_
    refine Fin.nilrow 8 102 5 59 rfl (by decide) rfl ?_
    refine Fin.resultK 102 k0 [.row 102, .one (.i 1)] (.inl rfl) rfl (.cons (.tmp rfl) (.cons (.tmp rfl) .nil)) rfl rfl rfl rfl ⟨rfl, rfl⟩
  · refine Tri.seq ?_
    refine Tri.regionL ?_
    refine OpsL.cons rfl (op_field_p tyFld59_2 rfl rfl) ?_
    refine OpsL.cons rfl (op_load_p1 tyOne3 rfl rfl rfl) ?_
    refine OpsL.cons rfl (op_neq rfl rfl) ?_
    refine OpsL.cons rfl (op_assign rfl) ?_
    refine OpsL.nilK [0, 3, 10, 28] [101] (s' := ⟨[(0, .b (.one (.sl 5 (l0.map eHolding)))), (3, I to0), (10, .b (.ptr 101 0)), (28, B (decide (x_1.Phase ≠ 1)))], [(101, .box 59 [.i x_1.Body, .i x_1.Epoch, .i x_1.Phase, .i x_1.Peer, .str x_1.Data])]⟩) rfl ?_
    refine Tri.ite h rfl (fun _ h => ?_) (fun _ h => ?_)
    · refine Tri.seq ?_
      refine Tri.regionL ?_
      refine OpsL.cons rfl (op_assign rfl) ?_
      refine OpsL.cons rfl (op_assign rfl) ?_
      refine OpsL.nilK [8, 9] [] (s' := ⟨[(8, .b (.one (.nil))), (9, I 4)], []⟩) rfl ?_
      refine Tri.ret ?_
      refine Fin.block_ret ?_
      refine Fin.then_ret ?_
      obtain rfl := Option.some.inj h
      refine Fin.keep [8, 9] [] (s' := ⟨[(8, .b (.one (.nil))), (9, I 4)], []⟩) rfl ?_
      refine Fin.nilrow 8 103 5 59 rfl (by decide) rfl ?_
      refine Fin.resultK 103 k0 [.row 103, .one (.i 4)] (.inl rfl) rfl (.cons (.tmp rfl) (.cons (.tmp rfl) .nil)) rfl rfl rfl rfl ⟨rfl, rfl⟩
    · refine Tri.seq ?_
      refine Tri.regionL ?_
      refine OpsL.cons rfl (op_field_p tyFld59_1 rfl rfl) ?_
      refine OpsL.cons rfl (op_load_p1 tyOne3 rfl rfl rfl) ?_
      refine OpsL.cons rfl (op_eql rfl rfl) ?_
      refine OpsL.cons rfl (op_assign rfl) ?_
      refine OpsL.nilK [0, 3, 10, 32] [101] (s' := ⟨[(0, .b (.one (.sl 5 (l0.map eHolding)))), (3, I to0), (10, .b (.ptr 101 0)), (32, B (decide (x_1.Epoch = 1099511627776)))], [(101, .box 59 [.i x_1.Body, .i x_1.Epoch, .i x_1.Phase, .i x_1.Peer, .str x_1.Data])]⟩) rfl ?_
      refine Tri.ite h rfl (fun _ h => ?_) (fun _ h => ?_)
      · refine Tri.seq ?_
        refine Tri.regionL ?_
        refine OpsL.cons rfl (op_assign rfl) ?_
        refine OpsL.cons rfl (op_assign rfl) ?_
        refine OpsL.nilK [8, 9] [] (s' := ⟨[(8, .b (.one (.nil))), (9, I 2)], []⟩) rfl ?_
        refine Tri.ret ?_
        refine Fin.block_ret ?_
        refine Fin.then_ret ?_
        obtain rfl := Option.some.inj h
        refine Fin.keep [8, 9] [] (s' := ⟨[(8, .b (.one (.nil))), (9, I 2)], []⟩) rfl ?_
        refine Fin.nilrow 8 104 5 59 rfl (by decide) rfl ?_
        refine Fin.resultK 104 k0 [.row 104, .one (.i 2)] (.inl rfl) rfl (.cons (.tmp rfl) (.cons (.tmp rfl) .nil)) rfl rfl rfl rfl ⟨rfl, rfl⟩
      · refine Tri.skip ?_
        refine Fin.block_normal ?_
        refine Fin.keep [0, 3, 10] [101] (s' := ⟨[(0, .b (.one (.sl 5 (l0.map eHolding)))), (3, I to0), (10, .b (.ptr 101 0))], [(101, .box 59 [.i x_1.Body, .i x_1.Epoch, .i x_1.Phase, .i x_1.Peer, .str x_1.Data])]⟩) rfl ?_
        refine Fin.then ?_
        refine Tri.seq ?_
        refine Tri.regionL ?_
        refine OpsL.cons rfl (op_field_p tyFld59_1 rfl rfl) ?_
        refine OpsL.cons rfl (op_load_p1 tyOne3 rfl rfl rfl) ?_
        refine OpsL.cons rfl (op_add rfl rfl) ?_
        refine OpsL.cons rfl (op_move rfl) ?_
        refine OpsL.cons rfl (op_field_p tyFld59_1 rfl rfl) ?_
        refine OpsL.cons rfl (op_store_p1 tyOne3 rfl rfl rfl (Nat.le_of_ble_eq_true rfl) rfl) ?_
        refine OpsL.keep [0, 10, 39] [101] (s' := ⟨[(0, .b (.one (.sl 5 (l0.map eHolding)))), (10, .b (.ptr 101 0)), (39, I to0)], [(101, .box 59 [.i x_1.Body, .i (IntKind.i64.wrap (x_1.Epoch + 1)), .i x_1.Phase, .i x_1.Peer, .str x_1.Data])]⟩) rfl ?_
        refine OpsL.cons rfl (op_field_p tyFld59_2 rfl rfl) ?_
        refine OpsL.cons rfl (op_store_p1 tyOne3 rfl rfl rfl (Nat.le_of_ble_eq_true rfl) rfl) ?_
        refine OpsL.cons rfl (op_field_p tyFld59_3 rfl rfl) ?_
        refine OpsL.cons rfl (op_store_p1 tyOne3 rfl rfl rfl (Nat.le_of_ble_eq_true rfl) rfl) ?_
        refine OpsL.nilK [0, 10] [101] (s' := ⟨[(0, .b (.one (.sl 5 (l0.map eHolding)))), (10, .b (.ptr 101 0))], [(101, .box 59 [.i x_1.Body, .i (IntKind.i64.wrap (x_1.Epoch + 1)), .i 2, .i to0, .str x_1.Data])]⟩) rfl ?_
        refine Tri.seq ?_
        refine Tri.regionL ?_
        refine OpsL.cons rfl (op_move rfl) ?_
        refine OpsL.cons rfl (op_load_p tyAgg59 rfl rfl rfl rfl) ?_
        obtain ⟨x_4, e10, h⟩ := bnd h
        refine OpsL.cons rfl (op_call (region_set_spec 105 e10) goes46 rfl trivial rfl rfl) ?_
        refine OpsL.cons rfl (op_assign rfl) ?_
        refine OpsL.cons rfl (op_assign rfl) ?_
        refine OpsL.nilK [8, 9] [105] (s' := ⟨[(8, .b (.row 105)), (9, I 0)], [(105, .row 59 5 (x_4.map eHolding))]⟩) rfl ?_
        refine Tri.ret ?_
        obtain rfl := Option.some.inj h
        refine Fin.keep [8, 9] [105] (s' := ⟨[(8, .b (.row 105)), (9, I 0)], [(105, .row 59 5 (x_4.map eHolding))]⟩) rfl ?_
        refine Fin.resultK 105 k0 [.row 105, .one (.i 0)] (.inl rfl) rfl (.cons (.tmp rfl) (.cons (.tmp rfl) .nil)) rfl rfl rfl rfl ⟨rfl, rfl⟩

def region_Letters_S (F : Nat) (l0 : List Holding) (from0 : Int) : Option (List Parcel) :=
 Option.bind (iter F (un2 fun out_2 x_3 => if (decide (x_3 < (l0.length : Int))) = true then (Option.bind (Option.bind (idx? l0 x_3) (fun x_6 => Option.bind (if (decide (x_6.Phase = 2)) = true then (some (.inl (⟨from0, x_6.Peer, 1, x_6.Body, x_6.Epoch, x_6.Data⟩ : Parcel))) else (if (decide (x_6.Phase = 3)) = true then (some (.inl (⟨from0, x_6.Peer, 3, x_6.Body, x_6.Epoch, []⟩ : Parcel))) else (some (.inr ())))) (alt2 (fun x_7 => Option.bind (app? out_2 [x_7]) (fun x_8 => some x_8)) (fun _ => some out_2)))) (fun out_5 => some (.inl (out_5, IntKind.i64.wrap (x_3 + 1))))) else (some (.inr out_2))) ([], 0)) (fun out_1 => some out_1)
theorem region_Letters_spec (k0 : Nat) {F : Nat} {l0 : List Holding} {from0 : Int} {r : (List Parcel)} (h : region_Letters_S F l0 from0 = some r) : Meets Try.prog 15 [] [.one (.sl 5 (l0.map eHolding)), .one (.i from0)] (Is [(k0, .row 45 6 (r.map eParcel))] (.b (.row k0))) := by
  unfold region_Letters_S at h
  refine Meets.intro 40 Try.func15 Try.ntmps15 rfl (by simp) fun E => ?_
  show Tri _ E ⟨40, [], []⟩ _ ⟨[(0, .b (.one (.sl 5 (l0.map eHolding)))), (1, I from0)], []⟩ _
  refine Tri.seq ?_
  refine Tri.regionL ?_
  refine OpsL.cons rfl (op_assign rfl) ?_
  refine OpsL.nilK [0, 1] [] (s' := ⟨[(0, .b (.one (.sl 5 (l0.map eHolding)))), (1, I from0)], []⟩) rfl ?_
  refine Tri.seq ?_
  refine Tri.regionL ?_
  refine OpsL.cons rfl (op_assign rfl) ?_
  refine OpsL.nilK [0, 1, 5] [] (s' := ⟨[(0, .b (.one (.sl 5 (l0.map eHolding)))), (1, I from0), (5, .b (.one (.nil)))], []⟩) rfl ?_
  obtain ⟨v1, h2, h⟩ := bnd h
  refine Tri.seqJ (v := v1) (fun (out_1 : List Parcel) => ⟨[(5, .b (.row 104))], [(104, .row 45 6 (out_1.map eParcel))]⟩) (fun z => z) ?_ ?_
  · refine Tri.seq ?_
    refine Tri.regionL ?_
    refine OpsL.cons rfl (op_move rfl) ?_
    refine OpsL.cons rfl (op_len_e' und42 rfl (List.length_map _)) ?_
    refine OpsL.cons rfl (op_move rfl) ?_
    refine OpsL.nilK [1, 5, 9, 10, 11] [] (s' := ⟨[(1, I from0), (5, .b (.one (.nil))), (9, .b (.one (.sl 5 (l0.map eHolding)))), (10, I (l0.length : Int)), (11, I 0)], []⟩) rfl ?_
    refine Tri.block ?_
    refine Tri.keep [1, 5, 9, 10, 11] [] (s' := ⟨[(1, I from0), (5, .b (.one (.nil))), (9, .b (.one (.sl 5 (l0.map eHolding)))), (10, I (l0.length : Int)), (11, I 0)], []⟩) rfl ?_
    refine Tri.nilrow 5 104 6 45 rfl (by decide) rfl ?_
    refine Tri.loopJ h2 (un2 fun (out_2 : List Parcel) (x_3 : Int) => ⟨[(1, I from0), (5, .b (.row 104)), (9, .b (.one (.sl 5 (l0.map eHolding)))), (10, I (l0.length : Int)), (11, I x_3)], [(104, .row 45 6 (out_2.map eParcel))]⟩) [1, 5, 9, 10, 11] [104] rfl ?_
    rintro ⟨out_2, x_3⟩ o3 h4 hy5
    refine Tri.seq ?_
    refine Tri.regionL ?_
    refine OpsL.cons rfl (op_lss rfl rfl) ?_
    refine OpsL.nilK [1, 5, 9, 10, 11, 12] [104] (s' := ⟨[(1, I from0), (5, .b (.row 104)), (9, .b (.one (.sl 5 (l0.map eHolding)))), (10, I (l0.length : Int)), (11, I x_3), (12, B (decide (x_3 < (l0.length : Int))))], [(104, .row 45 6 (out_2.map eParcel))]⟩) rfl ?_
    refine Tri.seq ?_
    refine Tri.ite h4 rfl (fun _ h4 => ?_) (fun _ h4 => ?_)
    · refine Tri.skip ?_
      refine Fin.keep [1, 5, 9, 10, 11] [104] (s' := ⟨[(1, I from0), (5, .b (.row 104)), (9, .b (.one (.sl 5 (l0.map eHolding)))), (10, I (l0.length : Int)), (11, I x_3)], [(104, .row 45 6 (out_2.map eParcel))]⟩) rfl ?_
      refine Fin.then ?_
      obtain ⟨v6, h7, h4⟩ := bnd h4
      refine Tri.seqJ (v := v6) (fun (out_5 : List Parcel) => ⟨[(1, I from0), (5, .b (.row 104)), (9, .b (.one (.sl 5 (l0.map eHolding)))), (10, I (l0.length : Int)), (11, I x_3)], [(104, .row 45 6 (out_5.map eParcel))]⟩) (fun z => z) ?_ ?_
      · refine Tri.block ?_
        refine Tri.seq ?_
        refine Tri.regionL ?_
        obtain ⟨x_6, e8, h7⟩ := bnd h7
        refine OpsL.cons rfl (op_index_e tySl42 (ix_lo e8) (ix_map (e := eHolding) e8) rfl rfl) ?_
        refine OpsL.cons rfl (op_load_e tyAgg59 rfl rfl rfl) ?_
        refine OpsL.cons rfl (op_alloc (k := 105) tyZero59 rfl) ?_
        refine OpsL.cons rfl (op_store_p tyAgg59 rfl rfl rfl rfl (Nat.le_of_ble_eq_true rfl) rfl) ?_
        refine OpsL.nilK [1, 5, 7, 9, 10, 11] [104, 105] (s' := ⟨[(1, I from0), (5, .b (.row 104)), (7, .b (.ptr 105 0)), (9, .b (.one (.sl 5 (l0.map eHolding)))), (10, I (l0.length : Int)), (11, I x_3)], [(104, .row 45 6 (out_2.map eParcel)), (105, .box 59 [.i x_6.Body, .i x_6.Epoch, .i x_6.Phase, .i x_6.Peer, .str x_6.Data])]⟩) rfl ?_
        refine Tri.seq ?_
        refine Tri.regionL ?_
        refine OpsL.cons rfl (op_move rfl) ?_
        refine OpsL.cons rfl (op_field_p tyFld59_3 rfl rfl) ?_
        refine OpsL.cons rfl (op_load_p1 tyOne3 rfl rfl rfl) ?_
        refine OpsL.cons rfl (op_field_p tyFld59_0 rfl rfl) ?_
        refine OpsL.cons rfl (op_load_p1 tyOne3 rfl rfl rfl) ?_
        refine OpsL.cons rfl (op_field_p tyFld59_1 rfl rfl) ?_
        refine OpsL.cons rfl (op_load_p1 tyOne3 rfl rfl rfl) ?_
        refine OpsL.keep [1, 5, 7, 9, 10, 11, 15, 17, 19, 21] [104, 105] (s' := ⟨[(1, I from0), (5, .b (.row 104)), (7, .b (.ptr 105 0)), (9, .b (.one (.sl 5 (l0.map eHolding)))), (10, I (l0.length : Int)), (11, I x_3), (15, I from0), (17, I x_6.Peer), (19, I x_6.Body), (21, I x_6.Epoch)], [(104, .row 45 6 (out_2.map eParcel)), (105, .box 59 [.i x_6.Body, .i x_6.Epoch, .i x_6.Phase, .i x_6.Peer, .str x_6.Data])]⟩) rfl ?_
        refine OpsL.cons rfl (op_build tyBuild45 rfl rfl) ?_
        refine OpsL.cons rfl (op_alloc (k := 106) tyZero45 rfl) ?_
        refine OpsL.cons rfl (op_store_p tyAgg45 rfl rfl rfl rfl (Nat.le_of_ble_eq_true rfl) rfl) ?_
        refine OpsL.nilK [1, 5, 7, 8, 9, 10, 11] [104, 105, 106] (s' := ⟨[(1, I from0), (5, .b (.row 104)), (7, .b (.ptr 105 0)), (8, .b (.ptr 106 0)), (9, .b (.one (.sl 5 (l0.map eHolding)))), (10, I (l0.length : Int)), (11, I x_3)], [(104, .row 45 6 (out_2.map eParcel)), (105, .box 59 [.i x_6.Body, .i x_6.Epoch, .i x_6.Phase, .i x_6.Peer, .str x_6.Data]), (106, .box 45 [.i from0, .i x_6.Peer, .i 0, .i x_6.Body, .i x_6.Epoch, .str []])]⟩) rfl ?_
        obtain ⟨v9, h10, h7⟩ := bnd h7
        refine Tri.seqJ (v := v9) (fun (x_7 : Parcel) => ⟨[(1, I from0), (5, .b (.row 104)), (8, .b (.ptr 106 0)), (9, .b (.one (.sl 5 (l0.map eHolding)))), (10, I (l0.length : Int)), (11, I x_3)], [(104, .row 45 6 (out_2.map eParcel)), (106, .box 45 [.i x_7.From, .i x_7.To, .i x_7.Kind, .i x_7.Body, .i x_7.Epoch, .str x_7.Data])]⟩) (fun z => .inl z) ?_ ?_
        · refine Tri.seq ?_
          refine Tri.regionL ?_
          refine OpsL.cons rfl (op_field_p tyFld59_2 rfl rfl) ?_
          refine OpsL.cons rfl (op_load_p1 tyOne3 rfl rfl rfl) ?_
          refine OpsL.nilK [1, 5, 7, 8, 9, 10, 11, 24] [104, 105, 106] (s' := ⟨[(1, I from0), (5, .b (.row 104)), (7, .b (.ptr 105 0)), (8, .b (.ptr 106 0)), (9, .b (.one (.sl 5 (l0.map eHolding)))), (10, I (l0.length : Int)), (11, I x_3), (24, I x_6.Phase)], [(104, .row 45 6 (out_2.map eParcel)), (105, .box 59 [.i x_6.Body, .i x_6.Epoch, .i x_6.Phase, .i x_6.Peer, .str x_6.Data]), (106, .box 45 [.i from0, .i x_6.Peer, .i 0, .i x_6.Body, .i x_6.Epoch, .str []])]⟩) rfl ?_
          refine Tri.block ?_
          refine Tri.seq ?_
          refine Tri.regionL ?_
          refine OpsL.cons rfl (op_eql rfl rfl) ?_
          refine OpsL.cons rfl (op_assign rfl) ?_
          refine OpsL.nilK [1, 5, 7, 8, 9, 10, 11, 24, 25] [104, 105, 106] (s' := ⟨[(1, I from0), (5, .b (.row 104)), (7, .b (.ptr 105 0)), (8, .b (.ptr 106 0)), (9, .b (.one (.sl 5 (l0.map eHolding)))), (10, I (l0.length : Int)), (11, I x_3), (24, I x_6.Phase), (25, B (decide (x_6.Phase = 2)))], [(104, .row 45 6 (out_2.map eParcel)), (105, .box 59 [.i x_6.Body, .i x_6.Epoch, .i x_6.Phase, .i x_6.Peer, .str x_6.Data]), (106, .box 45 [.i from0, .i x_6.Peer, .i 0, .i x_6.Body, .i x_6.Epoch, .str []])]⟩) rfl ?_
          refine Tri.ite h10 rfl (fun _ h10 => ?_) (fun _ h10 => ?_)
          · refine Tri.keep [1, 5, 7, 8, 9, 10, 11] [104, 105, 106] (s' := ⟨[(1, I from0), (5, .b (.row 104)), (7, .b (.ptr 105 0)), (8, .b (.ptr 106 0)), (9, .b (.one (.sl 5 (l0.map eHolding)))), (10, I (l0.length : Int)), (11, I x_3)], [(104, .row 45 6 (out_2.map eParcel)), (105, .box 59 [.i x_6.Body, .i x_6.Epoch, .i x_6.Phase, .i x_6.Peer, .str x_6.Data]), (106, .box 45 [.i from0, .i x_6.Peer, .i 0, .i x_6.Body, .i x_6.Epoch, .str []])]⟩) rfl ?_
            refine Tri.regionWF mixed [false, false, false, true, false, true] [.b (.ptr 105 4), .b (.one (.str x_6.Data)), .b (.ptr 106 2), B true, .b (.ptr 106 5), B true] [⟨[false, false, false, false, false, false], [(1, I from0), (5, .b (.row 104)), (7, .b (.ptr 105 0)), (8, .b (.ptr 106 0)), (9, .b (.one (.sl 5 (l0.map eHolding)))), (10, I (l0.length : Int)), (11, I x_3)], [(104, .row 45 6 (out_2.map eParcel)), (105, .box 59 [.i x_6.Body, .i x_6.Epoch, .i x_6.Phase, .i x_6.Peer, .str x_6.Data]), (106, .box 45 [.i from0, .i x_6.Peer, .i 0, .i x_6.Body, .i x_6.Epoch, .str []])], [true, true, true, true, true, true], []⟩, ⟨[false, false, false, true, false, false], [(1, I from0), (5, .b (.row 104)), (7, .b (.ptr 105 0)), (8, .b (.ptr 106 0)), (9, .b (.one (.sl 5 (l0.map eHolding)))), (10, I (l0.length : Int)), (11, I x_3)], [(104, .row 45 6 (out_2.map eParcel)), (105, .box 59 [.i x_6.Body, .i x_6.Epoch, .i x_6.Phase, .i x_6.Peer, .str x_6.Data]), (106, .box 45 [.i from0, .i x_6.Peer, .i 1, .i x_6.Body, .i x_6.Epoch, .str []])], [true, true, true, true, true, true], [2, 3]⟩, ⟨[false, false, false, true, false, true], [(1, I from0), (5, .b (.row 104)), (7, .b (.ptr 105 0)), (8, .b (.ptr 106 0)), (9, .b (.one (.sl 5 (l0.map eHolding)))), (10, I (l0.length : Int)), (11, I x_3)], [(104, .row 45 6 (out_2.map eParcel)), (105, .box 59 [.i x_6.Body, .i x_6.Epoch, .i x_6.Phase, .i x_6.Peer, .str x_6.Data]), (106, .box 45 [.i from0, .i x_6.Peer, .i 1, .i x_6.Body, .i x_6.Epoch, .str x_6.Data])], [true, true, true, true, true, true], [0, 1, 2, 3, 4, 5]⟩] rfl (⟨by kernel_rfl, ⟨⟨.b (.ptr 105 4), fun _ => rfl, fun _ => .plain rfl (by exact op_field_p tyFld59_4 rfl rfl)⟩, ⟨.b (.one (.str x_6.Data)), fun _ => rfl, fun _ => .plain rfl (by exact op_load_p1 tyOne9 rfl rfl rfl)⟩, ⟨.b (.ptr 106 2), fun _ => rfl, fun _ => .plain rfl (by exact op_field_p tyFld45_2 rfl rfl)⟩, ⟨_, none, .b (.one .any), rfl, (fun e => by simp at e), rfl, rfl, fun _ => .to (by exact .plain rfl (by exact op_store_p1 tyOne3 rfl rfl rfl (Nat.le_of_ble_eq_true rfl) rfl)) (by exact rfl)⟩, trivial, trivial, trivial⟩, ⟨by kernel_rfl, ⟨⟨.b (.ptr 105 4), fun _ => rfl, fun _ => .plain rfl (by exact op_field_p tyFld59_4 rfl rfl)⟩, ⟨.b (.one (.str x_6.Data)), fun _ => rfl, fun _ => .plain rfl (by exact op_load_p1 tyOne9 rfl rfl rfl)⟩, trivial, trivial, ⟨.b (.ptr 106 5), fun _ => rfl, fun _ => .plain rfl (by exact op_field_p tyFld45_5 rfl rfl)⟩, ⟨_, none, .b (.one .any), rfl, (fun e => by simp at e), rfl, rfl, fun _ => .to (by exact .plain rfl (by exact op_store_p1 tyOne9 rfl rfl rfl (Nat.le_of_ble_eq_true rfl) rfl)) (by exact rfl)⟩, trivial⟩, ⟨by kernel_rfl, ⟨trivial, trivial, trivial, trivial, trivial, trivial, trivial⟩, trivial⟩⟩⟩) rfl rfl rfl [1, 5, 8, 9, 10, 11] [104, 106] (s' := ⟨[(1, I from0), (5, .b (.row 104)), (8, .b (.ptr 106 0)), (9, .b (.one (.sl 5 (l0.map eHolding)))), (10, I (l0.length : Int)), (11, I x_3)], [(104, .row 45 6 (out_2.map eParcel)), (106, .box 45 [.i from0, .i x_6.Peer, .i 1, .i x_6.Body, .i x_6.Epoch, .str x_6.Data])]⟩) rfl ?_
            refine Fin.block_normal ?_
            exact Fin.join [1, 5, 8, 9, 10, 11] [104, 106] (⟨from0, x_6.Peer, 1, x_6.Body, x_6.Epoch, x_6.Data⟩ : Parcel) (Option.some.inj h10) rfl
          · refine Tri.seq ?_
            refine Tri.regionL ?_
            refine OpsL.cons rfl (op_eql rfl rfl) ?_
            refine OpsL.cons rfl (op_assign rfl) ?_
            refine OpsL.nilK [1, 5, 8, 9, 10, 11, 31] [104, 106] (s' := ⟨[(1, I from0), (5, .b (.row 104)), (8, .b (.ptr 106 0)), (9, .b (.one (.sl 5 (l0.map eHolding)))), (10, I (l0.length : Int)), (11, I x_3), (31, B (decide (x_6.Phase = 3)))], [(104, .row 45 6 (out_2.map eParcel)), (106, .box 45 [.i from0, .i x_6.Peer, .i 0, .i x_6.Body, .i x_6.Epoch, .str []])]⟩) rfl ?_
            refine Tri.ite h10 rfl (fun _ h10 => ?_) (fun _ h10 => ?_)
            · refine Tri.regionL ?_
              refine OpsL.cons rfl (op_field_p tyFld45_2 rfl rfl) ?_
              refine OpsL.cons rfl (op_store_p1 tyOne3 rfl rfl rfl (Nat.le_of_ble_eq_true rfl) rfl) ?_
              refine OpsL.nil ?_
              refine Fin.block_normal ?_
              exact Fin.join [1, 5, 8, 9, 10, 11] [104, 106] (⟨from0, x_6.Peer, 3, x_6.Body, x_6.Epoch, []⟩ : Parcel) (Option.some.inj h10) rfl
            · refine Tri.exit ?_
              refine Fin.block_exit_other (by decide) ?_
              obtain rfl := Option.some.inj h10
              refine Fin.then_exit ?_
              refine Fin.block_exit ?_
              exact Fin.join [1, 5, 9, 10, 11] [104] out_2 (Option.some.inj h7) rfl
        · rintro x_7 hv
          subst v9
          refine Tri.regionL ?_
          refine OpsL.cons rfl (op_move rfl) ?_
          refine OpsL.cons rfl (op_load_p tyAgg45 rfl rfl rfl rfl) ?_
          refine OpsL.cons rfl (op_buildSlice (k := 107) (es := [x_7].map eParcel) tySl38 rfl rfl (uni_map fun _ => rfl) rfl (by decide) (by decide) rfl) ?_
          obtain ⟨x_8, e11, h7⟩ := bnd h7
          refine OpsL.cons rfl (op_append_r tySl38 (app_b e11) (app_m e11) rfl rfl rfl rfl (app_map e11) rfl) ?_
          refine OpsL.cons rfl (op_assign rfl) ?_
          refine OpsL.nil ?_
          refine Fin.block_normal ?_
          exact Fin.join [1, 5, 9, 10, 11] [104] x_8 (Option.some.inj h7) rfl
      · rintro out_5 hv
        subst v6
        refine Tri.regionL ?_
        refine OpsL.cons rfl (op_add rfl rfl) ?_
        refine OpsL.cons rfl (op_move rfl) ?_
        refine OpsL.nil ?_
        exact Fin.againJ [1, 5, 9, 10, 11] [104] (out_5, IntKind.i64.wrap (x_3 + 1)) (Option.some.inj h4) rfl
    · refine Tri.exit ?_
      refine Fin.then_exit ?_
      obtain rfl := hy5 _ (Option.some.inj h4).symm
      refine Fin.then_exit ?_
      refine Fin.block_exit ?_
      exact Fin.join [5] [104] out_2 rfl rfl
  · rintro out_1 hv
    subst v1
    refine Tri.seq ?_
    refine Tri.regionL ?_
    refine OpsL.cons rfl (op_move rfl) ?_
    refine OpsL.cons rfl (op_assign rfl) ?_
    refine OpsL.nilK [4] [104] (s' := ⟨[(4, .b (.row 104))], [(104, .row 45 6 (out_1.map eParcel))]⟩) rfl ?_
    refine Tri.ret ?_
    obtain rfl := Option.some.inj h
    refine Fin.keep [4] [104] (s' := ⟨[(4, .b (.row 104))], [(104, .row 45 6 (out_1.map eParcel))]⟩) rfl ?_
    refine Fin.resultK 104 k0 [.row 104] (.inl rfl) rfl (.cons (.tmp rfl) .nil) rfl rfl rfl rfl ⟨rfl, rfl⟩

def region_rules_1_S (F : Nat) (h0 : Holding) (x0 : Parcel) (match0 : Bool) : Option (Holding × Int) :=
 letN ((decide (h0.Epoch < x0.Epoch)) && (((decide (h0.Phase = 0)) || (decide (h0.Phase = 4))) || (decide (h0.Phase = 3)))) fun x_1 => if x_1 = true then (some ((⟨x0.Body, x0.Epoch, 4, x0.From, x0.Data⟩ : Holding), 2)) else (if ((decide (h0.Phase = 4)) && match0) = true then (some (h0, 2)) else (some (h0, 0)))
theorem region_rules_1_spec {F : Nat} {h0 : Holding} {x0 : Parcel} {match0 : Bool} {r : Holding × Int} (h : region_rules_1_S F h0 x0 match0 = some r) : Meets Try.prog 60 [] [.agg (eHolding h0), .agg (eParcel x0), .one (.bool match0)] (Is [] (.tup [.agg (eHolding r.1), .one (.i r.2)])) := by
  unfold region_rules_1_S at h
  refine Meets.intro 47 Try.func60 Try.ntmps60 rfl (by simp) fun E => ?_
  show Tri _ E ⟨47, [], []⟩ _ ⟨[(0, .b (.agg [.i h0.Body, .i h0.Epoch, .i h0.Phase, .i h0.Peer, .str h0.Data])), (1, .b (.agg [.i x0.From, .i x0.To, .i x0.Kind, .i x0.Body, .i x0.Epoch, .str x0.Data])), (2, B match0)], []⟩ _
  refine Tri.seq ?_
  refine Tri.regionL ?_
  refine OpsL.cons rfl (op_box (k := 101) rfl rfl) ?_
  refine OpsL.cons rfl (op_box (k := 102) rfl rfl) ?_
  refine OpsL.cons rfl (op_alloc (k := 103) tyZero59 rfl) ?_
  refine OpsL.cons rfl (op_assign rfl) ?_
  refine OpsL.nilK [2, 3, 4, 6] [101, 102, 103] (s' := ⟨[(2, B match0), (3, .b (.ptr 101 0)), (4, .b (.ptr 102 0)), (6, .b (.ptr 103 0))], [(101, .box 59 [.i h0.Body, .i h0.Epoch, .i h0.Phase, .i h0.Peer, .str h0.Data]), (102, .box 45 [.i x0.From, .i x0.To, .i x0.Kind, .i x0.Body, .i x0.Epoch, .str x0.Data]), (103, .box 59 [.i 0, .i 0, .i 0, .i 0, .str []])]⟩) rfl ?_
  refine Tri.seq ?_
  refine Tri.block ?_
  refine Tri.seq ?_
  refine Tri.regionL ?_
  refine OpsL.cons rfl (op_field_p tyFld45_4 rfl rfl) ?_
  refine OpsL.cons rfl (op_load_p1 tyOne3 rfl rfl rfl) ?_
  refine OpsL.cons rfl (op_field_p tyFld59_1 rfl rfl) ?_
  refine OpsL.cons rfl (op_load_p1 tyOne3 rfl rfl rfl) ?_
  refine OpsL.cons rfl (op_gtr rfl rfl) ?_
  refine OpsL.cons rfl (op_move rfl) ?_
  refine OpsL.consG (decide (h0.Epoch < x0.Epoch)) 99 [] (.plain rfl) (eq_t _) rfl rfl (fun g1 => trivial) (fun g1 => op_field_p tyFld59_2 rfl rfl) ?_
  refine OpsL.keep [2, 3, 4, 6, 14, 15] [101, 102, 103] (s' := ⟨[(2, B match0), (3, .b (.ptr 101 0)), (4, .b (.ptr 102 0)), (6, .b (.ptr 103 0)), (14, B (decide (h0.Epoch < x0.Epoch))), (15, .opt (decide (h0.Epoch < x0.Epoch)) (.ptr 101 2))], [(101, .box 59 [.i h0.Body, .i h0.Epoch, .i h0.Phase, .i h0.Peer, .str h0.Data]), (102, .box 45 [.i x0.From, .i x0.To, .i x0.Kind, .i x0.Body, .i x0.Epoch, .str x0.Data]), (103, .box 59 [.i 0, .i 0, .i 0, .i 0, .str []])]⟩) rfl ?_
  refine OpsL.consG (decide (h0.Epoch < x0.Epoch)) 99 [15] (.plain rfl) (eq_t _) rfl rfl (fun g2 => ⟨g2, trivial⟩) (fun g2 => op_load_p1 tyOne3 rfl rfl rfl) ?_
  refine OpsL.consG (decide (h0.Epoch < x0.Epoch)) 99 [16] (.plain rfl) (eq_t _) rfl rfl (fun g3 => ⟨g3, trivial⟩) (fun g3 => op_eql rfl rfl) ?_
  refine OpsL.consG (decide (h0.Epoch < x0.Epoch)) 99 [17] (.plain rfl) (eq_t _) rfl rfl (fun g4 => ⟨g4, trivial⟩) (fun g4 => op_move rfl) ?_
  refine OpsL.consG ((decide (h0.Epoch < x0.Epoch)) && !(decide (h0.Phase = 0))) 99 [] (.under rfl) (and_f _ _) rfl rfl (fun g5 => trivial) (fun g5 => op_field_p tyFld59_2 rfl rfl) ?_
  refine OpsL.consG ((decide (h0.Epoch < x0.Epoch)) && !(decide (h0.Phase = 0))) 99 [19] (.under rfl) (and_f _ _) rfl rfl (fun g6 => ⟨g6, trivial⟩) (fun g6 => op_load_p1 tyOne3 rfl rfl rfl) ?_
  refine OpsL.consG ((decide (h0.Epoch < x0.Epoch)) && !(decide (h0.Phase = 0))) 99 [20] (.under rfl) (and_f _ _) rfl rfl (fun g7 => ⟨g7, trivial⟩) (fun g7 => op_eql rfl rfl) ?_
  refine OpsL.consG (decide (h0.Epoch < x0.Epoch)) 99 [18] (.plain rfl) (eq_t _) rfl rfl (fun g8 => ⟨g8, trivial⟩) (fun g8 => op_pick_or (fun e => by rw [g8, e]; rfl) rfl rfl rfl rfl) ?_
  refine OpsL.consG (decide (h0.Epoch < x0.Epoch)) 99 [22] (.plain rfl) (eq_t _) rfl rfl (fun g9 => ⟨g9, trivial⟩) (fun g9 => op_move rfl) ?_
  refine OpsL.keep [2, 3, 4, 6, 14, 23] [101, 102, 103] (s' := ⟨[(2, B match0), (3, .b (.ptr 101 0)), (4, .b (.ptr 102 0)), (6, .b (.ptr 103 0)), (14, B (decide (h0.Epoch < x0.Epoch))), (23, .opt (decide (h0.Epoch < x0.Epoch)) (.one (.bool ((decide (h0.Phase = 0)) || (decide (h0.Phase = 4))))))], [(101, .box 59 [.i h0.Body, .i h0.Epoch, .i h0.Phase, .i h0.Peer, .str h0.Data]), (102, .box 45 [.i x0.From, .i x0.To, .i x0.Kind, .i x0.Body, .i x0.Epoch, .str x0.Data]), (103, .box 59 [.i 0, .i 0, .i 0, .i 0, .str []])]⟩) rfl ?_
  refine OpsL.consG ((decide (h0.Epoch < x0.Epoch)) && !((decide (h0.Phase = 0)) || (decide (h0.Phase = 4)))) 99 [] (.under rfl) (and_f _ _) rfl rfl (fun g10 => trivial) (fun g10 => op_field_p tyFld59_2 rfl rfl) ?_
  refine OpsL.consG ((decide (h0.Epoch < x0.Epoch)) && !((decide (h0.Phase = 0)) || (decide (h0.Phase = 4)))) 99 [24] (.under rfl) (and_f _ _) rfl rfl (fun g11 => ⟨g11, trivial⟩) (fun g11 => op_load_p1 tyOne3 rfl rfl rfl) ?_
  refine OpsL.consG ((decide (h0.Epoch < x0.Epoch)) && !((decide (h0.Phase = 0)) || (decide (h0.Phase = 4)))) 99 [25] (.under rfl) (and_f _ _) rfl rfl (fun g12 => ⟨g12, trivial⟩) (fun g12 => op_eql rfl rfl) ?_
  refine OpsL.consG (decide (h0.Epoch < x0.Epoch)) 99 [23] (.plain rfl) (eq_t _) rfl rfl (fun g13 => ⟨g13, trivial⟩) (fun g13 => op_pick_or (fun e => by rw [g13, e]; rfl) rfl rfl rfl rfl) ?_
  refine OpsL.consB h rfl (op_pick_and (fun e => e) rfl rfl rfl rfl) (fun x_1 h => ?_)
  refine OpsL.cons rfl (op_assign rfl) ?_
  refine OpsL.nilK [2, 3, 4, 6, 8] [101, 102, 103] (s' := ⟨[(2, B match0), (3, .b (.ptr 101 0)), (4, .b (.ptr 102 0)), (6, .b (.ptr 103 0)), (8, B x_1)], [(101, .box 59 [.i h0.Body, .i h0.Epoch, .i h0.Phase, .i h0.Peer, .str h0.Data]), (102, .box 45 [.i x0.From, .i x0.To, .i x0.Kind, .i x0.Body, .i x0.Epoch, .str x0.Data]), (103, .box 59 [.i 0, .i 0, .i 0, .i 0, .str []])]⟩) rfl ?_
  refine Tri.ite h rfl (fun _ h => ?_) (fun _ h => ?_)
  · refine Tri.seq ?_
    refine Tri.regionL ?_
    refine OpsL.cons rfl (op_field_p tyFld45_3 rfl rfl) ?_
    refine OpsL.cons rfl (op_load_p1 tyOne3 rfl rfl rfl) ?_
    refine OpsL.cons rfl (op_field_p tyFld45_4 rfl rfl) ?_
    refine OpsL.cons rfl (op_load_p1 tyOne3 rfl rfl rfl) ?_
    refine OpsL.cons rfl (op_field_p tyFld45_0 rfl rfl) ?_
    refine OpsL.cons rfl (op_load_p1 tyOne3 rfl rfl rfl) ?_
    refine OpsL.cons rfl (op_field_p tyFld45_5 rfl rfl) ?_
    refine OpsL.keep [6, 30, 32, 34, 35] [102, 103] (s' := ⟨[(6, .b (.ptr 103 0)), (30, I x0.Body), (32, I x0.Epoch), (34, I x0.From), (35, .b (.ptr 102 5))], [(102, .box 45 [.i x0.From, .i x0.To, .i x0.Kind, .i x0.Body, .i x0.Epoch, .str x0.Data]), (103, .box 59 [.i 0, .i 0, .i 0, .i 0, .str []])]⟩) rfl ?_
    refine OpsL.cons rfl (op_load_p1 tyOne9 rfl rfl rfl) ?_
    refine OpsL.cons rfl (op_build tyBuild59 rfl rfl) ?_
    refine OpsL.cons rfl (op_store_p tyAgg59 rfl rfl rfl rfl (Nat.le_of_ble_eq_true rfl) rfl) ?_
    refine OpsL.cons rfl (op_assign rfl) ?_
    refine OpsL.nilK [6, 7] [103] (s' := ⟨[(6, .b (.ptr 103 0)), (7, I 2)], [(103, .box 59 [.i x0.Body, .i x0.Epoch, .i 4, .i x0.From, .str x0.Data])]⟩) rfl ?_
    refine Tri.ret ?_
    refine Fin.block_ret ?_
    refine Fin.then_ret ?_
    obtain rfl := Option.some.inj h
    refine Fin.keep [6, 7] [103] (s' := ⟨[(6, .b (.ptr 103 0)), (7, I 2)], [(103, .box 59 [.i x0.Body, .i x0.Epoch, .i 4, .i x0.From, .str x0.Data])]⟩) rfl ?_
    refine Fin.result' [.agg [.i x0.Body, .i x0.Epoch, .i 4, .i x0.From, .str x0.Data], .one (.i 2)] (.inl rfl) rfl (.cons (.agg tyAgg59 rfl rfl rfl rfl) (.cons (.tmp rfl) .nil)) ⟨rfl, rfl⟩
  · refine Tri.seq ?_
    refine Tri.regionL ?_
    refine OpsL.cons rfl (op_field_p tyFld59_2 rfl rfl) ?_
    refine OpsL.cons rfl (op_load_p1 tyOne3 rfl rfl rfl) ?_
    refine OpsL.cons rfl (op_eql rfl rfl) ?_
    refine OpsL.cons rfl (op_move rfl) ?_
    refine OpsL.consG (decide (h0.Phase = 4)) 99 [] (.plain rfl) (eq_t _) rfl rfl (fun g14 => trivial) (fun g14 => op_move rfl) ?_
    refine OpsL.cons rfl (op_pick_and (fun e => e) rfl rfl rfl rfl) ?_
    refine OpsL.cons rfl (op_assign rfl) ?_
    refine OpsL.nilK [3, 6, 38] [101, 103] (s' := ⟨[(3, .b (.ptr 101 0)), (6, .b (.ptr 103 0)), (38, B ((decide (h0.Phase = 4)) && match0))], [(101, .box 59 [.i h0.Body, .i h0.Epoch, .i h0.Phase, .i h0.Peer, .str h0.Data]), (103, .box 59 [.i 0, .i 0, .i 0, .i 0, .str []])]⟩) rfl ?_
    refine Tri.ite h rfl (fun _ h => ?_) (fun _ h => ?_)
    · refine Tri.seq ?_
      refine Tri.regionL ?_
      refine OpsL.cons rfl (op_load_p tyAgg59 rfl rfl rfl rfl) ?_
      refine OpsL.cons rfl (op_store_p tyAgg59 rfl rfl rfl rfl (Nat.le_of_ble_eq_true rfl) rfl) ?_
      refine OpsL.cons rfl (op_assign rfl) ?_
      refine OpsL.nilK [6, 7] [103] (s' := ⟨[(6, .b (.ptr 103 0)), (7, I 2)], [(103, .box 59 [.i h0.Body, .i h0.Epoch, .i h0.Phase, .i h0.Peer, .str h0.Data])]⟩) rfl ?_
      refine Tri.ret ?_
      refine Fin.block_ret ?_
      refine Fin.then_ret ?_
      obtain rfl := Option.some.inj h
      refine Fin.keep [6, 7] [103] (s' := ⟨[(6, .b (.ptr 103 0)), (7, I 2)], [(103, .box 59 [.i h0.Body, .i h0.Epoch, .i h0.Phase, .i h0.Peer, .str h0.Data])]⟩) rfl ?_
      refine Fin.result' [.agg [.i h0.Body, .i h0.Epoch, .i h0.Phase, .i h0.Peer, .str h0.Data], .one (.i 2)] (.inl rfl) rfl (.cons (.agg tyAgg59 rfl rfl rfl rfl) (.cons (.tmp rfl) .nil)) ⟨rfl, rfl⟩
    · refine Tri.skip ?_
      refine Fin.block_normal ?_
      refine Fin.keep [3, 6] [101, 103] (s' := ⟨[(3, .b (.ptr 101 0)), (6, .b (.ptr 103 0))], [(101, .box 59 [.i h0.Body, .i h0.Epoch, .i h0.Phase, .i h0.Peer, .str h0.Data]), (103, .box 59 [.i 0, .i 0, .i 0, .i 0, .str []])]⟩) rfl ?_
      refine Fin.then ?_
      refine Tri.seq ?_
      refine Tri.regionL ?_
      refine OpsL.cons rfl (op_load_p tyAgg59 rfl rfl rfl rfl) ?_
      refine OpsL.cons rfl (op_store_p tyAgg59 rfl rfl rfl rfl (Nat.le_of_ble_eq_true rfl) rfl) ?_
      refine OpsL.cons rfl (op_assign rfl) ?_
      refine OpsL.nilK [6, 7] [103] (s' := ⟨[(6, .b (.ptr 103 0)), (7, I 0)], [(103, .box 59 [.i h0.Body, .i h0.Epoch, .i h0.Phase, .i h0.Peer, .str h0.Data])]⟩) rfl ?_
      refine Tri.ret ?_
      obtain rfl := Option.some.inj h
      refine Fin.keep [6, 7] [103] (s' := ⟨[(6, .b (.ptr 103 0)), (7, I 0)], [(103, .box 59 [.i h0.Body, .i h0.Epoch, .i h0.Phase, .i h0.Peer, .str h0.Data])]⟩) rfl ?_
      refine Fin.result' [.agg [.i h0.Body, .i h0.Epoch, .i h0.Phase, .i h0.Peer, .str h0.Data], .one (.i 0)] (.inl rfl) rfl (.cons (.agg tyAgg59 rfl rfl rfl rfl) (.cons (.tmp rfl) .nil)) ⟨rfl, rfl⟩

def region_rules_2_S (F : Nat) (h0 : Holding) (x0 : Parcel) (match0 : Bool) : Option (Holding × Int) :=
 if ((decide (h0.Phase ≠ 2)) || (!match0)) = true then (some (h0, 0)) else (some ((⟨h0.Body, h0.Epoch, 3, h0.Peer, h0.Data⟩ : Holding), 3))
theorem region_rules_2_spec {F : Nat} {h0 : Holding} {x0 : Parcel} {match0 : Bool} {r : Holding × Int} (h : region_rules_2_S F h0 x0 match0 = some r) : Meets Try.prog 61 [] [.agg (eHolding h0), .agg (eParcel x0), .one (.bool match0)] (Is [] (.tup [.agg (eHolding r.1), .one (.i r.2)])) := by
  unfold region_rules_2_S at h
  refine Meets.intro 18 Try.func61 Try.ntmps61 rfl (by simp) fun E => ?_
  show Tri _ E ⟨18, [], []⟩ _ ⟨[(0, .b (.agg [.i h0.Body, .i h0.Epoch, .i h0.Phase, .i h0.Peer, .str h0.Data])), (1, .b (.agg [.i x0.From, .i x0.To, .i x0.Kind, .i x0.Body, .i x0.Epoch, .str x0.Data])), (2, B match0)], []⟩ _
  refine Tri.seq ?_
  refine Tri.regionL ?_
  refine OpsL.cons rfl (op_box (k := 101) rfl rfl) ?_
  refine OpsL.cons rfl (op_box (k := 102) rfl rfl) ?_
  refine OpsL.cons rfl (op_alloc (k := 103) tyZero59 rfl) ?_
  refine OpsL.cons rfl (op_assign rfl) ?_
  refine OpsL.nilK [2, 3, 6] [101, 103] (s' := ⟨[(2, B match0), (3, .b (.ptr 101 0)), (6, .b (.ptr 103 0))], [(101, .box 59 [.i h0.Body, .i h0.Epoch, .i h0.Phase, .i h0.Peer, .str h0.Data]), (103, .box 59 [.i 0, .i 0, .i 0, .i 0, .str []])]⟩) rfl ?_
  refine Tri.seq ?_
  refine Tri.seq ?_
  refine Tri.regionL ?_
  refine OpsL.cons rfl (op_field_p tyFld59_2 rfl rfl) ?_
  refine OpsL.cons rfl (op_load_p1 tyOne3 rfl rfl rfl) ?_
  refine OpsL.cons rfl (op_neq rfl rfl) ?_
  refine OpsL.cons rfl (op_move rfl) ?_
  refine OpsL.consG (!(decide (h0.Phase ≠ 2))) 99 [] (.plain rfl) (eq_f _) rfl rfl (fun g1 => trivial) (fun g1 => op_move rfl) ?_
  refine OpsL.consG (!(decide (h0.Phase ≠ 2))) 99 [12] (.plain rfl) (eq_f _) rfl rfl (fun g2 => ⟨g2, trivial⟩) (fun g2 => op_not rfl) ?_
  refine OpsL.cons rfl (op_pick_or (fun e => by rw [e]; rfl) rfl rfl rfl rfl) ?_
  refine OpsL.nilK [3, 6, 14] [101, 103] (s' := ⟨[(3, .b (.ptr 101 0)), (6, .b (.ptr 103 0)), (14, B ((decide (h0.Phase ≠ 2)) || (!match0)))], [(101, .box 59 [.i h0.Body, .i h0.Epoch, .i h0.Phase, .i h0.Peer, .str h0.Data]), (103, .box 59 [.i 0, .i 0, .i 0, .i 0, .str []])]⟩) rfl ?_
  refine Tri.ite h rfl (fun _ h => ?_) (fun _ h => ?_)
  · refine Tri.seq ?_
    refine Tri.regionL ?_
    refine OpsL.cons rfl (op_load_p tyAgg59 rfl rfl rfl rfl) ?_
    refine OpsL.cons rfl (op_store_p tyAgg59 rfl rfl rfl rfl (Nat.le_of_ble_eq_true rfl) rfl) ?_
    refine OpsL.cons rfl (op_assign rfl) ?_
    refine OpsL.nilK [6, 7] [103] (s' := ⟨[(6, .b (.ptr 103 0)), (7, I 0)], [(103, .box 59 [.i h0.Body, .i h0.Epoch, .i h0.Phase, .i h0.Peer, .str h0.Data])]⟩) rfl ?_
    refine Tri.ret ?_
    refine Fin.then_ret ?_
    obtain rfl := Option.some.inj h
    refine Fin.keep [6, 7] [103] (s' := ⟨[(6, .b (.ptr 103 0)), (7, I 0)], [(103, .box 59 [.i h0.Body, .i h0.Epoch, .i h0.Phase, .i h0.Peer, .str h0.Data])]⟩) rfl ?_
    refine Fin.result' [.agg [.i h0.Body, .i h0.Epoch, .i h0.Phase, .i h0.Peer, .str h0.Data], .one (.i 0)] (.inl rfl) rfl (.cons (.agg tyAgg59 rfl rfl rfl rfl) (.cons (.tmp rfl) .nil)) ⟨rfl, rfl⟩
  · refine Tri.skip ?_
    refine Fin.keep [3, 6] [101, 103] (s' := ⟨[(3, .b (.ptr 101 0)), (6, .b (.ptr 103 0))], [(101, .box 59 [.i h0.Body, .i h0.Epoch, .i h0.Phase, .i h0.Peer, .str h0.Data]), (103, .box 59 [.i 0, .i 0, .i 0, .i 0, .str []])]⟩) rfl ?_
    refine Fin.then ?_
    refine Tri.seq ?_
    refine Tri.regionL ?_
    refine OpsL.cons rfl (op_field_p tyFld59_2 rfl rfl) ?_
    refine OpsL.cons rfl (op_store_p1 tyOne3 rfl rfl rfl (Nat.le_of_ble_eq_true rfl) rfl) ?_
    refine OpsL.nilK [3, 6] [101, 103] (s' := ⟨[(3, .b (.ptr 101 0)), (6, .b (.ptr 103 0))], [(101, .box 59 [.i h0.Body, .i h0.Epoch, .i 3, .i h0.Peer, .str h0.Data]), (103, .box 59 [.i 0, .i 0, .i 0, .i 0, .str []])]⟩) rfl ?_
    refine Tri.seq ?_
    refine Tri.regionL ?_
    refine OpsL.cons rfl (op_load_p tyAgg59 rfl rfl rfl rfl) ?_
    refine OpsL.cons rfl (op_store_p tyAgg59 rfl rfl rfl rfl (Nat.le_of_ble_eq_true rfl) rfl) ?_
    refine OpsL.cons rfl (op_assign rfl) ?_
    refine OpsL.nilK [6, 7] [103] (s' := ⟨[(6, .b (.ptr 103 0)), (7, I 3)], [(103, .box 59 [.i h0.Body, .i h0.Epoch, .i 3, .i h0.Peer, .str h0.Data])]⟩) rfl ?_
    refine Tri.ret ?_
    obtain rfl := Option.some.inj h
    refine Fin.keep [6, 7] [103] (s' := ⟨[(6, .b (.ptr 103 0)), (7, I 3)], [(103, .box 59 [.i h0.Body, .i h0.Epoch, .i 3, .i h0.Peer, .str h0.Data])]⟩) rfl ?_
    refine Fin.result' [.agg [.i h0.Body, .i h0.Epoch, .i 3, .i h0.Peer, .str h0.Data], .one (.i 3)] (.inl rfl) rfl (.cons (.agg tyAgg59 rfl rfl rfl rfl) (.cons (.tmp rfl) .nil)) ⟨rfl, rfl⟩

def region_rules_3_S (F : Nat) (h0 : Holding) (x0 : Parcel) (match0 : Bool) : Option (Holding × Int) :=
 if ((decide (h0.Phase = 4)) && match0) = true then (some ((⟨h0.Body, h0.Epoch, 1, 0, h0.Data⟩ : Holding), 4)) else (letN ((decide (x0.Epoch < h0.Epoch)) || ((decide (h0.Epoch = x0.Epoch)) && (decide (h0.Phase ≠ 4)))) fun x_1 => if x_1 = true then (some (h0, 4)) else (some (h0, 0)))
theorem region_rules_3_spec {F : Nat} {h0 : Holding} {x0 : Parcel} {match0 : Bool} {r : Holding × Int} (h : region_rules_3_S F h0 x0 match0 = some r) : Meets Try.prog 62 [] [.agg (eHolding h0), .agg (eParcel x0), .one (.bool match0)] (Is [] (.tup [.agg (eHolding r.1), .one (.i r.2)])) := by
  unfold region_rules_3_S at h
  refine Meets.intro 38 Try.func62 Try.ntmps62 rfl (by simp) fun E => ?_
  show Tri _ E ⟨38, [], []⟩ _ ⟨[(0, .b (.agg [.i h0.Body, .i h0.Epoch, .i h0.Phase, .i h0.Peer, .str h0.Data])), (1, .b (.agg [.i x0.From, .i x0.To, .i x0.Kind, .i x0.Body, .i x0.Epoch, .str x0.Data])), (2, B match0)], []⟩ _
  refine Tri.seq ?_
  refine Tri.regionL ?_
  refine OpsL.cons rfl (op_box (k := 101) rfl rfl) ?_
  refine OpsL.cons rfl (op_box (k := 102) rfl rfl) ?_
  refine OpsL.cons rfl (op_alloc (k := 103) tyZero59 rfl) ?_
  refine OpsL.cons rfl (op_assign rfl) ?_
  refine OpsL.nilK [2, 3, 4, 6] [101, 102, 103] (s' := ⟨[(2, B match0), (3, .b (.ptr 101 0)), (4, .b (.ptr 102 0)), (6, .b (.ptr 103 0))], [(101, .box 59 [.i h0.Body, .i h0.Epoch, .i h0.Phase, .i h0.Peer, .str h0.Data]), (102, .box 45 [.i x0.From, .i x0.To, .i x0.Kind, .i x0.Body, .i x0.Epoch, .str x0.Data]), (103, .box 59 [.i 0, .i 0, .i 0, .i 0, .str []])]⟩) rfl ?_
  refine Tri.seq ?_
  refine Tri.block ?_
  refine Tri.seq ?_
  refine Tri.regionL ?_
  refine OpsL.cons rfl (op_field_p tyFld59_2 rfl rfl) ?_
  refine OpsL.cons rfl (op_load_p1 tyOne3 rfl rfl rfl) ?_
  refine OpsL.cons rfl (op_eql rfl rfl) ?_
  refine OpsL.cons rfl (op_move rfl) ?_
  refine OpsL.consG (decide (h0.Phase = 4)) 99 [] (.plain rfl) (eq_t _) rfl rfl (fun g1 => trivial) (fun g1 => op_move rfl) ?_
  refine OpsL.cons rfl (op_pick_and (fun e => e) rfl rfl rfl rfl) ?_
  refine OpsL.cons rfl (op_assign rfl) ?_
  refine OpsL.nilK [3, 4, 6, 8] [101, 102, 103] (s' := ⟨[(3, .b (.ptr 101 0)), (4, .b (.ptr 102 0)), (6, .b (.ptr 103 0)), (8, B ((decide (h0.Phase = 4)) && match0))], [(101, .box 59 [.i h0.Body, .i h0.Epoch, .i h0.Phase, .i h0.Peer, .str h0.Data]), (102, .box 45 [.i x0.From, .i x0.To, .i x0.Kind, .i x0.Body, .i x0.Epoch, .str x0.Data]), (103, .box 59 [.i 0, .i 0, .i 0, .i 0, .str []])]⟩) rfl ?_
  refine Tri.ite h rfl (fun _ h => ?_) (fun _ h => ?_)
  · refine Tri.seq ?_
    refine Tri.regionL ?_
    refine OpsL.cons rfl (op_field_p tyFld59_2 rfl rfl) ?_
    refine OpsL.cons rfl (op_store_p1 tyOne3 rfl rfl rfl (Nat.le_of_ble_eq_true rfl) rfl) ?_
    refine OpsL.cons rfl (op_field_p tyFld59_3 rfl rfl) ?_
    refine OpsL.cons rfl (op_store_p1 tyOne3 rfl rfl rfl (Nat.le_of_ble_eq_true rfl) rfl) ?_
    refine OpsL.nilK [3, 6] [101, 103] (s' := ⟨[(3, .b (.ptr 101 0)), (6, .b (.ptr 103 0))], [(101, .box 59 [.i h0.Body, .i h0.Epoch, .i 1, .i 0, .str h0.Data]), (103, .box 59 [.i 0, .i 0, .i 0, .i 0, .str []])]⟩) rfl ?_
    refine Tri.seq ?_
    refine Tri.regionL ?_
    refine OpsL.cons rfl (op_load_p tyAgg59 rfl rfl rfl rfl) ?_
    refine OpsL.cons rfl (op_store_p tyAgg59 rfl rfl rfl rfl (Nat.le_of_ble_eq_true rfl) rfl) ?_
    refine OpsL.cons rfl (op_assign rfl) ?_
    refine OpsL.nilK [6, 7] [103] (s' := ⟨[(6, .b (.ptr 103 0)), (7, I 4)], [(103, .box 59 [.i h0.Body, .i h0.Epoch, .i 1, .i 0, .str h0.Data])]⟩) rfl ?_
    refine Tri.ret ?_
    refine Fin.block_ret ?_
    refine Fin.then_ret ?_
    obtain rfl := Option.some.inj h
    refine Fin.keep [6, 7] [103] (s' := ⟨[(6, .b (.ptr 103 0)), (7, I 4)], [(103, .box 59 [.i h0.Body, .i h0.Epoch, .i 1, .i 0, .str h0.Data])]⟩) rfl ?_
    refine Fin.result' [.agg [.i h0.Body, .i h0.Epoch, .i 1, .i 0, .str h0.Data], .one (.i 4)] (.inl rfl) rfl (.cons (.agg tyAgg59 rfl rfl rfl rfl) (.cons (.tmp rfl) .nil)) ⟨rfl, rfl⟩
  · refine Tri.seq ?_
    refine Tri.regionL ?_
    refine OpsL.cons rfl (op_field_p tyFld59_1 rfl rfl) ?_
    refine OpsL.cons rfl (op_load_p1 tyOne3 rfl rfl rfl) ?_
    refine OpsL.cons rfl (op_field_p tyFld45_4 rfl rfl) ?_
    refine OpsL.cons rfl (op_load_p1 tyOne3 rfl rfl rfl) ?_
    refine OpsL.cons rfl (op_gtr rfl rfl) ?_
    refine OpsL.cons rfl (op_move rfl) ?_
    refine OpsL.consG (!(decide (x0.Epoch < h0.Epoch))) 99 [] (.plain rfl) (eq_f _) rfl rfl (fun g2 => trivial) (fun g2 => op_field_p tyFld59_1 rfl rfl) ?_
    refine OpsL.keep [3, 4, 6, 24, 25] [101, 102, 103] (s' := ⟨[(3, .b (.ptr 101 0)), (4, .b (.ptr 102 0)), (6, .b (.ptr 103 0)), (24, B (decide (x0.Epoch < h0.Epoch))), (25, .opt (!(decide (x0.Epoch < h0.Epoch))) (.ptr 101 1))], [(101, .box 59 [.i h0.Body, .i h0.Epoch, .i h0.Phase, .i h0.Peer, .str h0.Data]), (102, .box 45 [.i x0.From, .i x0.To, .i x0.Kind, .i x0.Body, .i x0.Epoch, .str x0.Data]), (103, .box 59 [.i 0, .i 0, .i 0, .i 0, .str []])]⟩) rfl ?_
    refine OpsL.consG (!(decide (x0.Epoch < h0.Epoch))) 99 [25] (.plain rfl) (eq_f _) rfl rfl (fun g3 => ⟨g3, trivial⟩) (fun g3 => op_load_p1 tyOne3 rfl rfl rfl) ?_
    refine OpsL.consG (!(decide (x0.Epoch < h0.Epoch))) 99 [] (.plain rfl) (eq_f _) rfl rfl (fun g4 => trivial) (fun g4 => op_field_p tyFld45_4 rfl rfl) ?_
    refine OpsL.consG (!(decide (x0.Epoch < h0.Epoch))) 99 [27] (.plain rfl) (eq_f _) rfl rfl (fun g5 => ⟨g5, trivial⟩) (fun g5 => op_load_p1 tyOne3 rfl rfl rfl) ?_
    refine OpsL.consG (!(decide (x0.Epoch < h0.Epoch))) 99 [26, 28] (.plain rfl) (eq_f _) rfl rfl (fun g6 => ⟨g6, g6, trivial⟩) (fun g6 => op_eql rfl rfl) ?_
    refine OpsL.consG (!(decide (x0.Epoch < h0.Epoch))) 99 [29] (.plain rfl) (eq_f _) rfl rfl (fun g7 => ⟨g7, trivial⟩) (fun g7 => op_move rfl) ?_
    refine OpsL.consG ((!(decide (x0.Epoch < h0.Epoch))) && (decide (h0.Epoch = x0.Epoch))) 99 [] (.under rfl) (and_t _ _) rfl rfl (fun g8 => trivial) (fun g8 => op_field_p tyFld59_2 rfl rfl) ?_
    refine OpsL.consG ((!(decide (x0.Epoch < h0.Epoch))) && (decide (h0.Epoch = x0.Epoch))) 99 [31] (.under rfl) (and_t _ _) rfl rfl (fun g9 => ⟨g9, trivial⟩) (fun g9 => op_load_p1 tyOne3 rfl rfl rfl) ?_
    refine OpsL.consG ((!(decide (x0.Epoch < h0.Epoch))) && (decide (h0.Epoch = x0.Epoch))) 99 [32] (.under rfl) (and_t _ _) rfl rfl (fun g10 => ⟨g10, trivial⟩) (fun g10 => op_neq rfl rfl) ?_
    refine OpsL.keep [3, 6, 24, 30, 33] [101, 103] (s' := ⟨[(3, .b (.ptr 101 0)), (6, .b (.ptr 103 0)), (24, B (decide (x0.Epoch < h0.Epoch))), (30, .opt (!(decide (x0.Epoch < h0.Epoch))) (.one (.bool (decide (h0.Epoch = x0.Epoch))))), (33, .opt ((!(decide (x0.Epoch < h0.Epoch))) && (decide (h0.Epoch = x0.Epoch))) (.one (.bool (decide (h0.Phase ≠ 4)))))], [(101, .box 59 [.i h0.Body, .i h0.Epoch, .i h0.Phase, .i h0.Peer, .str h0.Data]), (103, .box 59 [.i 0, .i 0, .i 0, .i 0, .str []])]⟩) rfl ?_
    refine OpsL.consG (!(decide (x0.Epoch < h0.Epoch))) 99 [30] (.plain rfl) (eq_f _) rfl rfl (fun g11 => ⟨g11, trivial⟩) (fun g11 => op_pick_and (fun e => by rw [g11, e]; rfl) rfl rfl rfl rfl) ?_
    refine OpsL.consB h rfl (op_pick_or (fun e => by rw [e]; rfl) rfl rfl rfl rfl) (fun x_1 h => ?_)
    refine OpsL.cons rfl (op_assign rfl) ?_
    refine OpsL.nilK [3, 6, 18] [101, 103] (s' := ⟨[(3, .b (.ptr 101 0)), (6, .b (.ptr 103 0)), (18, B x_1)], [(101, .box 59 [.i h0.Body, .i h0.Epoch, .i h0.Phase, .i h0.Peer, .str h0.Data]), (103, .box 59 [.i 0, .i 0, .i 0, .i 0, .str []])]⟩) rfl ?_
    refine Tri.ite h rfl (fun _ h => ?_) (fun _ h => ?_)
    · refine Tri.seq ?_
      refine Tri.regionL ?_
      refine OpsL.cons rfl (op_load_p tyAgg59 rfl rfl rfl rfl) ?_
      refine OpsL.cons rfl (op_store_p tyAgg59 rfl rfl rfl rfl (Nat.le_of_ble_eq_true rfl) rfl) ?_
      refine OpsL.cons rfl (op_assign rfl) ?_
      refine OpsL.nilK [6, 7] [103] (s' := ⟨[(6, .b (.ptr 103 0)), (7, I 4)], [(103, .box 59 [.i h0.Body, .i h0.Epoch, .i h0.Phase, .i h0.Peer, .str h0.Data])]⟩) rfl ?_
      refine Tri.ret ?_
      refine Fin.block_ret ?_
      refine Fin.then_ret ?_
      obtain rfl := Option.some.inj h
      refine Fin.keep [6, 7] [103] (s' := ⟨[(6, .b (.ptr 103 0)), (7, I 4)], [(103, .box 59 [.i h0.Body, .i h0.Epoch, .i h0.Phase, .i h0.Peer, .str h0.Data])]⟩) rfl ?_
      refine Fin.result' [.agg [.i h0.Body, .i h0.Epoch, .i h0.Phase, .i h0.Peer, .str h0.Data], .one (.i 4)] (.inl rfl) rfl (.cons (.agg tyAgg59 rfl rfl rfl rfl) (.cons (.tmp rfl) .nil)) ⟨rfl, rfl⟩
    · refine Tri.skip ?_
      refine Fin.block_normal ?_
      refine Fin.keep [3, 6] [101, 103] (s' := ⟨[(3, .b (.ptr 101 0)), (6, .b (.ptr 103 0))], [(101, .box 59 [.i h0.Body, .i h0.Epoch, .i h0.Phase, .i h0.Peer, .str h0.Data]), (103, .box 59 [.i 0, .i 0, .i 0, .i 0, .str []])]⟩) rfl ?_
      refine Fin.then ?_
      refine Tri.seq ?_
      refine Tri.regionL ?_
      refine OpsL.cons rfl (op_load_p tyAgg59 rfl rfl rfl rfl) ?_
      refine OpsL.cons rfl (op_store_p tyAgg59 rfl rfl rfl rfl (Nat.le_of_ble_eq_true rfl) rfl) ?_
      refine OpsL.cons rfl (op_assign rfl) ?_
      refine OpsL.nilK [6, 7] [103] (s' := ⟨[(6, .b (.ptr 103 0)), (7, I 0)], [(103, .box 59 [.i h0.Body, .i h0.Epoch, .i h0.Phase, .i h0.Peer, .str h0.Data])]⟩) rfl ?_
      refine Tri.ret ?_
      obtain rfl := Option.some.inj h
      refine Fin.keep [6, 7] [103] (s' := ⟨[(6, .b (.ptr 103 0)), (7, I 0)], [(103, .box 59 [.i h0.Body, .i h0.Epoch, .i h0.Phase, .i h0.Peer, .str h0.Data])]⟩) rfl ?_
      refine Fin.result' [.agg [.i h0.Body, .i h0.Epoch, .i h0.Phase, .i h0.Peer, .str h0.Data], .one (.i 0)] (.inl rfl) rfl (.cons (.agg tyAgg59 rfl rfl rfl rfl) (.cons (.tmp rfl) .nil)) ⟨rfl, rfl⟩

def region_rules_4_S (F : Nat) (h0 : Holding) (x0 : Parcel) (match0 : Bool) : Option (Holding × Int) :=
 if ((decide (h0.Phase = 3)) && match0) = true then (some ((⟨h0.Body, h0.Epoch, 0, 0, []⟩ : Holding), 0)) else (some (h0, 0))
theorem region_rules_4_spec {F : Nat} {h0 : Holding} {x0 : Parcel} {match0 : Bool} {r : Holding × Int} (h : region_rules_4_S F h0 x0 match0 = some r) : Meets Try.prog 63 [] [.agg (eHolding h0), .agg (eParcel x0), .one (.bool match0)] (Is [] (.tup [.agg (eHolding r.1), .one (.i r.2)])) := by
  unfold region_rules_4_S at h
  refine Meets.intro 20 Try.func63 Try.ntmps63 rfl (by simp) fun E => ?_
  show Tri _ E ⟨20, [], []⟩ _ ⟨[(0, .b (.agg [.i h0.Body, .i h0.Epoch, .i h0.Phase, .i h0.Peer, .str h0.Data])), (1, .b (.agg [.i x0.From, .i x0.To, .i x0.Kind, .i x0.Body, .i x0.Epoch, .str x0.Data])), (2, B match0)], []⟩ _
  refine Tri.seq ?_
  refine Tri.regionL ?_
  refine OpsL.cons rfl (op_box (k := 101) rfl rfl) ?_
  refine OpsL.cons rfl (op_box (k := 102) rfl rfl) ?_
  refine OpsL.cons rfl (op_alloc (k := 103) tyZero59 rfl) ?_
  refine OpsL.cons rfl (op_assign rfl) ?_
  refine OpsL.nilK [2, 3, 6] [101, 103] (s' := ⟨[(2, B match0), (3, .b (.ptr 101 0)), (6, .b (.ptr 103 0))], [(101, .box 59 [.i h0.Body, .i h0.Epoch, .i h0.Phase, .i h0.Peer, .str h0.Data]), (103, .box 59 [.i 0, .i 0, .i 0, .i 0, .str []])]⟩) rfl ?_
  refine Tri.seq ?_
  refine Tri.seq ?_
  refine Tri.regionL ?_
  refine OpsL.cons rfl (op_field_p tyFld59_2 rfl rfl) ?_
  refine OpsL.cons rfl (op_load_p1 tyOne3 rfl rfl rfl) ?_
  refine OpsL.cons rfl (op_eql rfl rfl) ?_
  refine OpsL.cons rfl (op_move rfl) ?_
  refine OpsL.consG (decide (h0.Phase = 3)) 99 [] (.plain rfl) (eq_t _) rfl rfl (fun g1 => trivial) (fun g1 => op_move rfl) ?_
  refine OpsL.cons rfl (op_pick_and (fun e => e) rfl rfl rfl rfl) ?_
  refine OpsL.nilK [3, 6, 13] [101, 103] (s' := ⟨[(3, .b (.ptr 101 0)), (6, .b (.ptr 103 0)), (13, B ((decide (h0.Phase = 3)) && match0))], [(101, .box 59 [.i h0.Body, .i h0.Epoch, .i h0.Phase, .i h0.Peer, .str h0.Data]), (103, .box 59 [.i 0, .i 0, .i 0, .i 0, .str []])]⟩) rfl ?_
  refine Tri.ite h rfl (fun _ h => ?_) (fun _ h => ?_)
  · refine Tri.seq ?_
    refine Tri.regionL ?_
    refine OpsL.cons rfl (op_field_p tyFld59_0 rfl rfl) ?_
    refine OpsL.cons rfl (op_load_p1 tyOne3 rfl rfl rfl) ?_
    refine OpsL.cons rfl (op_field_p tyFld59_1 rfl rfl) ?_
    refine OpsL.cons rfl (op_load_p1 tyOne3 rfl rfl rfl) ?_
    refine OpsL.cons rfl (op_build tyBuild59 rfl rfl) ?_
    refine OpsL.cons rfl (op_store_p tyAgg59 rfl rfl rfl rfl (Nat.le_of_ble_eq_true rfl) rfl) ?_
    refine OpsL.cons rfl (op_assign rfl) ?_
    refine OpsL.nilK [6, 7] [103] (s' := ⟨[(6, .b (.ptr 103 0)), (7, I 0)], [(103, .box 59 [.i h0.Body, .i h0.Epoch, .i 0, .i 0, .str []])]⟩) rfl ?_
    refine Tri.ret ?_
    refine Fin.then_ret ?_
    obtain rfl := Option.some.inj h
    refine Fin.keep [6, 7] [103] (s' := ⟨[(6, .b (.ptr 103 0)), (7, I 0)], [(103, .box 59 [.i h0.Body, .i h0.Epoch, .i 0, .i 0, .str []])]⟩) rfl ?_
    refine Fin.result' [.agg [.i h0.Body, .i h0.Epoch, .i 0, .i 0, .str []], .one (.i 0)] (.inl rfl) rfl (.cons (.agg tyAgg59 rfl rfl rfl rfl) (.cons (.tmp rfl) .nil)) ⟨rfl, rfl⟩
  · refine Tri.skip ?_
    refine Fin.keep [3, 6] [101, 103] (s' := ⟨[(3, .b (.ptr 101 0)), (6, .b (.ptr 103 0))], [(101, .box 59 [.i h0.Body, .i h0.Epoch, .i h0.Phase, .i h0.Peer, .str h0.Data]), (103, .box 59 [.i 0, .i 0, .i 0, .i 0, .str []])]⟩) rfl ?_
    refine Fin.then ?_
    refine Tri.seq ?_
    refine Tri.regionL ?_
    refine OpsL.cons rfl (op_load_p tyAgg59 rfl rfl rfl rfl) ?_
    refine OpsL.cons rfl (op_store_p tyAgg59 rfl rfl rfl rfl (Nat.le_of_ble_eq_true rfl) rfl) ?_
    refine OpsL.cons rfl (op_assign rfl) ?_
    refine OpsL.nilK [6, 7] [103] (s' := ⟨[(6, .b (.ptr 103 0)), (7, I 0)], [(103, .box 59 [.i h0.Body, .i h0.Epoch, .i h0.Phase, .i h0.Peer, .str h0.Data])]⟩) rfl ?_
    refine Tri.ret ?_
    obtain rfl := Option.some.inj h
    refine Fin.keep [6, 7] [103] (s' := ⟨[(6, .b (.ptr 103 0)), (7, I 0)], [(103, .box 59 [.i h0.Body, .i h0.Epoch, .i h0.Phase, .i h0.Peer, .str h0.Data])]⟩) rfl ?_
    refine Fin.result' [.agg [.i h0.Body, .i h0.Epoch, .i h0.Phase, .i h0.Peer, .str h0.Data], .one (.i 0)] (.inl rfl) rfl (.cons (.agg tyAgg59 rfl rfl rfl rfl) (.cons (.tmp rfl) .nil)) ⟨rfl, rfl⟩

def ruleAt_S (F : Nat) (fn0 : Nat) (h0 : Holding) (x0 : Parcel) (match0 : Bool) : Option (Holding × Int) :=
  if fn0 = 60 then region_rules_1_S F h0 x0 match0 else if fn0 = 61 then region_rules_2_S F h0 x0 match0 else if fn0 = 62 then region_rules_3_S F h0 x0 match0 else if fn0 = 63 then region_rules_4_S F h0 x0 match0 else none
theorem ruleAt_spec {F : Nat} {fn0 : Nat} {h0 : Holding} {x0 : Parcel} {match0 : Bool} {r : Holding × Int} (h : ruleAt_S F fn0 h0 x0 match0 = some r) : Meets Try.prog fn0 [] [.agg (eHolding h0), .agg (eParcel x0), .one (.bool match0)] (Is [] (.tup [.agg (eHolding r.1), .one (.i r.2)])) := by
  unfold ruleAt_S at h
  split at h
  · next e => subst e; exact region_rules_1_spec h
  · next =>
    split at h
    · next e => subst e; exact region_rules_2_spec h
    · next =>
      split at h
      · next e => subst e; exact region_rules_3_spec h
      · next =>
        split at h
        · next e => subst e; exact region_rules_4_spec h
        · next =>
          simp at h
theorem ruleAt_goes {F : Nat} {fn0 : Nat} {h0 : Holding} {x0 : Parcel} {match0 : Bool} {r : Holding × Int} (h : ruleAt_S F fn0 h0 x0 match0 = some r) : Goes Try.prog fn0 := by
  unfold ruleAt_S at h
  split at h
  · next e => subst e; exact goes60
  · next =>
    split at h
    · next e => subst e; exact goes61
    · next =>
      split at h
      · next e => subst e; exact goes62
      · next =>
        split at h
        · next e => subst e; exact goes63
        · next =>
          simp at h

def region_rules_S (F : Nat) : Option (List Rule) :=
 some [(⟨1, 60⟩ : Rule), (⟨2, 61⟩ : Rule), (⟨3, 62⟩ : Rule), (⟨4, 63⟩ : Rule)]
theorem region_rules_spec (k0 : Nat) {F : Nat} {r : (List Rule)} (h : region_rules_S F = some r) : Meets Try.prog 53 [] [] (Is [(k0, .row 81 2 (r.map eRule))] (.b (.row k0))) := by
  unfold region_rules_S at h
  refine Meets.intro 6 Try.func53 Try.ntmps53 rfl (by simp) fun E => ?_
  show Tri _ E ⟨6, [], []⟩ _ ⟨[], []⟩ _
  refine Tri.seq ?_
  refine Tri.regionL ?_
  refine OpsL.cons rfl (op_assign rfl) ?_
  refine OpsL.nilK [] [] (s' := ⟨[], []⟩) rfl ?_
  refine Tri.seq ?_
  refine Tri.regionL ?_
  refine OpsL.cons rfl (op_build tyBuild81 rfl rfl) ?_
  refine OpsL.cons rfl (op_build tyBuild81 rfl rfl) ?_
  refine OpsL.cons rfl (op_build tyBuild81 rfl rfl) ?_
  refine OpsL.cons rfl (op_build tyBuild81 rfl rfl) ?_
  refine OpsL.cons rfl (op_buildSlice (k := 101) (es := [(⟨1, 60⟩ : Rule), (⟨2, 61⟩ : Rule), (⟨3, 62⟩ : Rule), (⟨4, 63⟩ : Rule)].map eRule) tySl77 rfl rfl (uni_map fun _ => rfl) rfl (by decide) (by decide) rfl) ?_
  refine OpsL.cons rfl (op_assign rfl) ?_
  refine OpsL.nilK [0] [101] (s' := ⟨[(0, .b (.row 101))], [(101, .row 81 2 ([(⟨1, 60⟩ : Rule), (⟨2, 61⟩ : Rule), (⟨3, 62⟩ : Rule), (⟨4, 63⟩ : Rule)].map eRule))]⟩) rfl ?_
  refine Tri.ret ?_
  obtain rfl := Option.some.inj h
  refine Fin.keep [0] [101] (s' := ⟨[(0, .b (.row 101))], [(101, .row 81 2 ([(⟨1, 60⟩ : Rule), (⟨2, 61⟩ : Rule), (⟨3, 62⟩ : Rule), (⟨4, 63⟩ : Rule)].map eRule))]⟩) rfl ?_
  refine Fin.resultK 101 k0 [.row 101] (.inl rfl) rfl (.cons (.tmp rfl) .nil) rfl rfl rfl rfl ⟨rfl, rfl⟩

def region_Receive_S (F : Nat) (l0 : List Holding) (at0 : Int) (x0 : Parcel) : Option ((List Holding) × (List Parcel)) :=
 Option.bind (gcall (!(decide (x0.To ≠ at0))) (region_node_S F x0.From)) (fun x_1 => letN (((decide (x0.To ≠ at0)) || (!x_1)) || (decide (x0.From = at0))) fun x_2 => Option.bind (gcall (!x_2) (region_known_S F x0.Body)) (fun x_3 => letN (((x_2 || (!x_3)) || (decide (x0.Epoch < 1))) || (decide (1099511627776 < x0.Epoch))) fun x_4 => if x_4 = true then (Option.bind (slices_Clone_S F l0) (fun x_5 => some (x_5, []))) else (Option.bind (region_Get_S F l0 x0.Body) (fun x_6 => Option.bind (Option.bind (region_rules_S F) (fun x_7 => iter F (fun x_8 => if (decide (x_8 < (x_7.length : Int))) = true then (Option.bind (idx? x_7 x_8) (fun x_9 => if (decide (x_9.kind ≠ x0.Kind)) = true then (some (.inl (IntKind.i64.wrap (x_8 + 1)))) else (letN ((decide (x_6.Epoch = x0.Epoch)) && (decide (x_6.Peer = x0.From))) fun x_10 => Option.bind (ruleAt_S F x_9.next x_6 x0 x_10) (un2 fun x_11 x_12 => Option.bind (slices_Clone_S F l0) (fun x_13 => Option.bind (if (decide (x_11 ≠ x_6)) = true then (Option.bind (region_set_S F l0 x_11) (fun x_15 => some x_15)) else (some x_13)) (fun out_14 => if (decide (x_12 = 0)) = true then (some (.inr (.inr (out_14, [])))) else (some (.inr (.inr (out_14, [(⟨at0, x0.From, x_12, x0.Body, x0.Epoch, []⟩ : Parcel)])))))))))) else (some (.inr (.inl ())))) 0)) (alt2 (fun _ => Option.bind (slices_Clone_S F l0) (fun x_16 => some (x_16, []))) (fun y => some y))))))
theorem region_Receive_spec (k0 : Nat) {F : Nat} {l0 : List Holding} {at0 : Int} {x0 : Parcel} {r : (List Holding) × (List Parcel)} (h : region_Receive_S F l0 at0 x0 = some r) : Meets Try.prog 32 [] [.one (.sl 5 (l0.map eHolding)), .one (.i at0), .agg (eParcel x0)] (Is [(k0, .row 59 5 (r.1.map eHolding))] (.tup [.row k0, .one (.sl 6 (r.2.map eParcel))])) := by
  unfold region_Receive_S at h
  refine Meets.intro 108 Try.func32 Try.ntmps32 rfl (by simp) fun E => ?_
  show Tri _ E ⟨108, [], []⟩ _ ⟨[(0, .b (.one (.sl 5 (l0.map eHolding)))), (1, I at0), (2, .b (.agg [.i x0.From, .i x0.To, .i x0.Kind, .i x0.Body, .i x0.Epoch, .str x0.Data]))], []⟩ _
  refine Tri.seq ?_
  refine Tri.regionL ?_
  refine OpsL.cons rfl (op_box (k := 101) rfl rfl) ?_
  refine OpsL.cons rfl (op_assign rfl) ?_
  refine OpsL.cons rfl (op_assign rfl) ?_
  refine OpsL.nilK [0, 1, 5] [101] (s' := ⟨[(0, .b (.one (.sl 5 (l0.map eHolding)))), (1, I at0), (5, .b (.ptr 101 0))], [(101, .box 45 [.i x0.From, .i x0.To, .i x0.Kind, .i x0.Body, .i x0.Epoch, .str x0.Data])]⟩) rfl ?_
  refine Tri.seq ?_
  refine Tri.seq ?_
  refine Tri.regionL ?_
  refine OpsL.cons rfl (op_field_p tyFld45_1 rfl rfl) ?_
  refine OpsL.cons rfl (op_load_p1 tyOne3 rfl rfl rfl) ?_
  refine OpsL.cons rfl (op_move rfl) ?_
  refine OpsL.cons rfl (op_neq rfl rfl) ?_
  refine OpsL.cons rfl (op_move rfl) ?_
  refine OpsL.consG (!(decide (x0.To ≠ at0))) 99 [] (.plain rfl) (eq_f _) rfl rfl (fun g1 => trivial) (fun g1 => op_field_p tyFld45_0 rfl rfl) ?_
  refine OpsL.consG (!(decide (x0.To ≠ at0))) 99 [19] (.plain rfl) (eq_f _) rfl rfl (fun g2 => ⟨g2, trivial⟩) (fun g2 => op_load_p1 tyOne3 rfl rfl rfl) ?_
  refine OpsL.keep [0, 1, 5, 18, 20] [101] (s' := ⟨[(0, .b (.one (.sl 5 (l0.map eHolding)))), (1, I at0), (5, .b (.ptr 101 0)), (18, B (decide (x0.To ≠ at0))), (20, .opt (!(decide (x0.To ≠ at0))) (.one (.i x0.From)))], [(101, .box 45 [.i x0.From, .i x0.To, .i x0.Kind, .i x0.Body, .i x0.Epoch, .str x0.Data])]⟩) rfl ?_
  obtain ⟨x_1, e4, h⟩ := bnd h
  refine OpsL.consG (!(decide (x0.To ≠ at0))) 99 [20] (.plain rfl) (eq_f _) rfl rfl (fun g3 => ⟨g3, trivial⟩) (fun g3 => op_call0 (region_node_spec (gc e4 g3)) goes47 rfl rfl) ?_
  refine OpsL.consG (!(decide (x0.To ≠ at0))) 99 [21] (.plain rfl) (eq_f _) rfl rfl (fun g5 => ⟨g5, trivial⟩) (fun g5 => op_not rfl) ?_
  refine OpsL.cons rfl (op_pick_or (fun e => by rw [e]; rfl) rfl rfl rfl rfl) ?_
  refine OpsL.cons rfl (op_move rfl) ?_
  refine OpsL.consG (!((decide (x0.To ≠ at0)) || (!x_1))) 99 [] (.plain rfl) (eq_f _) rfl rfl (fun g6 => trivial) (fun g6 => op_field_p tyFld45_0 rfl rfl) ?_
  refine OpsL.consG (!((decide (x0.To ≠ at0)) || (!x_1))) 99 [25] (.plain rfl) (eq_f _) rfl rfl (fun g7 => ⟨g7, trivial⟩) (fun g7 => op_load_p1 tyOne3 rfl rfl rfl) ?_
  refine OpsL.consG (!((decide (x0.To ≠ at0)) || (!x_1))) 99 [] (.plain rfl) (eq_f _) rfl rfl (fun g8 => trivial) (fun g8 => op_move rfl) ?_
  refine OpsL.consG (!((decide (x0.To ≠ at0)) || (!x_1))) 99 [26, 27] (.plain rfl) (eq_f _) rfl rfl (fun g9 => ⟨g9, g9, trivial⟩) (fun g9 => op_eql rfl rfl) ?_
  refine OpsL.keep [0, 1, 5, 24, 28] [101] (s' := ⟨[(0, .b (.one (.sl 5 (l0.map eHolding)))), (1, I at0), (5, .b (.ptr 101 0)), (24, B ((decide (x0.To ≠ at0)) || (!x_1))), (28, .opt (!((decide (x0.To ≠ at0)) || (!x_1))) (.one (.bool (decide (x0.From = at0)))))], [(101, .box 45 [.i x0.From, .i x0.To, .i x0.Kind, .i x0.Body, .i x0.Epoch, .str x0.Data])]⟩) rfl ?_
  refine OpsL.consB h rfl (op_pick_or (fun e => by rw [e]; rfl) rfl rfl rfl rfl) (fun x_2 h => ?_)
  refine OpsL.cons rfl (op_move rfl) ?_
  refine OpsL.consG (!x_2) 99 [] (.plain rfl) (eq_f _) rfl rfl (fun g10 => trivial) (fun g10 => op_field_p tyFld45_3 rfl rfl) ?_
  refine OpsL.consG (!x_2) 99 [31] (.plain rfl) (eq_f _) rfl rfl (fun g11 => ⟨g11, trivial⟩) (fun g11 => op_load_p1 tyOne3 rfl rfl rfl) ?_
  obtain ⟨x_3, e13, h⟩ := bnd h
  refine OpsL.consG (!x_2) 99 [32] (.plain rfl) (eq_f _) rfl rfl (fun g12 => ⟨g12, trivial⟩) (fun g12 => op_call0 (region_known_spec (gc e13 g12)) goes44 rfl rfl) ?_
  refine OpsL.consG (!x_2) 99 [33] (.plain rfl) (eq_f _) rfl rfl (fun g14 => ⟨g14, trivial⟩) (fun g14 => op_not rfl) ?_
  refine OpsL.keep [0, 1, 5, 30, 34] [101] (s' := ⟨[(0, .b (.one (.sl 5 (l0.map eHolding)))), (1, I at0), (5, .b (.ptr 101 0)), (30, B x_2), (34, .opt (!x_2) (.one (.bool (!x_3))))], [(101, .box 45 [.i x0.From, .i x0.To, .i x0.Kind, .i x0.Body, .i x0.Epoch, .str x0.Data])]⟩) rfl ?_
  refine OpsL.cons rfl (op_pick_or (fun e => by rw [e]; rfl) rfl rfl rfl rfl) ?_
  refine OpsL.cons rfl (op_move rfl) ?_
  refine OpsL.consG (!(x_2 || (!x_3))) 99 [] (.plain rfl) (eq_f _) rfl rfl (fun g15 => trivial) (fun g15 => op_field_p tyFld45_4 rfl rfl) ?_
  refine OpsL.consG (!(x_2 || (!x_3))) 99 [37] (.plain rfl) (eq_f _) rfl rfl (fun g16 => ⟨g16, trivial⟩) (fun g16 => op_load_p1 tyOne3 rfl rfl rfl) ?_
  refine OpsL.consG (!(x_2 || (!x_3))) 99 [38] (.plain rfl) (eq_f _) rfl rfl (fun g17 => ⟨g17, trivial⟩) (fun g17 => op_lss rfl rfl) ?_
  refine OpsL.cons rfl (op_pick_or (fun e => by rw [e]; rfl) rfl rfl rfl rfl) ?_
  refine OpsL.cons rfl (op_move rfl) ?_
  refine OpsL.consG (!((x_2 || (!x_3)) || (decide (x0.Epoch < 1)))) 99 [] (.plain rfl) (eq_f _) rfl rfl (fun g18 => trivial) (fun g18 => op_field_p tyFld45_4 rfl rfl) ?_
  refine OpsL.keep [0, 1, 5, 41, 42] [101] (s' := ⟨[(0, .b (.one (.sl 5 (l0.map eHolding)))), (1, I at0), (5, .b (.ptr 101 0)), (41, B ((x_2 || (!x_3)) || (decide (x0.Epoch < 1)))), (42, .opt (!((x_2 || (!x_3)) || (decide (x0.Epoch < 1)))) (.ptr 101 4))], [(101, .box 45 [.i x0.From, .i x0.To, .i x0.Kind, .i x0.Body, .i x0.Epoch, .str x0.Data])]⟩) rfl ?_
  refine OpsL.consG (!((x_2 || (!x_3)) || (decide (x0.Epoch < 1)))) 99 [42] (.plain rfl) (eq_f _) rfl rfl (fun g19 => ⟨g19, trivial⟩) (fun g19 => op_load_p1 tyOne3 rfl rfl rfl) ?_
  refine OpsL.consG (!((x_2 || (!x_3)) || (decide (x0.Epoch < 1)))) 99 [43] (.plain rfl) (eq_f _) rfl rfl (fun g20 => ⟨g20, trivial⟩) (fun g20 => op_gtr rfl rfl) ?_
  refine OpsL.consB h rfl (op_pick_or (fun e => by rw [e]; rfl) rfl rfl rfl rfl) (fun x_4 h => ?_)
  refine OpsL.nilK [0, 1, 5, 45] [101] (s' := ⟨[(0, .b (.one (.sl 5 (l0.map eHolding)))), (1, I at0), (5, .b (.ptr 101 0)), (45, B x_4)], [(101, .box 45 [.i x0.From, .i x0.To, .i x0.Kind, .i x0.Body, .i x0.Epoch, .str x0.Data])]⟩) rfl ?_
  refine Tri.ite h rfl (fun _ h => ?_) (fun _ h => ?_)
  · refine Tri.seq ?_
    refine Tri.regionL ?_
    refine OpsL.cons rfl (op_move rfl) ?_
    obtain ⟨x_5, e21, h⟩ := bnd h
    refine OpsL.cons rfl (op_call (slices_Clone_spec 102 e21) goes52 rfl trivial rfl rfl) ?_
    refine OpsL.cons rfl (op_assign rfl) ?_
    refine OpsL.cons rfl (op_assign rfl) ?_
    refine OpsL.nilK [6, 7] [102] (s' := ⟨[(6, .b (.row 102)), (7, .b (.one (.nil)))], [(102, .row 59 5 (x_5.map eHolding))]⟩) rfl ?_
    refine Tri.ret ?_
    refine Fin.then_ret ?_
    obtain rfl := Option.some.inj h
    refine Fin.keep [6, 7] [102] (s' := ⟨[(6, .b (.row 102)), (7, .b (.one (.nil)))], [(102, .row 59 5 (x_5.map eHolding))]⟩) rfl ?_
    refine Fin.nilsl 7 6 rfl (by decide) ?_
    refine Fin.resultK 102 k0 [.row 102, .one (.sl 6 ([].map eParcel))] (.inl rfl) rfl (.cons (.tmp rfl) (.cons (.tmp rfl) .nil)) rfl rfl rfl rfl ⟨rfl, rfl⟩
  · refine Tri.skip ?_
    refine Fin.keep [0, 1, 5] [101] (s' := ⟨[(0, .b (.one (.sl 5 (l0.map eHolding)))), (1, I at0), (5, .b (.ptr 101 0))], [(101, .box 45 [.i x0.From, .i x0.To, .i x0.Kind, .i x0.Body, .i x0.Epoch, .str x0.Data])]⟩) rfl ?_
    refine Fin.then ?_
    refine Tri.seq ?_
    refine Tri.regionL ?_
    refine OpsL.cons rfl (op_move rfl) ?_
    refine OpsL.cons rfl (op_field_p tyFld45_3 rfl rfl) ?_
    refine OpsL.cons rfl (op_load_p1 tyOne3 rfl rfl rfl) ?_
    obtain ⟨x_6, e22, h⟩ := bnd h
    refine OpsL.cons rfl (op_call0 (region_Get_spec e22) goes30 rfl rfl) ?_
    refine OpsL.cons rfl (op_alloc (k := 103) tyZero59 rfl) ?_
    refine OpsL.cons rfl (op_store_p tyAgg59 rfl rfl rfl rfl (Nat.le_of_ble_eq_true rfl) rfl) ?_
    refine OpsL.nilK [0, 1, 5, 8] [101, 103] (s' := ⟨[(0, .b (.one (.sl 5 (l0.map eHolding)))), (1, I at0), (5, .b (.ptr 101 0)), (8, .b (.ptr 103 0))], [(101, .box 45 [.i x0.From, .i x0.To, .i x0.Kind, .i x0.Body, .i x0.Epoch, .str x0.Data]), (103, .box 59 [.i x_6.Body, .i x_6.Epoch, .i x_6.Phase, .i x_6.Peer, .str x_6.Data])]⟩) rfl ?_
    obtain ⟨v23, h24, h⟩ := bnd h
    refine Tri.seqJ (v := v23) (fun (_ : Unit) => ⟨[(0, .b (.one (.sl 5 (l0.map eHolding))))], []⟩) (fun z => .inl z) ?_ ?_
    · refine Tri.seq ?_
      refine Tri.regionL ?_
      obtain ⟨x_7, e25, h24⟩ := bnd h24
      refine OpsL.cons rfl (op_call (region_rules_spec 104 e25) goes53 rfl trivial rfl rfl) ?_
      refine OpsL.cons rfl (op_len_r' und77 rfl rfl (List.length_map _)) ?_
      refine OpsL.cons rfl (op_move rfl) ?_
      refine OpsL.nilK [0, 1, 5, 8, 52, 53, 54] [101, 103, 104] (s' := ⟨[(0, .b (.one (.sl 5 (l0.map eHolding)))), (1, I at0), (5, .b (.ptr 101 0)), (8, .b (.ptr 103 0)), (52, .b (.row 104)), (53, I (x_7.length : Int)), (54, I 0)], [(101, .box 45 [.i x0.From, .i x0.To, .i x0.Kind, .i x0.Body, .i x0.Epoch, .str x0.Data]), (103, .box 59 [.i x_6.Body, .i x_6.Epoch, .i x_6.Phase, .i x_6.Peer, .str x_6.Data]), (104, .row 81 2 (x_7.map eRule))]⟩) rfl ?_
      refine Tri.block ?_
      refine Tri.loopJ h24 (fun (x_8 : Int) => ⟨[(0, .b (.one (.sl 5 (l0.map eHolding)))), (1, I at0), (5, .b (.ptr 101 0)), (8, .b (.ptr 103 0)), (52, .b (.row 104)), (53, I (x_7.length : Int)), (54, I x_8)], [(101, .box 45 [.i x0.From, .i x0.To, .i x0.Kind, .i x0.Body, .i x0.Epoch, .str x0.Data]), (103, .box 59 [.i x_6.Body, .i x_6.Epoch, .i x_6.Phase, .i x_6.Peer, .str x_6.Data]), (104, .row 81 2 (x_7.map eRule))]⟩) [0, 1, 5, 8, 52, 53, 54] [101, 103, 104] rfl ?_
      rintro x_8 o26 h27 hy28
      refine Tri.seq ?_
      refine Tri.regionL ?_
      refine OpsL.cons rfl (op_lss rfl rfl) ?_
      refine OpsL.nilK [0, 1, 5, 8, 52, 53, 54, 55] [101, 103, 104] (s' := ⟨[(0, .b (.one (.sl 5 (l0.map eHolding)))), (1, I at0), (5, .b (.ptr 101 0)), (8, .b (.ptr 103 0)), (52, .b (.row 104)), (53, I (x_7.length : Int)), (54, I x_8), (55, B (decide (x_8 < (x_7.length : Int))))], [(101, .box 45 [.i x0.From, .i x0.To, .i x0.Kind, .i x0.Body, .i x0.Epoch, .str x0.Data]), (103, .box 59 [.i x_6.Body, .i x_6.Epoch, .i x_6.Phase, .i x_6.Peer, .str x_6.Data]), (104, .row 81 2 (x_7.map eRule))]⟩) rfl ?_
      refine Tri.seq ?_
      refine Tri.ite h27 rfl (fun _ h27 => ?_) (fun _ h27 => ?_)
      · refine Tri.skip ?_
        refine Fin.keep [0, 1, 5, 8, 52, 53, 54] [101, 103, 104] (s' := ⟨[(0, .b (.one (.sl 5 (l0.map eHolding)))), (1, I at0), (5, .b (.ptr 101 0)), (8, .b (.ptr 103 0)), (52, .b (.row 104)), (53, I (x_7.length : Int)), (54, I x_8)], [(101, .box 45 [.i x0.From, .i x0.To, .i x0.Kind, .i x0.Body, .i x0.Epoch, .str x0.Data]), (103, .box 59 [.i x_6.Body, .i x_6.Epoch, .i x_6.Phase, .i x_6.Peer, .str x_6.Data]), (104, .row 81 2 (x_7.map eRule))]⟩) rfl ?_
        refine Fin.then ?_
        refine Tri.seq ?_
        refine Tri.block ?_
        refine Tri.seq ?_
        refine Tri.regionL ?_
        obtain ⟨x_9, e29, h27⟩ := bnd h27
        refine OpsL.cons rfl (op_index_r tySl77 (ix_lo e29) (ix_lt' e29) rfl rfl rfl rfl) ?_
        refine OpsL.cons rfl (op_load_r (i := (x_8 : Int).toNat) (f := 0) tyAgg81 rfl rfl rfl (ix_map (e := eRule) e29) rfl rfl) ?_
        refine OpsL.cons rfl (op_alloc (k := 105) tyZero81 rfl) ?_
        refine OpsL.cons rfl (op_store_p tyAgg81 rfl rfl rfl rfl (Nat.le_of_ble_eq_true rfl) rfl) ?_
        refine OpsL.nilK [0, 1, 5, 8, 10, 52, 53, 54] [101, 103, 104, 105] (s' := ⟨[(0, .b (.one (.sl 5 (l0.map eHolding)))), (1, I at0), (5, .b (.ptr 101 0)), (8, .b (.ptr 103 0)), (10, .b (.ptr 105 0)), (52, .b (.row 104)), (53, I (x_7.length : Int)), (54, I x_8)], [(101, .box 45 [.i x0.From, .i x0.To, .i x0.Kind, .i x0.Body, .i x0.Epoch, .str x0.Data]), (103, .box 59 [.i x_6.Body, .i x_6.Epoch, .i x_6.Phase, .i x_6.Peer, .str x_6.Data]), (104, .row 81 2 (x_7.map eRule)), (105, .box 81 [.i x_9.kind, .raw (.func (.func x_9.next) #[] #[])])]⟩) rfl ?_
        refine Tri.seq ?_
        refine Tri.seq ?_
        refine Tri.regionL ?_
        refine OpsL.cons rfl (op_field_p tyFld81_0 rfl rfl) ?_
        refine OpsL.cons rfl (op_load_p1 tyOne3 rfl rfl rfl) ?_
        refine OpsL.cons rfl (op_field_p tyFld45_2 rfl rfl) ?_
        refine OpsL.cons rfl (op_load_p1 tyOne3 rfl rfl rfl) ?_
        refine OpsL.cons rfl (op_neq rfl rfl) ?_
        refine OpsL.nilK [0, 1, 5, 8, 10, 52, 53, 54, 62] [101, 103, 104, 105] (s' := ⟨[(0, .b (.one (.sl 5 (l0.map eHolding)))), (1, I at0), (5, .b (.ptr 101 0)), (8, .b (.ptr 103 0)), (10, .b (.ptr 105 0)), (52, .b (.row 104)), (53, I (x_7.length : Int)), (54, I x_8), (62, B (decide (x_9.kind ≠ x0.Kind)))], [(101, .box 45 [.i x0.From, .i x0.To, .i x0.Kind, .i x0.Body, .i x0.Epoch, .str x0.Data]), (103, .box 59 [.i x_6.Body, .i x_6.Epoch, .i x_6.Phase, .i x_6.Peer, .str x_6.Data]), (104, .row 81 2 (x_7.map eRule)), (105, .box 81 [.i x_9.kind, .raw (.func (.func x_9.next) #[] #[])])]⟩) rfl ?_
        refine Tri.ite h27 rfl (fun _ h27 => ?_) (fun _ h27 => ?_)
        · refine Tri.exit ?_
          refine Fin.then_exit ?_
          refine Fin.block_exit ?_
          refine Fin.keep [0, 1, 5, 8, 52, 53, 54] [101, 103, 104] (s' := ⟨[(0, .b (.one (.sl 5 (l0.map eHolding)))), (1, I at0), (5, .b (.ptr 101 0)), (8, .b (.ptr 103 0)), (52, .b (.row 104)), (53, I (x_7.length : Int)), (54, I x_8)], [(101, .box 45 [.i x0.From, .i x0.To, .i x0.Kind, .i x0.Body, .i x0.Epoch, .str x0.Data]), (103, .box 59 [.i x_6.Body, .i x_6.Epoch, .i x_6.Phase, .i x_6.Peer, .str x_6.Data]), (104, .row 81 2 (x_7.map eRule))]⟩) rfl ?_
          refine Fin.then ?_
          refine Tri.regionL ?_
          refine OpsL.cons rfl (op_add rfl rfl) ?_
          refine OpsL.cons rfl (op_move rfl) ?_
          refine OpsL.nil ?_
          exact Fin.againJ [0, 1, 5, 8, 52, 53, 54] [101, 103, 104] (IntKind.i64.wrap (x_8 + 1)) (Option.some.inj h27) rfl
        · refine Tri.skip ?_
          refine Fin.keep [0, 1, 5, 8, 10] [101, 103, 105] (s' := ⟨[(0, .b (.one (.sl 5 (l0.map eHolding)))), (1, I at0), (5, .b (.ptr 101 0)), (8, .b (.ptr 103 0)), (10, .b (.ptr 105 0))], [(101, .box 45 [.i x0.From, .i x0.To, .i x0.Kind, .i x0.Body, .i x0.Epoch, .str x0.Data]), (103, .box 59 [.i x_6.Body, .i x_6.Epoch, .i x_6.Phase, .i x_6.Peer, .str x_6.Data]), (105, .box 81 [.i x_9.kind, .raw (.func (.func x_9.next) #[] #[])])]⟩) rfl ?_
          refine Fin.then ?_
          refine Tri.seq ?_
          refine Tri.regionL ?_
          refine OpsL.cons rfl (op_field_p tyFld81_1 rfl rfl) ?_
          refine OpsL.cons rfl (op_load_p1 tyOne79 rfl rfl rfl) ?_
          refine OpsL.cons rfl (op_load_p tyAgg59 rfl rfl rfl rfl) ?_
          refine OpsL.cons rfl (op_load_p tyAgg45 rfl rfl rfl rfl) ?_
          refine OpsL.cons rfl (op_field_p tyFld59_1 rfl rfl) ?_
          refine OpsL.cons rfl (op_load_p1 tyOne3 rfl rfl rfl) ?_
          refine OpsL.cons rfl (op_field_p tyFld45_4 rfl rfl) ?_
          refine OpsL.keep [0, 1, 5, 8, 65, 66, 67, 69, 70] [101, 103] (s' := ⟨[(0, .b (.one (.sl 5 (l0.map eHolding)))), (1, I at0), (5, .b (.ptr 101 0)), (8, .b (.ptr 103 0)), (65, .b (.one (.raw (.func (.func x_9.next) #[] #[])))), (66, .b (.agg [.i x_6.Body, .i x_6.Epoch, .i x_6.Phase, .i x_6.Peer, .str x_6.Data])), (67, .b (.agg [.i x0.From, .i x0.To, .i x0.Kind, .i x0.Body, .i x0.Epoch, .str x0.Data])), (69, I x_6.Epoch), (70, .b (.ptr 101 4))], [(101, .box 45 [.i x0.From, .i x0.To, .i x0.Kind, .i x0.Body, .i x0.Epoch, .str x0.Data]), (103, .box 59 [.i x_6.Body, .i x_6.Epoch, .i x_6.Phase, .i x_6.Peer, .str x_6.Data])]⟩) rfl ?_
          refine OpsL.cons rfl (op_load_p1 tyOne3 rfl rfl rfl) ?_
          refine OpsL.cons rfl (op_eql rfl rfl) ?_
          refine OpsL.cons rfl (op_move rfl) ?_
          refine OpsL.consG (decide (x_6.Epoch = x0.Epoch)) 99 [] (.plain rfl) (eq_t _) rfl rfl (fun g30 => trivial) (fun g30 => op_field_p tyFld59_3 rfl rfl) ?_
          refine OpsL.consG (decide (x_6.Epoch = x0.Epoch)) 99 [74] (.plain rfl) (eq_t _) rfl rfl (fun g31 => ⟨g31, trivial⟩) (fun g31 => op_load_p1 tyOne3 rfl rfl rfl) ?_
          refine OpsL.consG (decide (x_6.Epoch = x0.Epoch)) 99 [] (.plain rfl) (eq_t _) rfl rfl (fun g32 => trivial) (fun g32 => op_field_p tyFld45_0 rfl rfl) ?_
          refine OpsL.consG (decide (x_6.Epoch = x0.Epoch)) 99 [76] (.plain rfl) (eq_t _) rfl rfl (fun g33 => ⟨g33, trivial⟩) (fun g33 => op_load_p1 tyOne3 rfl rfl rfl) ?_
          refine OpsL.consG (decide (x_6.Epoch = x0.Epoch)) 99 [75, 77] (.plain rfl) (eq_t _) rfl rfl (fun g34 => ⟨g34, g34, trivial⟩) (fun g34 => op_eql rfl rfl) ?_
          refine OpsL.keep [0, 1, 5, 8, 65, 66, 67, 73, 78] [101, 103] (s' := ⟨[(0, .b (.one (.sl 5 (l0.map eHolding)))), (1, I at0), (5, .b (.ptr 101 0)), (8, .b (.ptr 103 0)), (65, .b (.one (.raw (.func (.func x_9.next) #[] #[])))), (66, .b (.agg [.i x_6.Body, .i x_6.Epoch, .i x_6.Phase, .i x_6.Peer, .str x_6.Data])), (67, .b (.agg [.i x0.From, .i x0.To, .i x0.Kind, .i x0.Body, .i x0.Epoch, .str x0.Data])), (73, B (decide (x_6.Epoch = x0.Epoch))), (78, .opt (decide (x_6.Epoch = x0.Epoch)) (.one (.bool (decide (x_6.Peer = x0.From)))))], [(101, .box 45 [.i x0.From, .i x0.To, .i x0.Kind, .i x0.Body, .i x0.Epoch, .str x0.Data]), (103, .box 59 [.i x_6.Body, .i x_6.Epoch, .i x_6.Phase, .i x_6.Peer, .str x_6.Data])]⟩) rfl ?_
          refine OpsL.consB h27 rfl (op_pick_and (fun e => e) rfl rfl rfl rfl) (fun x_10 h27 => ?_)
          obtain ⟨⟨x_11, x_12⟩, e35, h27⟩ := bnd h27
          refine OpsL.cons rfl (op_callv0 (ruleAt_spec e35) (ruleAt_goes e35) rfl rfl rfl) ?_
          refine OpsL.cons rfl (op_move rfl) ?_
          refine OpsL.cons rfl (op_extract rfl rfl) ?_
          refine OpsL.cons rfl (op_extract rfl rfl) ?_
          refine OpsL.keep [0, 1, 5, 8, 81, 82] [101, 103] (s' := ⟨[(0, .b (.one (.sl 5 (l0.map eHolding)))), (1, I at0), (5, .b (.ptr 101 0)), (8, .b (.ptr 103 0)), (81, .b (.agg [.i x_11.Body, .i x_11.Epoch, .i x_11.Phase, .i x_11.Peer, .str x_11.Data])), (82, I x_12)], [(101, .box 45 [.i x0.From, .i x0.To, .i x0.Kind, .i x0.Body, .i x0.Epoch, .str x0.Data]), (103, .box 59 [.i x_6.Body, .i x_6.Epoch, .i x_6.Phase, .i x_6.Peer, .str x_6.Data])]⟩) rfl ?_
          refine OpsL.cons rfl (op_alloc (k := 106) tyZero59 rfl) ?_
          refine OpsL.cons rfl (op_store_p tyAgg59 rfl rfl rfl rfl (Nat.le_of_ble_eq_true rfl) rfl) ?_
          refine OpsL.cons rfl (op_assign rfl) ?_
          refine OpsL.nilK [0, 1, 5, 8, 11, 12] [101, 103, 106] (s' := ⟨[(0, .b (.one (.sl 5 (l0.map eHolding)))), (1, I at0), (5, .b (.ptr 101 0)), (8, .b (.ptr 103 0)), (11, .b (.ptr 106 0)), (12, I x_12)], [(101, .box 45 [.i x0.From, .i x0.To, .i x0.Kind, .i x0.Body, .i x0.Epoch, .str x0.Data]), (103, .box 59 [.i x_6.Body, .i x_6.Epoch, .i x_6.Phase, .i x_6.Peer, .str x_6.Data]), (106, .box 59 [.i x_11.Body, .i x_11.Epoch, .i x_11.Phase, .i x_11.Peer, .str x_11.Data])]⟩) rfl ?_
          refine Tri.seq ?_
          refine Tri.regionL ?_
          refine OpsL.cons rfl (op_move rfl) ?_
          obtain ⟨x_13, e36, h27⟩ := bnd h27
          refine OpsL.cons rfl (op_call (slices_Clone_spec 107 e36) goes52 rfl trivial rfl rfl) ?_
          refine OpsL.cons rfl (op_assign rfl) ?_
          refine OpsL.nilK [0, 1, 5, 8, 11, 12, 13] [101, 103, 106, 107] (s' := ⟨[(0, .b (.one (.sl 5 (l0.map eHolding)))), (1, I at0), (5, .b (.ptr 101 0)), (8, .b (.ptr 103 0)), (11, .b (.ptr 106 0)), (12, I x_12), (13, .b (.row 107))], [(101, .box 45 [.i x0.From, .i x0.To, .i x0.Kind, .i x0.Body, .i x0.Epoch, .str x0.Data]), (103, .box 59 [.i x_6.Body, .i x_6.Epoch, .i x_6.Phase, .i x_6.Peer, .str x_6.Data]), (106, .box 59 [.i x_11.Body, .i x_11.Epoch, .i x_11.Phase, .i x_11.Peer, .str x_11.Data]), (107, .row 59 5 (x_13.map eHolding))]⟩) rfl ?_
          obtain ⟨v37, h38, h27⟩ := bnd h27
          refine Tri.seqJ (v := v37) (fun (out_14 : List Holding) => ⟨[(1, I at0), (5, .b (.ptr 101 0)), (12, I x_12), (13, .b (.row 108))], [(101, .box 45 [.i x0.From, .i x0.To, .i x0.Kind, .i x0.Body, .i x0.Epoch, .str x0.Data]), (108, .row 59 5 (out_14.map eHolding))]⟩) (fun z => z) ?_ ?_
          · refine Tri.seq ?_
            refine Tri.regionL ?_
            refine OpsL.cons rfl (op_load_p tyAgg59 rfl rfl rfl rfl) ?_
            refine OpsL.cons rfl (op_load_p tyAgg59 rfl rfl rfl rfl) ?_
            refine OpsL.cons rfl (op_neq_agg (eqAgg59 x_11 x_6) rfl rfl neg_dec) ?_
            refine OpsL.nilK [0, 1, 5, 11, 12, 13, 87] [101, 106, 107] (s' := ⟨[(0, .b (.one (.sl 5 (l0.map eHolding)))), (1, I at0), (5, .b (.ptr 101 0)), (11, .b (.ptr 106 0)), (12, I x_12), (13, .b (.row 107)), (87, B (decide (x_11 ≠ x_6)))], [(101, .box 45 [.i x0.From, .i x0.To, .i x0.Kind, .i x0.Body, .i x0.Epoch, .str x0.Data]), (106, .box 59 [.i x_11.Body, .i x_11.Epoch, .i x_11.Phase, .i x_11.Peer, .str x_11.Data]), (107, .row 59 5 (x_13.map eHolding))]⟩) rfl ?_
            refine Tri.ite h38 rfl (fun _ h38 => ?_) (fun _ h38 => ?_)
            · refine Tri.regionL ?_
              refine OpsL.cons rfl (op_move rfl) ?_
              refine OpsL.cons rfl (op_load_p tyAgg59 rfl rfl rfl rfl) ?_
              obtain ⟨x_15, e39, h38⟩ := bnd h38
              refine OpsL.cons rfl (op_call (region_set_spec 108 e39) goes46 rfl trivial rfl rfl) ?_
              refine OpsL.cons rfl (op_assign rfl) ?_
              refine OpsL.nil ?_
              exact Fin.join [1, 5, 12, 13] [101, 108] x_15 (Option.some.inj h38) rfl
            · refine Tri.skip ?_
              refine Fin.keep [1, 5, 12, 13] [101, 107] (s' := ⟨[(1, I at0), (5, .b (.ptr 101 0)), (12, I x_12), (13, .b (.row 107))], [(101, .box 45 [.i x0.From, .i x0.To, .i x0.Kind, .i x0.Body, .i x0.Epoch, .str x0.Data]), (107, .row 59 5 (x_13.map eHolding))]⟩) rfl ?_
              refine Fin.rename 107 108 rfl (by decide) rfl ?_
              exact Fin.join [1, 5, 12, 13] [101, 108] x_13 (Option.some.inj h38) rfl
          · rintro out_14 hv
            subst v37
            refine Tri.seq ?_
            refine Tri.seq ?_
            refine Tri.regionL ?_
            refine OpsL.cons rfl (op_move rfl) ?_
            refine OpsL.cons rfl (op_eql rfl rfl) ?_
            refine OpsL.nilK [1, 5, 12, 13, 92] [101, 108] (s' := ⟨[(1, I at0), (5, .b (.ptr 101 0)), (12, I x_12), (13, .b (.row 108)), (92, B (decide (x_12 = 0)))], [(101, .box 45 [.i x0.From, .i x0.To, .i x0.Kind, .i x0.Body, .i x0.Epoch, .str x0.Data]), (108, .row 59 5 (out_14.map eHolding))]⟩) rfl ?_
            refine Tri.ite h27 rfl (fun _ h27 => ?_) (fun _ h27 => ?_)
            · refine Tri.seq ?_
              refine Tri.regionL ?_
              refine OpsL.cons rfl (op_move rfl) ?_
              refine OpsL.cons rfl (op_assign rfl) ?_
              refine OpsL.cons rfl (op_assign rfl) ?_
              refine OpsL.nilK [6, 7] [108] (s' := ⟨[(6, .b (.row 108)), (7, .b (.one (.nil)))], [(108, .row 59 5 (out_14.map eHolding))]⟩) rfl ?_
              refine Tri.ret ?_
              refine Fin.then_ret ?_
              refine Fin.block_ret ?_
              refine Fin.then_ret ?_
              obtain rfl := hy28 _ (Option.some.inj h27).symm
              refine Fin.then_ret ?_
              refine Fin.block_ret ?_
              refine Fin.then_ret ?_
              obtain rfl := Option.some.inj h
              refine Fin.keep [6, 7] [108] (s' := ⟨[(6, .b (.row 108)), (7, .b (.one (.nil)))], [(108, .row 59 5 (out_14.map eHolding))]⟩) rfl ?_
              refine Fin.nilsl 7 6 rfl (by decide) ?_
              refine Fin.resultK 108 k0 [.row 108, .one (.sl 6 ([].map eParcel))] (.inl rfl) rfl (.cons (.tmp rfl) (.cons (.tmp rfl) .nil)) rfl rfl rfl rfl ⟨rfl, rfl⟩
            · refine Tri.skip ?_
              refine Fin.keep [1, 5, 12, 13] [101, 108] (s' := ⟨[(1, I at0), (5, .b (.ptr 101 0)), (12, I x_12), (13, .b (.row 108))], [(101, .box 45 [.i x0.From, .i x0.To, .i x0.Kind, .i x0.Body, .i x0.Epoch, .str x0.Data]), (108, .row 59 5 (out_14.map eHolding))]⟩) rfl ?_
              refine Fin.then ?_
              refine Tri.seq ?_
              refine Tri.keep [1, 5, 12, 13] [101, 108] (s' := ⟨[(1, I at0), (5, .b (.ptr 101 0)), (12, I x_12), (13, .b (.row 108))], [(101, .box 45 [.i x0.From, .i x0.To, .i x0.Kind, .i x0.Body, .i x0.Epoch, .str x0.Data]), (108, .row 59 5 (out_14.map eHolding))]⟩) rfl ?_
              refine Tri.regionD mixed [.b (.row 108), I at0, .b (.ptr 101 0), I x0.From, I x_12, .b (.ptr 101 3), I x0.Body, .b (.ptr 101 4), I x0.Epoch, .b (.agg [.i at0, .i x0.From, .i x_12, .i x0.Body, .i x0.Epoch, .str []]), .b (.one (.sl 6 ([(⟨at0, x0.From, x_12, x0.Body, x0.Epoch, []⟩ : Parcel)].map eParcel))), .b (.row 108), .b (.one (.sl 6 ([(⟨at0, x0.From, x_12, x0.Body, x0.Epoch, []⟩ : Parcel)].map eParcel)))] [6, 7] [108] (s' := ⟨[(6, .b (.row 108)), (7, .b (.one (.sl 6 ([(⟨at0, x0.From, x_12, x0.Body, x0.Epoch, []⟩ : Parcel)].map eParcel))))], [(108, .row 59 5 (out_14.map eHolding))]⟩) rfl ⟨fun _ => .plain rfl (op_move rfl), fun _ => .plain rfl (op_move rfl), fun _ => .plain rfl (op_field_p tyFld45_0 rfl rfl), fun _ => .plain rfl (op_load_p1 tyOne3 rfl rfl rfl), fun _ => .plain rfl (op_move rfl), fun _ => .plain rfl (op_field_p tyFld45_3 rfl rfl), fun _ => .plain rfl (op_load_p1 tyOne3 rfl rfl rfl), fun _ => .plain rfl (op_field_p tyFld45_4 rfl rfl), fun _ => .plain rfl (op_load_p1 tyOne3 rfl rfl rfl), fun _ => .plain rfl (op_build tyBuild45 rfl rfl), fun _ => .plain rfl (op_buildSliceP (es := [(⟨at0, x0.From, x_12, x0.Body, x0.Epoch, []⟩ : Parcel)].map eParcel) tySl38 rfl rfl (uni_map fun _ => rfl) rfl (by decide) (by decide)), fun _ => .plain rfl (op_assign rfl), fun _ => .plain rfl (op_assign rfl), trivial⟩ rfl ?_
              refine Tri.ret ?_
              refine Fin.block_ret ?_
              refine Fin.then_ret ?_
              obtain rfl := hy28 _ (Option.some.inj h27).symm
              refine Fin.then_ret ?_
              refine Fin.block_ret ?_
              refine Fin.then_ret ?_
              obtain rfl := Option.some.inj h
              refine Fin.keep [6, 7] [108] (s' := ⟨[(6, .b (.row 108)), (7, .b (.one (.sl 6 ([(⟨at0, x0.From, x_12, x0.Body, x0.Epoch, []⟩ : Parcel)].map eParcel))))], [(108, .row 59 5 (out_14.map eHolding))]⟩) rfl ?_
              refine Fin.resultK 108 k0 [.row 108, .one (.sl 6 ([(⟨at0, x0.From, x_12, x0.Body, x0.Epoch, []⟩ : Parcel)].map eParcel))] (.inl rfl) rfl (.cons (.tmp rfl) (.cons (.tmp rfl) .nil)) rfl rfl rfl rfl ⟨rfl, rfl⟩
      · refine Tri.exit ?_
        refine Fin.then_exit ?_
        obtain rfl := hy28 _ (Option.some.inj h27).symm
        refine Fin.then_exit ?_
        refine Fin.block_exit ?_
        exact Fin.join [0] [] () rfl rfl
    · rintro _ hv
      subst v23
      refine Tri.seq ?_
      refine Tri.regionL ?_
      refine OpsL.cons rfl (op_move rfl) ?_
      obtain ⟨x_16, e40, h⟩ := bnd h
      refine OpsL.cons rfl (op_call (slices_Clone_spec 110 e40) goes52 rfl trivial rfl rfl) ?_
      refine OpsL.cons rfl (op_assign rfl) ?_
      refine OpsL.cons rfl (op_assign rfl) ?_
      refine OpsL.nilK [6, 7] [110] (s' := ⟨[(6, .b (.row 110)), (7, .b (.one (.nil)))], [(110, .row 59 5 (x_16.map eHolding))]⟩) rfl ?_
      refine Tri.ret ?_
      obtain rfl := Option.some.inj h
      refine Fin.keep [6, 7] [110] (s' := ⟨[(6, .b (.row 110)), (7, .b (.one (.nil)))], [(110, .row 59 5 (x_16.map eHolding))]⟩) rfl ?_
      refine Fin.nilsl 7 6 rfl (by decide) ?_
      refine Fin.resultK 110 k0 [.row 110, .one (.sl 6 ([].map eParcel))] (.inl rfl) rfl (.cons (.tmp rfl) (.cons (.tmp rfl) .nil)) rfl rfl rfl rfl ⟨rfl, rfl⟩

def cmp_isNaN_S (F : Nat) (x0 : Int) : Option Bool :=
 some (decide (x0 ≠ x0))
theorem cmp_isNaN_spec {F : Nat} {x0 : Int} {r : Bool} (h : cmp_isNaN_S F x0 = some r) : Meets Try.prog 64 [] [.one (.i x0)] (Is [] (.b (.one (.bool r)))) := by
  unfold cmp_isNaN_S at h
  refine Meets.intro 6 Try.func64 Try.ntmps64 rfl (by simp) fun E => ?_
  show Tri _ E ⟨6, [], []⟩ _ ⟨[(0, I x0)], []⟩ _
  refine Tri.seq ?_
  refine Tri.regionL ?_
  refine OpsL.cons rfl (op_assign rfl) ?_
  refine OpsL.nilK [0] [] (s' := ⟨[(0, I x0)], []⟩) rfl ?_
  refine Tri.seq ?_
  refine Tri.regionL ?_
  refine OpsL.cons rfl (op_move rfl) ?_
  refine OpsL.cons rfl (op_move rfl) ?_
  refine OpsL.cons rfl (op_neq rfl rfl) ?_
  refine OpsL.cons rfl (op_assign rfl) ?_
  refine OpsL.nilK [2] [] (s' := ⟨[(2, B (decide (x0 ≠ x0)))], []⟩) rfl ?_
  refine Tri.ret ?_
  obtain rfl := Option.some.inj h
  refine Fin.keep [2] [] (s' := ⟨[(2, B (decide (x0 ≠ x0)))], []⟩) rfl ?_
  refine Fin.result' [.one (.bool (decide (x0 ≠ x0)))] (.inl rfl) rfl (.cons (.tmp rfl) .nil) ⟨rfl, rfl⟩

def cmp_Less_S (F : Nat) (x0 : Int) (y0 : Int) : Option Bool :=
 Option.bind (cmp_isNaN_S F x0) (fun x_1 => Option.bind (gcall x_1 (cmp_isNaN_S F y0)) (fun x_2 => some ((x_1 && (!x_2)) || (decide (x0 < y0)))))
theorem cmp_Less_spec {F : Nat} {x0 : Int} {y0 : Int} {r : Bool} (h : cmp_Less_S F x0 y0 = some r) : Meets Try.prog 55 [] [.one (.i x0), .one (.i y0)] (Is [] (.b (.one (.bool r)))) := by
  unfold cmp_Less_S at h
  refine Meets.intro 17 Try.func55 Try.ntmps55 rfl (by simp) fun E => ?_
  show Tri _ E ⟨17, [], []⟩ _ ⟨[(0, I x0), (1, I y0)], []⟩ _
  refine Tri.seq ?_
  refine Tri.regionL ?_
  refine OpsL.cons rfl (op_assign rfl) ?_
  refine OpsL.nilK [0, 1] [] (s' := ⟨[(0, I x0), (1, I y0)], []⟩) rfl ?_
  refine Tri.seq ?_
  refine Tri.regionL ?_
  refine OpsL.cons rfl (op_move rfl) ?_
  obtain ⟨x_1, e1, h⟩ := bnd h
  refine OpsL.cons rfl (op_call0 (cmp_isNaN_spec e1) goes64 rfl rfl) ?_
  refine OpsL.cons rfl (op_move rfl) ?_
  refine OpsL.consG x_1 99 [] (.plain rfl) (eq_t _) rfl rfl (fun g2 => trivial) (fun g2 => op_move rfl) ?_
  refine OpsL.keep [0, 1, 7, 8] [] (s' := ⟨[(0, I x0), (1, I y0), (7, B x_1), (8, .opt x_1 (.one (.i y0)))], []⟩) rfl ?_
  obtain ⟨x_2, e4, h⟩ := bnd h
  refine OpsL.consG x_1 99 [8] (.plain rfl) (eq_t _) rfl rfl (fun g3 => ⟨g3, trivial⟩) (fun g3 => op_call0 (cmp_isNaN_spec (gc e4 g3)) goes64 rfl rfl) ?_
  refine OpsL.consG x_1 99 [9] (.plain rfl) (eq_t _) rfl rfl (fun g5 => ⟨g5, trivial⟩) (fun g5 => op_not rfl) ?_
  refine OpsL.cons rfl (op_pick_and (fun e => e) rfl rfl rfl rfl) ?_
  refine OpsL.cons rfl (op_move rfl) ?_
  refine OpsL.consG (!(x_1 && (!x_2))) 99 [] (.plain rfl) (eq_f _) rfl rfl (fun g6 => trivial) (fun g6 => op_move rfl) ?_
  refine OpsL.consG (!(x_1 && (!x_2))) 99 [] (.plain rfl) (eq_f _) rfl rfl (fun g7 => trivial) (fun g7 => op_move rfl) ?_
  refine OpsL.consG (!(x_1 && (!x_2))) 99 [13, 14] (.plain rfl) (eq_f _) rfl rfl (fun g8 => ⟨g8, g8, trivial⟩) (fun g8 => op_lss rfl rfl) ?_
  refine OpsL.cons rfl (op_pick_or (fun e => by rw [e]; rfl) rfl rfl rfl rfl) ?_
  refine OpsL.cons rfl (op_assign rfl) ?_
  refine OpsL.nilK [4] [] (s' := ⟨[(4, B ((x_1 && (!x_2)) || (decide (x0 < y0))))], []⟩) rfl ?_
  refine Tri.ret ?_
  obtain rfl := Option.some.inj h
  refine Fin.keep [4] [] (s' := ⟨[(4, B ((x_1 && (!x_2)) || (decide (x0 < y0))))], []⟩) rfl ?_
  refine Fin.result' [.one (.bool ((x_1 && (!x_2)) || (decide (x0 < y0))))] (.inl rfl) rfl (.cons (.tmp rfl) .nil) ⟨rfl, rfl⟩

def slices_isNaN_S (F : Nat) (x0 : Int) : Option Bool :=
 some (decide (x0 ≠ x0))
theorem slices_isNaN_spec {F : Nat} {x0 : Int} {r : Bool} (h : slices_isNaN_S F x0 = some r) : Meets Try.prog 56 [] [.one (.i x0)] (Is [] (.b (.one (.bool r)))) := by
  unfold slices_isNaN_S at h
  refine Meets.intro 6 Try.func56 Try.ntmps56 rfl (by simp) fun E => ?_
  show Tri _ E ⟨6, [], []⟩ _ ⟨[(0, I x0)], []⟩ _
  refine Tri.seq ?_
  refine Tri.regionL ?_
  refine OpsL.cons rfl (op_assign rfl) ?_
  refine OpsL.nilK [0] [] (s' := ⟨[(0, I x0)], []⟩) rfl ?_
  refine Tri.seq ?_
  refine Tri.regionL ?_
  refine OpsL.cons rfl (op_move rfl) ?_
  refine OpsL.cons rfl (op_move rfl) ?_
  refine OpsL.cons rfl (op_neq rfl rfl) ?_
  refine OpsL.cons rfl (op_assign rfl) ?_
  refine OpsL.nilK [2] [] (s' := ⟨[(2, B (decide (x0 ≠ x0)))], []⟩) rfl ?_
  refine Tri.ret ?_
  obtain rfl := Option.some.inj h
  refine Fin.keep [2] [] (s' := ⟨[(2, B (decide (x0 ≠ x0)))], []⟩) rfl ?_
  refine Fin.result' [.one (.bool (decide (x0 ≠ x0)))] (.inl rfl) rfl (.cons (.tmp rfl) .nil) ⟨rfl, rfl⟩

def slices_BinarySearch_S (F : Nat) (x0 : List Int) (target0 : Int) : Option (Int × Bool) :=
 Option.bind (iter F (un2 fun i_2 j_3 => if (decide (i_2 < j_3)) = true then (letN (IntKind.u64.wrap (IntKind.i64.wrap (i_2 + j_3))) fun x_5 => Option.bind (idx? x0 (IntKind.i64.wrap (x_5 / 2))) (fun x_6 => Option.bind (cmp_Less_S F x_6 target0) (fun x_7 => if x_7 = true then (letN (IntKind.i64.wrap ((IntKind.i64.wrap (x_5 / 2)) + 1)) fun x_8 => some (.inl (x_8, j_3))) else (some (.inl (i_2, IntKind.i64.wrap (x_5 / 2))))))) else (some (.inr i_2))) (0, (x0.length : Int))) (fun i_1 => Option.bind (gcall (decide (i_1 < (x0.length : Int))) (idx? x0 i_1)) (fun x_9 => Option.bind (gcall ((decide (i_1 < (x0.length : Int))) && !(decide (x_9 = target0))) (idx? x0 i_1)) (fun x_10 => Option.bind (gcall ((decide (i_1 < (x0.length : Int))) && !(decide (x_9 = target0))) (slices_isNaN_S F x_10)) (fun x_11 => Option.bind (gcall (((decide (i_1 < (x0.length : Int))) && !(decide (x_9 = target0))) && x_11) (slices_isNaN_S F target0)) (fun x_12 => letN ((decide (i_1 < (x0.length : Int))) && ((decide (x_9 = target0)) || (x_11 && x_12))) fun x_13 => some (i_1, x_13))))))
theorem slices_BinarySearch_spec {F : Nat} {x0 : List Int} {target0 : Int} {r : Int × Bool} (h : slices_BinarySearch_S F x0 target0 = some r) : Meets Try.prog 40 [] [.one (.sl 1 (x0.map eI)), .one (.i target0)] (Is [] (.tup [.one (.i r.1), .one (.bool r.2)])) := by
  unfold slices_BinarySearch_S at h
  refine Meets.intro 54 Try.func40 Try.ntmps40 rfl (by simp) fun E => ?_
  show Tri _ E ⟨54, [], []⟩ _ ⟨[(0, .b (.one (.sl 1 (x0.map eI)))), (1, I target0)], []⟩ _
  refine Tri.seq ?_
  refine Tri.regionL ?_
  refine OpsL.cons rfl (op_assign rfl) ?_
  refine OpsL.cons rfl (op_assign rfl) ?_
  refine OpsL.nilK [0, 1] [] (s' := ⟨[(0, .b (.one (.sl 1 (x0.map eI)))), (1, I target0)], []⟩) rfl ?_
  refine Tri.seq ?_
  refine Tri.regionL ?_
  refine OpsL.cons rfl (op_move rfl) ?_
  refine OpsL.cons rfl (op_len_e' und22 rfl (List.length_map _)) ?_
  refine OpsL.cons rfl (op_assign rfl) ?_
  refine OpsL.nilK [0, 1, 6] [] (s' := ⟨[(0, .b (.one (.sl 1 (x0.map eI)))), (1, I target0), (6, I (x0.length : Int))], []⟩) rfl ?_
  refine Tri.seq ?_
  refine Tri.regionL ?_
  refine OpsL.cons rfl (op_move rfl) ?_
  refine OpsL.cons rfl (op_assign rfl) ?_
  refine OpsL.cons rfl (op_assign rfl) ?_
  refine OpsL.nilK [0, 1, 6, 7, 8] [] (s' := ⟨[(0, .b (.one (.sl 1 (x0.map eI)))), (1, I target0), (6, I (x0.length : Int)), (7, I 0), (8, I (x0.length : Int))], []⟩) rfl ?_
  obtain ⟨v1, h2, h⟩ := bnd h
  refine Tri.seqJ (v := v1) (fun (i_1 : Int) => ⟨[(0, .b (.one (.sl 1 (x0.map eI)))), (1, I target0), (6, I (x0.length : Int)), (7, I i_1)], []⟩) (fun z => z) ?_ ?_
  · refine Tri.block ?_
    refine Tri.loopJ h2 (un2 fun (i_2 : Int) (j_3 : Int) => ⟨[(0, .b (.one (.sl 1 (x0.map eI)))), (1, I target0), (6, I (x0.length : Int)), (7, I i_2), (8, I j_3)], []⟩) [0, 1, 6, 7, 8] [] rfl ?_
    rintro ⟨i_2, j_3⟩ o3 h4 hy5
    refine Tri.seq ?_
    refine Tri.seq ?_
    refine Tri.regionL ?_
    refine OpsL.cons rfl (op_move rfl) ?_
    refine OpsL.cons rfl (op_move rfl) ?_
    refine OpsL.cons rfl (op_lss rfl rfl) ?_
    refine OpsL.nilK [0, 1, 6, 7, 8, 15] [] (s' := ⟨[(0, .b (.one (.sl 1 (x0.map eI)))), (1, I target0), (6, I (x0.length : Int)), (7, I i_2), (8, I j_3), (15, B (decide (i_2 < j_3)))], []⟩) rfl ?_
    refine Tri.ite h4 rfl (fun _ h4 => ?_) (fun _ h4 => ?_)
    · refine Tri.skip ?_
      refine Fin.keep [0, 1, 6, 7, 8] [] (s' := ⟨[(0, .b (.one (.sl 1 (x0.map eI)))), (1, I target0), (6, I (x0.length : Int)), (7, I i_2), (8, I j_3)], []⟩) rfl ?_
      refine Fin.then ?_
      refine Tri.block ?_
      refine Tri.seq ?_
      refine Tri.regionL ?_
      refine OpsL.cons rfl (op_move rfl) ?_
      refine OpsL.cons rfl (op_move rfl) ?_
      refine OpsL.cons rfl (op_add rfl rfl) ?_
      refine OpsL.consI .u64 h4 rfl (op_conv_wrap undi3 undi84 rfl) (fun x_5 h4 => ?_)
      refine OpsL.cons rfl (op_shr2 (m := 1) (by decide) rfl rfl rfl) ?_
      refine OpsL.cons rfl (op_conv_wrap undi84 undi3 rfl) ?_
      refine OpsL.cons rfl (op_assign rfl) ?_
      refine OpsL.nilK [0, 1, 6, 7, 8, 9] [] (s' := ⟨[(0, .b (.one (.sl 1 (x0.map eI)))), (1, I target0), (6, I (x0.length : Int)), (7, I i_2), (8, I j_3), (9, I (IntKind.i64.wrap (x_5 / 2)))], []⟩) rfl ?_
      refine Tri.seq ?_
      refine Tri.regionL ?_
      refine OpsL.cons rfl (op_move rfl) ?_
      refine OpsL.cons rfl (op_move rfl) ?_
      obtain ⟨x_6, e6, h4⟩ := bnd h4
      refine OpsL.cons rfl (op_index_e tySl22 (ix_lo e6) (ix_map (e := eI) e6) rfl rfl) ?_
      refine OpsL.cons rfl (op_load_e1 tyOne3 rfl rfl) ?_
      refine OpsL.cons rfl (op_move rfl) ?_
      obtain ⟨x_7, e7, h4⟩ := bnd h4
      refine OpsL.cons rfl (op_call0 (cmp_Less_spec e7) goes55 rfl rfl) ?_
      refine OpsL.nilK [0, 1, 6, 7, 8, 9, 27] [] (s' := ⟨[(0, .b (.one (.sl 1 (x0.map eI)))), (1, I target0), (6, I (x0.length : Int)), (7, I i_2), (8, I j_3), (9, I (IntKind.i64.wrap (x_5 / 2))), (27, B x_7)], []⟩) rfl ?_
      refine Tri.ite h4 rfl (fun _ h4 => ?_) (fun _ h4 => ?_)
      · refine Tri.regionL ?_
        refine OpsL.cons rfl (op_move rfl) ?_
        refine OpsL.consI .i64 h4 rfl (op_add rfl rfl) (fun x_8 h4 => ?_)
        refine OpsL.cons rfl (op_assign rfl) ?_
        refine OpsL.nil ?_
        refine Fin.block_normal ?_
        exact Fin.againJ [0, 1, 6, 7, 8] [] (x_8, j_3) (Option.some.inj h4) rfl
      · refine Tri.regionL ?_
        refine OpsL.cons rfl (op_move rfl) ?_
        refine OpsL.cons rfl (op_assign rfl) ?_
        refine OpsL.nil ?_
        refine Fin.block_normal ?_
        exact Fin.againJ [0, 1, 6, 7, 8] [] (i_2, IntKind.i64.wrap (x_5 / 2)) (Option.some.inj h4) rfl
    · refine Tri.exit ?_
      refine Fin.then_exit ?_
      obtain rfl := hy5 _ (Option.some.inj h4).symm
      refine Fin.then_exit ?_
      refine Fin.block_exit ?_
      exact Fin.join [0, 1, 6, 7] [] i_2 rfl rfl
  · rintro i_1 hv
    subst v1
    refine Tri.seq ?_
    refine Tri.regionL ?_
    refine OpsL.cons rfl (op_move rfl) ?_
    refine OpsL.cons rfl (op_move rfl) ?_
    refine OpsL.cons rfl (op_move rfl) ?_
    refine OpsL.cons rfl (op_lss rfl rfl) ?_
    refine OpsL.cons rfl (op_move rfl) ?_
    refine OpsL.consG (decide (i_1 < (x0.length : Int))) 99 [] (.plain rfl) (eq_t _) rfl rfl (fun g8 => trivial) (fun g8 => op_move rfl) ?_
    refine OpsL.consG (decide (i_1 < (x0.length : Int))) 99 [] (.plain rfl) (eq_t _) rfl rfl (fun g9 => trivial) (fun g9 => op_move rfl) ?_
    refine OpsL.keep [0, 1, 7, 31, 35, 36, 37] [] (s' := ⟨[(0, .b (.one (.sl 1 (x0.map eI)))), (1, I target0), (7, I i_1), (31, I i_1), (35, B (decide (i_1 < (x0.length : Int)))), (36, .opt (decide (i_1 < (x0.length : Int))) (.one (.sl 1 (x0.map eI)))), (37, .opt (decide (i_1 < (x0.length : Int))) (.one (.i i_1)))], []⟩) rfl ?_
    obtain ⟨x_9, e11, h⟩ := bnd h
    refine OpsL.consG (decide (i_1 < (x0.length : Int))) 99 [36, 37] (.plain rfl) (eq_t _) rfl rfl (fun g10 => ⟨g10, g10, trivial⟩) (fun g10 => op_index_e tySl22 (ix_lo (gc e11 g10)) (ix_map (e := eI) (gc e11 g10)) rfl rfl) ?_
    refine OpsL.consG (decide (i_1 < (x0.length : Int))) 99 [38] (.plain rfl) (eq_t _) rfl rfl (fun g12 => ⟨g12, trivial⟩) (fun g12 => op_load_e1 tyOne3 rfl rfl) ?_
    refine OpsL.consG (decide (i_1 < (x0.length : Int))) 99 [] (.plain rfl) (eq_t _) rfl rfl (fun g13 => trivial) (fun g13 => op_move rfl) ?_
    refine OpsL.consG (decide (i_1 < (x0.length : Int))) 99 [39, 40] (.plain rfl) (eq_t _) rfl rfl (fun g14 => ⟨g14, g14, trivial⟩) (fun g14 => op_eql rfl rfl) ?_
    refine OpsL.consG (decide (i_1 < (x0.length : Int))) 99 [41] (.plain rfl) (eq_t _) rfl rfl (fun g15 => ⟨g15, trivial⟩) (fun g15 => op_move rfl) ?_
    refine OpsL.consG ((decide (i_1 < (x0.length : Int))) && !(decide (x_9 = target0))) 99 [] (.under rfl) (and_f _ _) rfl rfl (fun g16 => trivial) (fun g16 => op_move rfl) ?_
    refine OpsL.consG ((decide (i_1 < (x0.length : Int))) && !(decide (x_9 = target0))) 99 [] (.under rfl) (and_f _ _) rfl rfl (fun g17 => trivial) (fun g17 => op_move rfl) ?_
    obtain ⟨x_10, e19, h⟩ := bnd h
    refine OpsL.consG ((decide (i_1 < (x0.length : Int))) && !(decide (x_9 = target0))) 99 [43, 44] (.under rfl) (and_f _ _) rfl rfl (fun g18 => ⟨g18, g18, trivial⟩) (fun g18 => op_index_e tySl22 (ix_lo (gc e19 g18)) (ix_map (e := eI) (gc e19 g18)) rfl rfl) ?_
    refine OpsL.keep [1, 31, 35, 42, 45] [] (s' := ⟨[(1, I target0), (31, I i_1), (35, B (decide (i_1 < (x0.length : Int)))), (42, .opt (decide (i_1 < (x0.length : Int))) (.one (.bool (decide (x_9 = target0))))), (45, .opt ((decide (i_1 < (x0.length : Int))) && !(decide (x_9 = target0))) (.eptr [.i x_10]))], []⟩) rfl ?_
    refine OpsL.consG ((decide (i_1 < (x0.length : Int))) && !(decide (x_9 = target0))) 99 [45] (.under rfl) (and_f _ _) rfl rfl (fun g20 => ⟨g20, trivial⟩) (fun g20 => op_load_e1 tyOne3 rfl rfl) ?_
    obtain ⟨x_11, e22, h⟩ := bnd h
    refine OpsL.consG ((decide (i_1 < (x0.length : Int))) && !(decide (x_9 = target0))) 99 [46] (.under rfl) (and_f _ _) rfl rfl (fun g21 => ⟨g21, trivial⟩) (fun g21 => op_call0 (slices_isNaN_spec (gc e22 g21)) goes56 rfl rfl) ?_
    refine OpsL.consG ((decide (i_1 < (x0.length : Int))) && !(decide (x_9 = target0))) 99 [47] (.under rfl) (and_f _ _) rfl rfl (fun g23 => ⟨g23, trivial⟩) (fun g23 => op_move rfl) ?_
    refine OpsL.consG (((decide (i_1 < (x0.length : Int))) && !(decide (x_9 = target0))) && x_11) 99 [] (.under rfl) (and_t _ _) rfl rfl (fun g24 => trivial) (fun g24 => op_move rfl) ?_
    refine OpsL.keep [31, 35, 42, 48, 49] [] (s' := ⟨[(31, I i_1), (35, B (decide (i_1 < (x0.length : Int)))), (42, .opt (decide (i_1 < (x0.length : Int))) (.one (.bool (decide (x_9 = target0))))), (48, .opt ((decide (i_1 < (x0.length : Int))) && !(decide (x_9 = target0))) (.one (.bool x_11))), (49, .opt (((decide (i_1 < (x0.length : Int))) && !(decide (x_9 = target0))) && x_11) (.one (.i target0)))], []⟩) rfl ?_
    obtain ⟨x_12, e26, h⟩ := bnd h
    refine OpsL.consG (((decide (i_1 < (x0.length : Int))) && !(decide (x_9 = target0))) && x_11) 99 [49] (.under rfl) (and_t _ _) rfl rfl (fun g25 => ⟨g25, trivial⟩) (fun g25 => op_call0 (slices_isNaN_spec (gc e26 g25)) goes56 rfl rfl) ?_
    refine OpsL.consG ((decide (i_1 < (x0.length : Int))) && !(decide (x_9 = target0))) 99 [48] (.under rfl) (and_f _ _) rfl rfl (fun g27 => ⟨g27, trivial⟩) (fun g27 => op_pick_and (fun e => by rw [g27, e]; rfl) rfl rfl rfl rfl) ?_
    refine OpsL.consG (decide (i_1 < (x0.length : Int))) 99 [42] (.plain rfl) (eq_t _) rfl rfl (fun g28 => ⟨g28, trivial⟩) (fun g28 => op_pick_or (fun e => by rw [g28, e]; rfl) rfl rfl rfl rfl) ?_
    refine OpsL.consB h rfl (op_pick_and (fun e => e) rfl rfl rfl rfl) (fun x_13 h => ?_)
    refine OpsL.cons rfl (op_assign rfl) ?_
    refine OpsL.cons rfl (op_assign rfl) ?_
    refine OpsL.nilK [4, 5] [] (s' := ⟨[(4, I i_1), (5, B x_13)], []⟩) rfl ?_
    refine Tri.ret ?_
    obtain rfl := Option.some.inj h
    refine Fin.keep [4, 5] [] (s' := ⟨[(4, I i_1), (5, B x_13)], []⟩) rfl ?_
    refine Fin.result' [.one (.i i_1), .one (.bool x_13)] (.inl rfl) rfl (.cons (.tmp rfl) (.cons (.tmp rfl) .nil)) ⟨rfl, rfl⟩

def region_Region_S (F : Nat) (borders0 : List Int) (x0 : Int) : Option Int :=
 Option.bind (slices_BinarySearch_S F borders0 x0) (un2 fun x_1 x_2 => Option.bind (if x_2 = true then (some (IntKind.i64.wrap (x_1 + 1))) else (some x_1)) (fun n_3 => some n_3))
theorem region_Region_spec {F : Nat} {borders0 : List Int} {x0 : Int} {r : Int} (h : region_Region_S F borders0 x0 = some r) : Meets Try.prog 10 [] [.one (.sl 1 (borders0.map eI)), .one (.i x0)] (Is [] (.b (.one (.i r)))) := by
  unfold region_Region_S at h
  refine Meets.intro 17 Try.func10 Try.ntmps10 rfl (by simp) fun E => ?_
  show Tri _ E ⟨17, [], []⟩ _ ⟨[(0, .b (.one (.sl 1 (borders0.map eI)))), (1, I x0)], []⟩ _
  refine Tri.seq ?_
  refine Tri.regionL ?_
  refine OpsL.cons rfl (op_assign rfl) ?_
  refine OpsL.nilK [0, 1] [] (s' := ⟨[(0, .b (.one (.sl 1 (borders0.map eI)))), (1, I x0)], []⟩) rfl ?_
  refine Tri.seq ?_
  refine Tri.regionL ?_
  refine OpsL.cons rfl (op_move rfl) ?_
  refine OpsL.cons rfl (op_move rfl) ?_
  obtain ⟨⟨x_1, x_2⟩, e1, h⟩ := bnd h
  refine OpsL.cons rfl (op_call0 (slices_BinarySearch_spec e1) goes40 rfl rfl) ?_
  refine OpsL.cons rfl (op_move rfl) ?_
  refine OpsL.cons rfl (op_extract rfl rfl) ?_
  refine OpsL.keep [7, 11] [] (s' := ⟨[(7, .tup [.one (.i x_1), .one (.bool x_2)]), (11, I x_1)], []⟩) rfl ?_
  refine OpsL.cons rfl (op_extract rfl rfl) ?_
  refine OpsL.cons rfl (op_assign rfl) ?_
  refine OpsL.cons rfl (op_assign rfl) ?_
  refine OpsL.nilK [5, 6] [] (s' := ⟨[(5, I x_1), (6, B x_2)], []⟩) rfl ?_
  obtain ⟨v2, h3, h⟩ := bnd h
  refine Tri.seqJ (v := v2) (fun (n_3 : Int) => ⟨[(5, I n_3)], []⟩) (fun z => z) ?_ ?_
  · refine Tri.seq ?_
    refine Tri.regionL ?_
    refine OpsL.cons rfl (op_move rfl) ?_
    refine OpsL.nilK [5, 13] [] (s' := ⟨[(5, I x_1), (13, B x_2)], []⟩) rfl ?_
    refine Tri.ite h3 rfl (fun _ h3 => ?_) (fun _ h3 => ?_)
    · refine Tri.regionL ?_
      refine OpsL.cons rfl (op_move rfl) ?_
      refine OpsL.cons rfl (op_add rfl rfl) ?_
      refine OpsL.cons rfl (op_assign rfl) ?_
      refine OpsL.nil ?_
      exact Fin.join [5] [] (IntKind.i64.wrap (x_1 + 1)) (Option.some.inj h3) rfl
    · refine Tri.skip ?_
      exact Fin.join [5] [] x_1 (Option.some.inj h3) rfl
  · rintro n_3 hv
    subst v2
    refine Tri.seq ?_
    refine Tri.regionL ?_
    refine OpsL.cons rfl (op_move rfl) ?_
    refine OpsL.cons rfl (op_assign rfl) ?_
    refine OpsL.nilK [4] [] (s' := ⟨[(4, I n_3)], []⟩) rfl ?_
    refine Tri.ret ?_
    obtain rfl := Option.some.inj h
    refine Fin.keep [4] [] (s' := ⟨[(4, I n_3)], []⟩) rfl ?_
    refine Fin.result' [.one (.i n_3)] (.inl rfl) rfl (.cons (.tmp rfl) .nil) ⟨rfl, rfl⟩

def region_Holder_S (F : Nat) (all0 : List (List Holding)) (body0 : Int) : Option Int :=
 Option.bind (iter F (un3 fun best_2 at_3 x_4 => if (decide (x_4 < (all0.length : Int))) = true then (Option.bind (Option.bind (idx? all0 x_4) (fun x_8 => Option.bind (region_Get_S F x_8 body0) (fun x_9 => if ((decide (x_9.Phase = 0)) || (decide (x_9.Phase = 4))) = true then (some (best_2, at_3)) else (letN (((decide (best_2 < 0)) || (decide (at_3.Epoch < x_9.Epoch))) || (((decide (x_9.Epoch = at_3.Epoch)) && (decide (x_9.Phase = 1))) && (decide (at_3.Phase ≠ 1)))) fun x_10 => if x_10 = true then (some (x_4, x_9)) else (some (best_2, at_3)))))) (un2 fun best_6 at_7 => some (.inl (best_6, at_7, IntKind.i64.wrap (x_4 + 1))))) else (some (.inr best_2))) ((-1), (⟨0, 0, 0, 0, []⟩ : Holding), 0)) (fun best_1 => some best_1)
theorem region_Holder_spec {F : Nat} {all0 : List (List Holding)} {body0 : Int} {r : Int} (h : region_Holder_S F all0 body0 = some r) : Meets Try.prog 39 [] [.one (.sl 1 (all0.map (eL 5 eHolding))), .one (.i body0)] (Is [] (.b (.one (.i r)))) := by
  unfold region_Holder_S at h
  refine Meets.intro 58 Try.func39 Try.ntmps39 rfl (by simp) fun E => ?_
  show Tri _ E ⟨58, [], []⟩ _ ⟨[(0, .b (.one (.sl 1 (all0.map (eL 5 eHolding))))), (1, I body0)], []⟩ _
  refine Tri.seq ?_
  refine Tri.regionL ?_
  refine OpsL.cons rfl (op_assign rfl) ?_
  refine OpsL.nilK [0, 1] [] (s' := ⟨[(0, .b (.one (.sl 1 (all0.map (eL 5 eHolding))))), (1, I body0)], []⟩) rfl ?_
  refine Tri.seq ?_
  refine Tri.regionL ?_
  refine OpsL.cons rfl (op_assign rfl) ?_
  refine OpsL.nilK [0, 1, 5] [] (s' := ⟨[(0, .b (.one (.sl 1 (all0.map (eL 5 eHolding))))), (1, I body0), (5, I (-1))], []⟩) rfl ?_
  refine Tri.seq ?_
  refine Tri.regionL ?_
  refine OpsL.cons rfl (op_alloc (k := 101) tyZero59 rfl) ?_
  refine OpsL.nilK [0, 1, 5, 6] [101] (s' := ⟨[(0, .b (.one (.sl 1 (all0.map (eL 5 eHolding))))), (1, I body0), (5, I (-1)), (6, .b (.ptr 101 0))], [(101, .box 59 [.i 0, .i 0, .i 0, .i 0, .str []])]⟩) rfl ?_
  obtain ⟨v1, h2, h⟩ := bnd h
  refine Tri.seqJ (v := v1) (fun (best_1 : Int) => ⟨[(5, I best_1)], []⟩) (fun z => z) ?_ ?_
  · refine Tri.seq ?_
    refine Tri.regionL ?_
    refine OpsL.cons rfl (op_move rfl) ?_
    refine OpsL.cons rfl (op_len_e' und37 rfl (List.length_map _)) ?_
    refine OpsL.cons rfl (op_move rfl) ?_
    refine OpsL.nilK [1, 5, 6, 10, 11, 12] [101] (s' := ⟨[(1, I body0), (5, I (-1)), (6, .b (.ptr 101 0)), (10, .b (.one (.sl 1 (all0.map (eL 5 eHolding))))), (11, I (all0.length : Int)), (12, I 0)], [(101, .box 59 [.i 0, .i 0, .i 0, .i 0, .str []])]⟩) rfl ?_
    refine Tri.block ?_
    refine Tri.loopJ h2 (un3 fun (best_2 : Int) (at_3 : Holding) (x_4 : Int) => ⟨[(1, I body0), (5, I best_2), (6, .b (.ptr 101 0)), (10, .b (.one (.sl 1 (all0.map (eL 5 eHolding))))), (11, I (all0.length : Int)), (12, I x_4)], [(101, .box 59 [.i at_3.Body, .i at_3.Epoch, .i at_3.Phase, .i at_3.Peer, .str at_3.Data])]⟩) [1, 5, 6, 10, 11, 12] [101] rfl ?_
    rintro ⟨best_2, at_3, x_4⟩ o3 h4 hy5
    refine Tri.seq ?_
    refine Tri.regionL ?_
    refine OpsL.cons rfl (op_lss rfl rfl) ?_
    refine OpsL.nilK [1, 5, 6, 10, 11, 12, 13] [101] (s' := ⟨[(1, I body0), (5, I best_2), (6, .b (.ptr 101 0)), (10, .b (.one (.sl 1 (all0.map (eL 5 eHolding))))), (11, I (all0.length : Int)), (12, I x_4), (13, B (decide (x_4 < (all0.length : Int))))], [(101, .box 59 [.i at_3.Body, .i at_3.Epoch, .i at_3.Phase, .i at_3.Peer, .str at_3.Data])]⟩) rfl ?_
    refine Tri.seq ?_
    refine Tri.ite h4 rfl (fun _ h4 => ?_) (fun _ h4 => ?_)
    · refine Tri.skip ?_
      refine Fin.keep [1, 5, 6, 10, 11, 12] [101] (s' := ⟨[(1, I body0), (5, I best_2), (6, .b (.ptr 101 0)), (10, .b (.one (.sl 1 (all0.map (eL 5 eHolding))))), (11, I (all0.length : Int)), (12, I x_4)], [(101, .box 59 [.i at_3.Body, .i at_3.Epoch, .i at_3.Phase, .i at_3.Peer, .str at_3.Data])]⟩) rfl ?_
      refine Fin.then ?_
      obtain ⟨v6, h7, h4⟩ := bnd h4
      refine Tri.seqJ (v := v6) (un2 fun (best_6 : Int) (at_7 : Holding) => ⟨[(1, I body0), (5, I best_6), (6, .b (.ptr 101 0)), (10, .b (.one (.sl 1 (all0.map (eL 5 eHolding))))), (11, I (all0.length : Int)), (12, I x_4)], [(101, .box 59 [.i at_7.Body, .i at_7.Epoch, .i at_7.Phase, .i at_7.Peer, .str at_7.Data])]⟩) (fun z => z) ?_ ?_
      · refine Tri.block ?_
        refine Tri.seq ?_
        refine Tri.regionL ?_
        refine OpsL.cons rfl (op_move rfl) ?_
        obtain ⟨x_8, e8, h7⟩ := bnd h7
        refine OpsL.cons rfl (op_index_e tySl37 (ix_lo e8) (ix_map (e := (eL 5 eHolding)) e8) rfl rfl) ?_
        refine OpsL.cons rfl (op_load_e1 tyOne42 rfl rfl) ?_
        refine OpsL.cons rfl (op_assign rfl) ?_
        refine OpsL.cons rfl (op_assign rfl) ?_
        refine OpsL.nilK [1, 5, 6, 7, 8, 10, 11, 12] [101] (s' := ⟨[(1, I body0), (5, I best_2), (6, .b (.ptr 101 0)), (7, I x_4), (8, .b (.one (.sl 5 (x_8.map eHolding)))), (10, .b (.one (.sl 1 (all0.map (eL 5 eHolding))))), (11, I (all0.length : Int)), (12, I x_4)], [(101, .box 59 [.i at_3.Body, .i at_3.Epoch, .i at_3.Phase, .i at_3.Peer, .str at_3.Data])]⟩) rfl ?_
        refine Tri.seq ?_
        refine Tri.regionL ?_
        refine OpsL.cons rfl (op_move rfl) ?_
        refine OpsL.cons rfl (op_move rfl) ?_
        obtain ⟨x_9, e9, h7⟩ := bnd h7
        refine OpsL.cons rfl (op_call0 (region_Get_spec e9) goes30 rfl rfl) ?_
        refine OpsL.cons rfl (op_alloc (k := 102) tyZero59 rfl) ?_
        refine OpsL.cons rfl (op_store_p tyAgg59 rfl rfl rfl rfl (Nat.le_of_ble_eq_true rfl) rfl) ?_
        refine OpsL.nilK [1, 5, 6, 7, 9, 10, 11, 12] [101, 102] (s' := ⟨[(1, I body0), (5, I best_2), (6, .b (.ptr 101 0)), (7, I x_4), (9, .b (.ptr 102 0)), (10, .b (.one (.sl 1 (all0.map (eL 5 eHolding))))), (11, I (all0.length : Int)), (12, I x_4)], [(101, .box 59 [.i at_3.Body, .i at_3.Epoch, .i at_3.Phase, .i at_3.Peer, .str at_3.Data]), (102, .box 59 [.i x_9.Body, .i x_9.Epoch, .i x_9.Phase, .i x_9.Peer, .str x_9.Data])]⟩) rfl ?_
        refine Tri.seq ?_
        refine Tri.seq ?_
        refine Tri.regionL ?_
        refine OpsL.cons rfl (op_field_p tyFld59_2 rfl rfl) ?_
        refine OpsL.cons rfl (op_load_p1 tyOne3 rfl rfl rfl) ?_
        refine OpsL.cons rfl (op_eql rfl rfl) ?_
        refine OpsL.cons rfl (op_move rfl) ?_
        refine OpsL.consG (!(decide (x_9.Phase = 0))) 99 [] (.plain rfl) (eq_f _) rfl rfl (fun g10 => trivial) (fun g10 => op_field_p tyFld59_2 rfl rfl) ?_
        refine OpsL.consG (!(decide (x_9.Phase = 0))) 99 [24] (.plain rfl) (eq_f _) rfl rfl (fun g11 => ⟨g11, trivial⟩) (fun g11 => op_load_p1 tyOne3 rfl rfl rfl) ?_
        refine OpsL.consG (!(decide (x_9.Phase = 0))) 99 [25] (.plain rfl) (eq_f _) rfl rfl (fun g12 => ⟨g12, trivial⟩) (fun g12 => op_eql rfl rfl) ?_
        refine OpsL.cons rfl (op_pick_or (fun e => by rw [e]; rfl) rfl rfl rfl rfl) ?_
        refine OpsL.nilK [1, 5, 6, 7, 9, 10, 11, 12, 27] [101, 102] (s' := ⟨[(1, I body0), (5, I best_2), (6, .b (.ptr 101 0)), (7, I x_4), (9, .b (.ptr 102 0)), (10, .b (.one (.sl 1 (all0.map (eL 5 eHolding))))), (11, I (all0.length : Int)), (12, I x_4), (27, B ((decide (x_9.Phase = 0)) || (decide (x_9.Phase = 4))))], [(101, .box 59 [.i at_3.Body, .i at_3.Epoch, .i at_3.Phase, .i at_3.Peer, .str at_3.Data]), (102, .box 59 [.i x_9.Body, .i x_9.Epoch, .i x_9.Phase, .i x_9.Peer, .str x_9.Data])]⟩) rfl ?_
        refine Tri.ite h7 rfl (fun _ h7 => ?_) (fun _ h7 => ?_)
        · refine Tri.exit ?_
          refine Fin.then_exit ?_
          refine Fin.block_exit ?_
          exact Fin.join [1, 5, 6, 10, 11, 12] [101] (best_2, at_3) (Option.some.inj h7) rfl
        · refine Tri.skip ?_
          refine Fin.keep [1, 5, 6, 7, 9, 10, 11, 12] [101, 102] (s' := ⟨[(1, I body0), (5, I best_2), (6, .b (.ptr 101 0)), (7, I x_4), (9, .b (.ptr 102 0)), (10, .b (.one (.sl 1 (all0.map (eL 5 eHolding))))), (11, I (all0.length : Int)), (12, I x_4)], [(101, .box 59 [.i at_3.Body, .i at_3.Epoch, .i at_3.Phase, .i at_3.Peer, .str at_3.Data]), (102, .box 59 [.i x_9.Body, .i x_9.Epoch, .i x_9.Phase, .i x_9.Peer, .str x_9.Data])]⟩) rfl ?_
          refine Fin.then ?_
          refine Tri.seq ?_
          refine Tri.regionL ?_
          refine OpsL.cons rfl (op_move rfl) ?_
          refine OpsL.cons rfl (op_lss rfl rfl) ?_
          refine OpsL.cons rfl (op_move rfl) ?_
          refine OpsL.consG (!(decide (best_2 < 0))) 99 [] (.plain rfl) (eq_f _) rfl rfl (fun g13 => trivial) (fun g13 => op_field_p tyFld59_1 rfl rfl) ?_
          refine OpsL.consG (!(decide (best_2 < 0))) 99 [31] (.plain rfl) (eq_f _) rfl rfl (fun g14 => ⟨g14, trivial⟩) (fun g14 => op_load_p1 tyOne3 rfl rfl rfl) ?_
          refine OpsL.consG (!(decide (best_2 < 0))) 99 [] (.plain rfl) (eq_f _) rfl rfl (fun g15 => trivial) (fun g15 => op_field_p tyFld59_1 rfl rfl) ?_
          refine OpsL.consG (!(decide (best_2 < 0))) 99 [33] (.plain rfl) (eq_f _) rfl rfl (fun g16 => ⟨g16, trivial⟩) (fun g16 => op_load_p1 tyOne3 rfl rfl rfl) ?_
          refine OpsL.keep [1, 5, 6, 7, 9, 10, 11, 12, 30, 32, 34] [101, 102] (s' := ⟨[(1, I body0), (5, I best_2), (6, .b (.ptr 101 0)), (7, I x_4), (9, .b (.ptr 102 0)), (10, .b (.one (.sl 1 (all0.map (eL 5 eHolding))))), (11, I (all0.length : Int)), (12, I x_4), (30, B (decide (best_2 < 0))), (32, .opt (!(decide (best_2 < 0))) (.one (.i x_9.Epoch))), (34, .opt (!(decide (best_2 < 0))) (.one (.i at_3.Epoch)))], [(101, .box 59 [.i at_3.Body, .i at_3.Epoch, .i at_3.Phase, .i at_3.Peer, .str at_3.Data]), (102, .box 59 [.i x_9.Body, .i x_9.Epoch, .i x_9.Phase, .i x_9.Peer, .str x_9.Data])]⟩) rfl ?_
          refine OpsL.consG (!(decide (best_2 < 0))) 99 [32, 34] (.plain rfl) (eq_f _) rfl rfl (fun g17 => ⟨g17, g17, trivial⟩) (fun g17 => op_gtr rfl rfl) ?_
          refine OpsL.cons rfl (op_pick_or (fun e => by rw [e]; rfl) rfl rfl rfl rfl) ?_
          refine OpsL.cons rfl (op_move rfl) ?_
          refine OpsL.consG (!((decide (best_2 < 0)) || (decide (at_3.Epoch < x_9.Epoch)))) 99 [] (.plain rfl) (eq_f _) rfl rfl (fun g18 => trivial) (fun g18 => op_field_p tyFld59_1 rfl rfl) ?_
          refine OpsL.consG (!((decide (best_2 < 0)) || (decide (at_3.Epoch < x_9.Epoch)))) 99 [38] (.plain rfl) (eq_f _) rfl rfl (fun g19 => ⟨g19, trivial⟩) (fun g19 => op_load_p1 tyOne3 rfl rfl rfl) ?_
          refine OpsL.consG (!((decide (best_2 < 0)) || (decide (at_3.Epoch < x_9.Epoch)))) 99 [] (.plain rfl) (eq_f _) rfl rfl (fun g20 => trivial) (fun g20 => op_field_p tyFld59_1 rfl rfl) ?_
          refine OpsL.consG (!((decide (best_2 < 0)) || (decide (at_3.Epoch < x_9.Epoch)))) 99 [40] (.plain rfl) (eq_f _) rfl rfl (fun g21 => ⟨g21, trivial⟩) (fun g21 => op_load_p1 tyOne3 rfl rfl rfl) ?_
          refine OpsL.consG (!((decide (best_2 < 0)) || (decide (at_3.Epoch < x_9.Epoch)))) 99 [39, 41] (.plain rfl) (eq_f _) rfl rfl (fun g22 => ⟨g22, g22, trivial⟩) (fun g22 => op_eql rfl rfl) ?_
          refine OpsL.keep [1, 5, 6, 7, 9, 10, 11, 12, 37, 42] [101, 102] (s' := ⟨[(1, I body0), (5, I best_2), (6, .b (.ptr 101 0)), (7, I x_4), (9, .b (.ptr 102 0)), (10, .b (.one (.sl 1 (all0.map (eL 5 eHolding))))), (11, I (all0.length : Int)), (12, I x_4), (37, B ((decide (best_2 < 0)) || (decide (at_3.Epoch < x_9.Epoch)))), (42, .opt (!((decide (best_2 < 0)) || (decide (at_3.Epoch < x_9.Epoch)))) (.one (.bool (decide (x_9.Epoch = at_3.Epoch)))))], [(101, .box 59 [.i at_3.Body, .i at_3.Epoch, .i at_3.Phase, .i at_3.Peer, .str at_3.Data]), (102, .box 59 [.i x_9.Body, .i x_9.Epoch, .i x_9.Phase, .i x_9.Peer, .str x_9.Data])]⟩) rfl ?_
          refine OpsL.consG (!((decide (best_2 < 0)) || (decide (at_3.Epoch < x_9.Epoch)))) 99 [42] (.plain rfl) (eq_f _) rfl rfl (fun g23 => ⟨g23, trivial⟩) (fun g23 => op_move rfl) ?_
          refine OpsL.consG ((!((decide (best_2 < 0)) || (decide (at_3.Epoch < x_9.Epoch)))) && (decide (x_9.Epoch = at_3.Epoch))) 99 [] (.under rfl) (and_t _ _) rfl rfl (fun g24 => trivial) (fun g24 => op_field_p tyFld59_2 rfl rfl) ?_
          refine OpsL.consG ((!((decide (best_2 < 0)) || (decide (at_3.Epoch < x_9.Epoch)))) && (decide (x_9.Epoch = at_3.Epoch))) 99 [44] (.under rfl) (and_t _ _) rfl rfl (fun g25 => ⟨g25, trivial⟩) (fun g25 => op_load_p1 tyOne3 rfl rfl rfl) ?_
          refine OpsL.consG ((!((decide (best_2 < 0)) || (decide (at_3.Epoch < x_9.Epoch)))) && (decide (x_9.Epoch = at_3.Epoch))) 99 [45] (.under rfl) (and_t _ _) rfl rfl (fun g26 => ⟨g26, trivial⟩) (fun g26 => op_eql rfl rfl) ?_
          refine OpsL.consG (!((decide (best_2 < 0)) || (decide (at_3.Epoch < x_9.Epoch)))) 99 [43] (.plain rfl) (eq_f _) rfl rfl (fun g27 => ⟨g27, trivial⟩) (fun g27 => op_pick_and (fun e => by rw [g27, e]; rfl) rfl rfl rfl rfl) ?_
          refine OpsL.consG (!((decide (best_2 < 0)) || (decide (at_3.Epoch < x_9.Epoch)))) 99 [47] (.plain rfl) (eq_f _) rfl rfl (fun g28 => ⟨g28, trivial⟩) (fun g28 => op_move rfl) ?_
          refine OpsL.consG ((!((decide (best_2 < 0)) || (decide (at_3.Epoch < x_9.Epoch)))) && ((decide (x_9.Epoch = at_3.Epoch)) && (decide (x_9.Phase = 1)))) 99 [] (.under rfl) (and_t _ _) rfl rfl (fun g29 => trivial) (fun g29 => op_field_p tyFld59_2 rfl rfl) ?_
          refine OpsL.consG ((!((decide (best_2 < 0)) || (decide (at_3.Epoch < x_9.Epoch)))) && ((decide (x_9.Epoch = at_3.Epoch)) && (decide (x_9.Phase = 1)))) 99 [49] (.under rfl) (and_t _ _) rfl rfl (fun g30 => ⟨g30, trivial⟩) (fun g30 => op_load_p1 tyOne3 rfl rfl rfl) ?_
          refine OpsL.keep [1, 5, 6, 7, 9, 10, 11, 12, 37, 48, 50] [101, 102] (s' := ⟨[(1, I body0), (5, I best_2), (6, .b (.ptr 101 0)), (7, I x_4), (9, .b (.ptr 102 0)), (10, .b (.one (.sl 1 (all0.map (eL 5 eHolding))))), (11, I (all0.length : Int)), (12, I x_4), (37, B ((decide (best_2 < 0)) || (decide (at_3.Epoch < x_9.Epoch)))), (48, .opt (!((decide (best_2 < 0)) || (decide (at_3.Epoch < x_9.Epoch)))) (.one (.bool ((decide (x_9.Epoch = at_3.Epoch)) && (decide (x_9.Phase = 1)))))), (50, .opt ((!((decide (best_2 < 0)) || (decide (at_3.Epoch < x_9.Epoch)))) && ((decide (x_9.Epoch = at_3.Epoch)) && (decide (x_9.Phase = 1)))) (.one (.i at_3.Phase)))], [(101, .box 59 [.i at_3.Body, .i at_3.Epoch, .i at_3.Phase, .i at_3.Peer, .str at_3.Data]), (102, .box 59 [.i x_9.Body, .i x_9.Epoch, .i x_9.Phase, .i x_9.Peer, .str x_9.Data])]⟩) rfl ?_
          refine OpsL.consG ((!((decide (best_2 < 0)) || (decide (at_3.Epoch < x_9.Epoch)))) && ((decide (x_9.Epoch = at_3.Epoch)) && (decide (x_9.Phase = 1)))) 99 [50] (.under rfl) (and_t _ _) rfl rfl (fun g31 => ⟨g31, trivial⟩) (fun g31 => op_neq rfl rfl) ?_
          refine OpsL.consG (!((decide (best_2 < 0)) || (decide (at_3.Epoch < x_9.Epoch)))) 99 [48] (.plain rfl) (eq_f _) rfl rfl (fun g32 => ⟨g32, trivial⟩) (fun g32 => op_pick_and (fun e => by rw [g32, e]; rfl) rfl rfl rfl rfl) ?_
          refine OpsL.consB h7 rfl (op_pick_or (fun e => by rw [e]; rfl) rfl rfl rfl rfl) (fun x_10 h7 => ?_)
          refine OpsL.nilK [1, 5, 6, 7, 9, 10, 11, 12, 53] [101, 102] (s' := ⟨[(1, I body0), (5, I best_2), (6, .b (.ptr 101 0)), (7, I x_4), (9, .b (.ptr 102 0)), (10, .b (.one (.sl 1 (all0.map (eL 5 eHolding))))), (11, I (all0.length : Int)), (12, I x_4), (53, B x_10)], [(101, .box 59 [.i at_3.Body, .i at_3.Epoch, .i at_3.Phase, .i at_3.Peer, .str at_3.Data]), (102, .box 59 [.i x_9.Body, .i x_9.Epoch, .i x_9.Phase, .i x_9.Peer, .str x_9.Data])]⟩) rfl ?_
          refine Tri.ite h7 rfl (fun _ h7 => ?_) (fun _ h7 => ?_)
          · refine Tri.keep [1, 6, 7, 9, 10, 11, 12] [101, 102] (s' := ⟨[(1, I body0), (6, .b (.ptr 101 0)), (7, I x_4), (9, .b (.ptr 102 0)), (10, .b (.one (.sl 1 (all0.map (eL 5 eHolding))))), (11, I (all0.length : Int)), (12, I x_4)], [(101, .box 59 [.i at_3.Body, .i at_3.Epoch, .i at_3.Phase, .i at_3.Peer, .str at_3.Data]), (102, .box 59 [.i x_9.Body, .i x_9.Epoch, .i x_9.Phase, .i x_9.Peer, .str x_9.Data])]⟩) rfl ?_
            refine Tri.regionZF mixed [I x_4, .b (.agg [.i x_9.Body, .i x_9.Epoch, .i x_9.Phase, .i x_9.Peer, .str x_9.Data]), I x_4] [1, 5, 6, 10, 11, 12] [101] (s' := ⟨[(1, I body0), (5, I x_4), (6, .b (.ptr 101 0)), (10, .b (.one (.sl 1 (all0.map (eL 5 eHolding))))), (11, I (all0.length : Int)), (12, I x_4)], [(101, .box 59 [.i x_9.Body, .i x_9.Epoch, .i x_9.Phase, .i x_9.Peer, .str x_9.Data])]⟩) (by simp) rfl rfl ⟨fun _ => .plain rfl (op_move rfl), fun _ => .plain rfl (op_load_p tyAgg59 rfl rfl rfl rfl), fun _ => .plain rfl (op_assign rfl), trivial⟩ (.plain rfl (op_store_p tyAgg59 rfl rfl rfl rfl (Nat.le_of_ble_eq_true rfl) rfl)) rfl ?_
            refine Fin.block_normal ?_
            exact Fin.join [1, 5, 6, 10, 11, 12] [101] (x_4, x_9) (Option.some.inj h7) rfl
          · refine Tri.skip ?_
            refine Fin.block_normal ?_
            exact Fin.join [1, 5, 6, 10, 11, 12] [101] (best_2, at_3) (Option.some.inj h7) rfl
      · rintro ⟨best_6, at_7⟩ hv
        subst v6
        refine Tri.regionL ?_
        refine OpsL.cons rfl (op_add rfl rfl) ?_
        refine OpsL.cons rfl (op_move rfl) ?_
        refine OpsL.nil ?_
        exact Fin.againJ [1, 5, 6, 10, 11, 12] [101] (best_6, at_7, IntKind.i64.wrap (x_4 + 1)) (Option.some.inj h4) rfl
    · refine Tri.exit ?_
      refine Fin.then_exit ?_
      obtain rfl := hy5 _ (Option.some.inj h4).symm
      refine Fin.then_exit ?_
      refine Fin.block_exit ?_
      exact Fin.join [5] [] best_2 rfl rfl
  · rintro best_1 hv
    subst v1
    refine Tri.seq ?_
    refine Tri.regionL ?_
    refine OpsL.cons rfl (op_move rfl) ?_
    refine OpsL.cons rfl (op_assign rfl) ?_
    refine OpsL.nilK [4] [] (s' := ⟨[(4, I best_1)], []⟩) rfl ?_
    refine Tri.ret ?_
    obtain rfl := Option.some.inj h
    refine Fin.keep [4] [] (s' := ⟨[(4, I best_1)], []⟩) rfl ?_
    refine Fin.result' [.one (.i best_1)] (.inl rfl) rfl (.cons (.tmp rfl) .nil) ⟨rfl, rfl⟩

def region_Active_S (F : Nat) (l0 : List Holding) : Option (List Int) :=
 Option.bind (iter F (un2 fun out_2 x_3 => if (decide (x_3 < (l0.length : Int))) = true then (Option.bind (Option.bind (idx? l0 x_3) (fun x_6 => if (decide (x_6.Phase = 1)) = true then (Option.bind (app? out_2 [x_6.Body]) (fun x_7 => some x_7)) else (some out_2))) (fun out_5 => some (.inl (out_5, IntKind.i64.wrap (x_3 + 1))))) else (some (.inr out_2))) ([], 0)) (fun out_1 => some out_1)
theorem region_Active_spec (k0 : Nat) {F : Nat} {l0 : List Holding} {r : (List Int)} (h : region_Active_S F l0 = some r) : Meets Try.prog 37 [] [.one (.sl 5 (l0.map eHolding))] (Is [(k0, .row 3 1 (r.map eI))] (.b (.row k0))) := by
  unfold region_Active_S at h
  refine Meets.intro 22 Try.func37 Try.ntmps37 rfl (by simp) fun E => ?_
  show Tri _ E ⟨22, [], []⟩ _ ⟨[(0, .b (.one (.sl 5 (l0.map eHolding))))], []⟩ _
  refine Tri.seq ?_
  refine Tri.regionL ?_
  refine OpsL.cons rfl (op_assign rfl) ?_
  refine OpsL.nilK [0] [] (s' := ⟨[(0, .b (.one (.sl 5 (l0.map eHolding))))], []⟩) rfl ?_
  refine Tri.seq ?_
  refine Tri.regionL ?_
  refine OpsL.cons rfl (op_assign rfl) ?_
  refine OpsL.nilK [0, 3] [] (s' := ⟨[(0, .b (.one (.sl 5 (l0.map eHolding)))), (3, .b (.one (.nil)))], []⟩) rfl ?_
  obtain ⟨v1, h2, h⟩ := bnd h
  refine Tri.seqJ (v := v1) (fun (out_1 : List Int) => ⟨[(3, .b (.row 103))], [(103, .row 3 1 (out_1.map eI))]⟩) (fun z => z) ?_ ?_
  · refine Tri.seq ?_
    refine Tri.regionL ?_
    refine OpsL.cons rfl (op_move rfl) ?_
    refine OpsL.cons rfl (op_len_e' und42 rfl (List.length_map _)) ?_
    refine OpsL.cons rfl (op_move rfl) ?_
    refine OpsL.nilK [3, 6, 7, 8] [] (s' := ⟨[(3, .b (.one (.nil))), (6, .b (.one (.sl 5 (l0.map eHolding)))), (7, I (l0.length : Int)), (8, I 0)], []⟩) rfl ?_
    refine Tri.block ?_
    refine Tri.keep [3, 6, 7, 8] [] (s' := ⟨[(3, .b (.one (.nil))), (6, .b (.one (.sl 5 (l0.map eHolding)))), (7, I (l0.length : Int)), (8, I 0)], []⟩) rfl ?_
    refine Tri.nilrow 3 103 1 3 rfl (by decide) rfl ?_
    refine Tri.loopJ h2 (un2 fun (out_2 : List Int) (x_3 : Int) => ⟨[(3, .b (.row 103)), (6, .b (.one (.sl 5 (l0.map eHolding)))), (7, I (l0.length : Int)), (8, I x_3)], [(103, .row 3 1 (out_2.map eI))]⟩) [3, 6, 7, 8] [103] rfl ?_
    rintro ⟨out_2, x_3⟩ o3 h4 hy5
    refine Tri.seq ?_
    refine Tri.regionL ?_
    refine OpsL.cons rfl (op_lss rfl rfl) ?_
    refine OpsL.nilK [3, 6, 7, 8, 9] [103] (s' := ⟨[(3, .b (.row 103)), (6, .b (.one (.sl 5 (l0.map eHolding)))), (7, I (l0.length : Int)), (8, I x_3), (9, B (decide (x_3 < (l0.length : Int))))], [(103, .row 3 1 (out_2.map eI))]⟩) rfl ?_
    refine Tri.seq ?_
    refine Tri.ite h4 rfl (fun _ h4 => ?_) (fun _ h4 => ?_)
    · refine Tri.skip ?_
      refine Fin.keep [3, 6, 7, 8] [103] (s' := ⟨[(3, .b (.row 103)), (6, .b (.one (.sl 5 (l0.map eHolding)))), (7, I (l0.length : Int)), (8, I x_3)], [(103, .row 3 1 (out_2.map eI))]⟩) rfl ?_
      refine Fin.then ?_
      obtain ⟨v6, h7, h4⟩ := bnd h4
      refine Tri.seqJ (v := v6) (fun (out_5 : List Int) => ⟨[(3, .b (.row 103)), (6, .b (.one (.sl 5 (l0.map eHolding)))), (7, I (l0.length : Int)), (8, I x_3)], [(103, .row 3 1 (out_5.map eI))]⟩) (fun z => z) ?_ ?_
      · refine Tri.block ?_
        refine Tri.seq ?_
        refine Tri.regionL ?_
        obtain ⟨x_6, e8, h7⟩ := bnd h7
        refine OpsL.cons rfl (op_index_e tySl42 (ix_lo e8) (ix_map (e := eHolding) e8) rfl rfl) ?_
        refine OpsL.cons rfl (op_load_e tyAgg59 rfl rfl rfl) ?_
        refine OpsL.cons rfl (op_alloc (k := 104) tyZero59 rfl) ?_
        refine OpsL.cons rfl (op_store_p tyAgg59 rfl rfl rfl rfl (Nat.le_of_ble_eq_true rfl) rfl) ?_
        refine OpsL.nilK [3, 5, 6, 7, 8] [103, 104] (s' := ⟨[(3, .b (.row 103)), (5, .b (.ptr 104 0)), (6, .b (.one (.sl 5 (l0.map eHolding)))), (7, I (l0.length : Int)), (8, I x_3)], [(103, .row 3 1 (out_2.map eI)), (104, .box 59 [.i x_6.Body, .i x_6.Epoch, .i x_6.Phase, .i x_6.Peer, .str x_6.Data])]⟩) rfl ?_
        refine Tri.seq ?_
        refine Tri.regionL ?_
        refine OpsL.cons rfl (op_field_p tyFld59_2 rfl rfl) ?_
        refine OpsL.cons rfl (op_load_p1 tyOne3 rfl rfl rfl) ?_
        refine OpsL.cons rfl (op_eql rfl rfl) ?_
        refine OpsL.nilK [3, 5, 6, 7, 8, 14] [103, 104] (s' := ⟨[(3, .b (.row 103)), (5, .b (.ptr 104 0)), (6, .b (.one (.sl 5 (l0.map eHolding)))), (7, I (l0.length : Int)), (8, I x_3), (14, B (decide (x_6.Phase = 1)))], [(103, .row 3 1 (out_2.map eI)), (104, .box 59 [.i x_6.Body, .i x_6.Epoch, .i x_6.Phase, .i x_6.Peer, .str x_6.Data])]⟩) rfl ?_
        refine Tri.ite h7 rfl (fun _ h7 => ?_) (fun _ h7 => ?_)
        · refine Tri.regionL ?_
          refine OpsL.cons rfl (op_move rfl) ?_
          refine OpsL.cons rfl (op_field_p tyFld59_0 rfl rfl) ?_
          refine OpsL.cons rfl (op_load_p1 tyOne3 rfl rfl rfl) ?_
          refine OpsL.cons rfl (op_buildSlice (k := 105) (es := [x_6.Body].map eI) tySl22 rfl rfl (uni_map fun _ => rfl) rfl (by decide) (by decide) rfl) ?_
          obtain ⟨x_7, e9, h7⟩ := bnd h7
          refine OpsL.cons rfl (op_append_r tySl22 (app_b e9) (app_m e9) rfl rfl rfl rfl (app_map e9) rfl) ?_
          refine OpsL.cons rfl (op_assign rfl) ?_
          refine OpsL.nil ?_
          refine Fin.block_normal ?_
          exact Fin.join [3, 6, 7, 8] [103] x_7 (Option.some.inj h7) rfl
        · refine Tri.skip ?_
          refine Fin.block_normal ?_
          exact Fin.join [3, 6, 7, 8] [103] out_2 (Option.some.inj h7) rfl
      · rintro out_5 hv
        subst v6
        refine Tri.regionL ?_
        refine OpsL.cons rfl (op_add rfl rfl) ?_
        refine OpsL.cons rfl (op_move rfl) ?_
        refine OpsL.nil ?_
        exact Fin.againJ [3, 6, 7, 8] [103] (out_5, IntKind.i64.wrap (x_3 + 1)) (Option.some.inj h4) rfl
    · refine Tri.exit ?_
      refine Fin.then_exit ?_
      obtain rfl := hy5 _ (Option.some.inj h4).symm
      refine Fin.then_exit ?_
      refine Fin.block_exit ?_
      exact Fin.join [3] [103] out_2 rfl rfl
  · rintro out_1 hv
    subst v1
    refine Tri.seq ?_
    refine Tri.regionL ?_
    refine OpsL.cons rfl (op_move rfl) ?_
    refine OpsL.cons rfl (op_assign rfl) ?_
    refine OpsL.nilK [2] [103] (s' := ⟨[(2, .b (.row 103))], [(103, .row 3 1 (out_1.map eI))]⟩) rfl ?_
    refine Tri.ret ?_
    obtain rfl := Option.some.inj h
    refine Fin.keep [2] [103] (s' := ⟨[(2, .b (.row 103))], [(103, .row 3 1 (out_1.map eI))]⟩) rfl ?_
    refine Fin.resultK 103 k0 [.row 103] (.inl rfl) rfl (.cons (.tmp rfl) .nil) rfl rfl rfl rfl ⟨rfl, rfl⟩

def skewbacklaw41_sanity_S (F : Nat) : Option Bool :=
 Option.bind (region_Begin_S F [] 7 [97]) (un2 fun x_1 x_2 => Option.bind (region_Offer_S F x_1 0 7 1) (un2 fun x_3 x_4 => Option.bind (region_Letters_S F x_3 0) (fun x_5 => letN (((decide (x_2 ≠ 0)) || (decide (x_4 ≠ 0))) || (decide ((x_5.length : Int) ≠ 1))) fun x_6 => Option.bind (gcall (!x_6) (idx? x_5 0)) (fun x_7 => if (x_6 || (decide (x_7 ≠ (⟨0, 1, 1, 7, 1, [97]⟩ : Parcel)))) = true then (some false) else (Option.bind (idx? x_5 0) (fun x_8 => Option.bind (region_Receive_S F [] 1 x_8) (un2 fun x_9 x_10 => Option.bind (gcall (!(decide ((x_10.length : Int) ≠ 1))) (region_Get_S F x_9 7)) (fun x_11 => letN ((decide ((x_10.length : Int) ≠ 1)) || (decide (x_11 ≠ (⟨7, 1, 4, 0, [97]⟩ : Holding)))) fun x_12 => Option.bind (gcall (!x_12) (idx? x_10 0)) (fun x_13 => if (x_12 || (decide (x_13.Kind ≠ 2))) = true then (some false) else (Option.bind (idx? x_10 0) (fun x_14 => Option.bind (region_Receive_S F x_3 0 x_14) (un2 fun x_15 x_16 => Option.bind (gcall (!(decide ((x_16.length : Int) ≠ 1))) (idx? x_16 0)) (fun x_17 => letN ((decide ((x_16.length : Int) ≠ 1)) || (decide (x_17.Kind ≠ 3))) fun x_18 => Option.bind (gcall (!x_18) (region_Get_S F x_15 7)) (fun x_19 => if (x_18 || (decide (x_19.Phase ≠ 3))) = true then (some false) else (Option.bind (idx? x_16 0) (fun x_20 => Option.bind (region_Receive_S F x_9 1 x_20) (un2 fun x_21 x_22 => Option.bind (idx? x_16 0) (fun x_23 => Option.bind (region_Receive_S F x_21 1 x_23) (un2 fun x_24 x_25 => Option.bind (gcall (!((decide ((x_22.length : Int) ≠ 1)) || (decide ((x_25.length : Int) ≠ 1)))) (idx? x_22 0)) (fun x_26 => Option.bind (gcall (!((decide ((x_22.length : Int) ≠ 1)) || (decide ((x_25.length : Int) ≠ 1)))) (idx? x_25 0)) (fun x_27 => Option.bind (gcall (!(((decide ((x_22.length : Int) ≠ 1)) || (decide ((x_25.length : Int) ≠ 1))) || (decide (x_26 ≠ x_27)))) (idx? x_22 0)) (fun x_28 => if ((((decide ((x_22.length : Int) ≠ 1)) || (decide ((x_25.length : Int) ≠ 1))) || (decide (x_26 ≠ x_27))) || (decide (x_28.Kind ≠ 4))) = true then (some false) else (Option.bind (idx? x_22 0) (fun x_29 => Option.bind (region_Receive_S F x_15 0 x_29) (un2 fun x_30 x_31 => Option.bind (gcall (decide ((x_31.length : Int) = 0)) (region_Get_S F x_30 7)) (fun x_32 => letN ((decide ((x_31.length : Int) = 0)) && (decide (x_32 = (⟨7, 1, 0, 0, []⟩ : Holding)))) fun x_33 => Option.bind (gcall x_33 (region_Get_S F x_24 7)) (fun x_34 => Option.bind (gcall (x_33 && (decide (x_34 = (⟨7, 1, 1, 0, [97]⟩ : Holding)))) (region_Region_S F [10, 20] 9)) (fun x_35 => letN ((x_33 && (decide (x_34 = (⟨7, 1, 1, 0, [97]⟩ : Holding)))) && (decide (x_35 = 0))) fun x_36 => Option.bind (gcall x_36 (region_Region_S F [10, 20] 10)) (fun x_37 => Option.bind (gcall (x_36 && (decide (x_37 = 1))) (region_Region_S F [10, 20] 25)) (fun x_38 => Option.bind (gcall ((x_36 && (decide (x_37 = 1))) && (decide (x_38 = 2))) (region_Holder_S F [x_30, x_24] 7)) (fun x_39 => letN (((x_36 && (decide (x_37 = 1))) && (decide (x_38 = 2))) && (decide (x_39 = 1))) fun x_40 => Option.bind (gcall x_40 (region_Active_S F x_24)) (fun x_41 => some (x_40 && (decide ((x_41.length : Int) = 1)))))))))))))))))))))))))))))))))))
theorem skewbacklaw41_sanity_spec {F : Nat} {r : Bool} (h : skewbacklaw41_sanity_S F = some r) : Meets Try.prog 7 [] [] (Is [] (.b (.one (.bool r)))) := by
  unfold skewbacklaw41_sanity_S at h
  refine Meets.intro 182 Try.func7 Try.ntmps7 rfl (by simp) fun E => ?_
  show Tri _ E ⟨182, [], []⟩ _ ⟨[], []⟩ _
  refine Tri.seq ?_
  refine Tri.regionL ?_
  refine OpsL.cons rfl (op_assign rfl) ?_
  refine OpsL.nilK [] [] (s' := ⟨[], []⟩) rfl ?_
  refine Tri.seq ?_
  refine Tri.regionL ?_
  obtain ⟨⟨x_1, x_2⟩, e1, h⟩ := bnd h
  refine OpsL.cons rfl (op_call (Meets.nilA 0 (by decide) (region_Begin_spec 101 e1) rfl) goes21 rfl trivial rfl rfl) ?_
  refine OpsL.cons rfl (op_move rfl) ?_
  refine OpsL.cons rfl (op_extract rfl rfl) ?_
  refine OpsL.cons rfl (op_extract rfl rfl) ?_
  refine OpsL.cons rfl (op_assign rfl) ?_
  refine OpsL.cons rfl (op_assign rfl) ?_
  refine OpsL.nilK [1, 2] [101] (s' := ⟨[(1, .b (.row 101)), (2, I x_2)], [(101, .row 59 5 (x_1.map eHolding))]⟩) rfl ?_
  refine Tri.seq ?_
  refine Tri.regionL ?_
  refine OpsL.cons rfl (op_move rfl) ?_
  refine OpsL.persist 101 rfl ?_
  obtain ⟨⟨x_3, x_4⟩, e2, h⟩ := bnd h
  refine OpsL.cons rfl (op_call (region_Offer_spec 102 e2) goes23 rfl trivial rfl rfl) ?_
  refine OpsL.cons rfl (op_move rfl) ?_
  refine OpsL.keep [1, 2, 17] [102] (s' := ⟨[(1, .b (.one (.sl 5 (x_1.map eHolding)))), (2, I x_2), (17, .tup [.row 102, .one (.i x_4)])], [(102, .row 59 5 (x_3.map eHolding))]⟩) rfl ?_
  refine OpsL.cons rfl (op_extract rfl rfl) ?_
  refine OpsL.cons rfl (op_extract rfl rfl) ?_
  refine OpsL.cons rfl (op_assign rfl) ?_
  refine OpsL.cons rfl (op_assign rfl) ?_
  refine OpsL.nilK [1, 2, 3] [102] (s' := ⟨[(1, .b (.row 102)), (2, I x_2), (3, I x_4)], [(102, .row 59 5 (x_3.map eHolding))]⟩) rfl ?_
  refine Tri.seq ?_
  refine Tri.regionL ?_
  refine OpsL.cons rfl (op_move rfl) ?_
  refine OpsL.persist 102 rfl ?_
  obtain ⟨x_5, e3, h⟩ := bnd h
  refine OpsL.cons rfl (op_call (region_Letters_spec 103 e3) goes15 rfl trivial rfl rfl) ?_
  refine OpsL.cons rfl (op_assign rfl) ?_
  refine OpsL.nilK [1, 2, 3, 4] [103] (s' := ⟨[(1, .b (.one (.sl 5 (x_3.map eHolding)))), (2, I x_2), (3, I x_4), (4, .b (.row 103))], [(103, .row 45 6 (x_5.map eParcel))]⟩) rfl ?_
  refine Tri.seq ?_
  refine Tri.seq ?_
  refine Tri.regionL ?_
  refine OpsL.cons rfl (op_move rfl) ?_
  refine OpsL.cons rfl (op_neq rfl rfl) ?_
  refine OpsL.cons rfl (op_move rfl) ?_
  refine OpsL.consG (!(decide (x_2 ≠ 0))) 99 [] (.plain rfl) (eq_f _) rfl rfl (fun g4 => trivial) (fun g4 => op_move rfl) ?_
  refine OpsL.consG (!(decide (x_2 ≠ 0))) 99 [27] (.plain rfl) (eq_f _) rfl rfl (fun g5 => ⟨g5, trivial⟩) (fun g5 => op_neq rfl rfl) ?_
  refine OpsL.cons rfl (op_pick_or (fun e => by rw [e]; rfl) rfl rfl rfl rfl) ?_
  refine OpsL.cons rfl (op_move rfl) ?_
  refine OpsL.keep [1, 4, 30] [103] (s' := ⟨[(1, .b (.one (.sl 5 (x_3.map eHolding)))), (4, .b (.row 103)), (30, B ((decide (x_2 ≠ 0)) || (decide (x_4 ≠ 0))))], [(103, .row 45 6 (x_5.map eParcel))]⟩) rfl ?_
  refine OpsL.consG (!((decide (x_2 ≠ 0)) || (decide (x_4 ≠ 0)))) 99 [] (.plain rfl) (eq_f _) rfl rfl (fun g6 => trivial) (fun g6 => op_move rfl) ?_
  refine OpsL.consG (!((decide (x_2 ≠ 0)) || (decide (x_4 ≠ 0)))) 99 [31] (.plain rfl) (eq_f _) rfl rfl (fun g7 => ⟨g7, trivial⟩) (fun g7 => op_len_r' und38 rfl rfl (List.length_map _)) ?_
  refine OpsL.consG (!((decide (x_2 ≠ 0)) || (decide (x_4 ≠ 0)))) 99 [32] (.plain rfl) (eq_f _) rfl rfl (fun g8 => ⟨g8, trivial⟩) (fun g8 => op_neq rfl rfl) ?_
  refine OpsL.consB h rfl (op_pick_or (fun e => by rw [e]; rfl) rfl rfl rfl rfl) (fun x_6 h => ?_)
  refine OpsL.cons rfl (op_move rfl) ?_
  refine OpsL.consG (!x_6) 99 [] (.plain rfl) (eq_f _) rfl rfl (fun g9 => trivial) (fun g9 => op_move rfl) ?_
  obtain ⟨x_7, e11, h⟩ := bnd h
  refine OpsL.consG (!x_6) 99 [36] (.plain rfl) (eq_f _) rfl rfl (fun g10 => ⟨g10, trivial⟩) (fun g10 => op_index_r tySl38 (ix_lo (gc e11 g10)) (ix_lt' (gc e11 g10)) rfl rfl rfl rfl) ?_
  refine OpsL.keep [1, 4, 35, 37] [103] (s' := ⟨[(1, .b (.one (.sl 5 (x_3.map eHolding)))), (4, .b (.row 103)), (35, B x_6), (37, .opt (!x_6) (.rptr 103 ((0 : Int).toNat * 6)))], [(103, .row 45 6 (x_5.map eParcel))]⟩) rfl ?_
  refine OpsL.consG (!x_6) 99 [37] (.plain rfl) (eq_f _) rfl rfl (fun g12 => ⟨g12, trivial⟩) (fun g12 => op_load_r (i := (0 : Int).toNat) (f := 0) tyAgg45 rfl rfl rfl (ix_map (e := eParcel) (gc e11 g12)) rfl rfl) ?_
  refine OpsL.consG (!x_6) 99 [] (.plain rfl) (eq_f _) rfl rfl (fun g13 => trivial) (fun g13 => op_build tyBuild45 rfl rfl) ?_
  refine OpsL.consG (!x_6) 99 [38, 39] (.plain rfl) (eq_f _) rfl rfl (fun g14 => ⟨g14, g14, trivial⟩) (fun g14 => op_neq_agg (eqAgg45 x_7 (⟨0, 1, 1, 7, 1, [97]⟩ : Parcel)) rfl rfl neg_dec) ?_
  refine OpsL.cons rfl (op_pick_or (fun e => by rw [e]; rfl) rfl rfl rfl rfl) ?_
  refine OpsL.nilK [1, 4, 41] [103] (s' := ⟨[(1, .b (.one (.sl 5 (x_3.map eHolding)))), (4, .b (.row 103)), (41, B (x_6 || (decide (x_7 ≠ (⟨0, 1, 1, 7, 1, [97]⟩ : Parcel)))))], [(103, .row 45 6 (x_5.map eParcel))]⟩) rfl ?_
  refine Tri.ite h rfl (fun _ h => ?_) (fun _ h => ?_)
  · refine Tri.seq ?_
    refine Tri.regionL ?_
    refine OpsL.cons rfl (op_assign rfl) ?_
    refine OpsL.nilK [0] [] (s' := ⟨[(0, B false)], []⟩) rfl ?_
    refine Tri.ret ?_
    refine Fin.then_ret ?_
    obtain rfl := Option.some.inj h
    refine Fin.keep [0] [] (s' := ⟨[(0, B false)], []⟩) rfl ?_
    refine Fin.result' [.one (.bool false)] (.inl rfl) rfl (.cons (.tmp rfl) .nil) ⟨rfl, rfl⟩
  · refine Tri.skip ?_
    refine Fin.keep [1, 4] [103] (s' := ⟨[(1, .b (.one (.sl 5 (x_3.map eHolding)))), (4, .b (.row 103))], [(103, .row 45 6 (x_5.map eParcel))]⟩) rfl ?_
    refine Fin.then ?_
    refine Tri.seq ?_
    refine Tri.regionL ?_
    refine OpsL.cons rfl (op_move rfl) ?_
    obtain ⟨x_8, e15, h⟩ := bnd h
    refine OpsL.cons rfl (op_index_r tySl38 (ix_lo e15) (ix_lt' e15) rfl rfl rfl rfl) ?_
    refine OpsL.cons rfl (op_load_r (i := (0 : Int).toNat) (f := 0) tyAgg45 rfl rfl rfl (ix_map (e := eParcel) e15) rfl rfl) ?_
    obtain ⟨⟨x_9, x_10⟩, e16, h⟩ := bnd h
    refine OpsL.cons rfl (op_call (Meets.nilA 0 (by decide) (region_Receive_spec 104 e16) rfl) goes32 rfl trivial rfl rfl) ?_
    refine OpsL.cons rfl (op_move rfl) ?_
    refine OpsL.keep [1, 42] [104] (s' := ⟨[(1, .b (.one (.sl 5 (x_3.map eHolding)))), (42, .tup [.row 104, .one (.sl 6 (x_10.map eParcel))])], [(104, .row 59 5 (x_9.map eHolding))]⟩) rfl ?_
    refine OpsL.cons rfl (op_extract rfl rfl) ?_
    refine OpsL.cons rfl (op_extract rfl rfl) ?_
    refine OpsL.cons rfl (op_assign rfl) ?_
    refine OpsL.cons rfl (op_assign rfl) ?_
    refine OpsL.nilK [1, 5, 6] [104] (s' := ⟨[(1, .b (.one (.sl 5 (x_3.map eHolding)))), (5, .b (.row 104)), (6, .b (.one (.sl 6 (x_10.map eParcel))))], [(104, .row 59 5 (x_9.map eHolding))]⟩) rfl ?_
    refine Tri.seq ?_
    refine Tri.seq ?_
    refine Tri.regionL ?_
    refine OpsL.cons rfl (op_move rfl) ?_
    refine OpsL.cons rfl (op_len_e' und38 rfl (List.length_map _)) ?_
    refine OpsL.cons rfl (op_neq rfl rfl) ?_
    refine OpsL.cons rfl (op_move rfl) ?_
    refine OpsL.consG (!(decide ((x_10.length : Int) ≠ 1))) 99 [] (.plain rfl) (eq_f _) rfl rfl (fun g17 => trivial) (fun g17 => op_move rfl) ?_
    refine OpsL.keep [1, 5, 6, 52, 53] [104] (s' := ⟨[(1, .b (.one (.sl 5 (x_3.map eHolding)))), (5, .b (.row 104)), (6, .b (.one (.sl 6 (x_10.map eParcel)))), (52, B (decide ((x_10.length : Int) ≠ 1))), (53, .opt (!(decide ((x_10.length : Int) ≠ 1))) (.row 104))], [(104, .row 59 5 (x_9.map eHolding))]⟩) rfl ?_
    obtain ⟨x_11, e19, h⟩ := bnd h
    refine OpsL.consG (!(decide ((x_10.length : Int) ≠ 1))) 99 [53] (.plain rfl) (eq_f _) rfl rfl (fun g18 => ⟨g18, trivial⟩) (fun g18 => op_callB (region_Get_spec (gc e19 g18)) goes30 rfl (flat_agg ⟨CP.flat_int, CP.flat_int, CP.flat_int, CP.flat_int, CP.flat_str, trivial⟩)) ?_
    refine OpsL.consG (!(decide ((x_10.length : Int) ≠ 1))) 99 [] (.plain rfl) (eq_f _) rfl rfl (fun g20 => trivial) (fun g20 => op_build tyBuild59 rfl rfl) ?_
    refine OpsL.consG (!(decide ((x_10.length : Int) ≠ 1))) 99 [54, 55] (.plain rfl) (eq_f _) rfl rfl (fun g21 => ⟨g21, g21, trivial⟩) (fun g21 => op_neq_agg (eqAgg59 x_11 (⟨7, 1, 4, 0, [97]⟩ : Holding)) rfl rfl neg_dec) ?_
    refine OpsL.consB h rfl (op_pick_or (fun e => by rw [e]; rfl) rfl rfl rfl rfl) (fun x_12 h => ?_)
    refine OpsL.cons rfl (op_move rfl) ?_
    refine OpsL.consG (!x_12) 99 [] (.plain rfl) (eq_f _) rfl rfl (fun g22 => trivial) (fun g22 => op_move rfl) ?_
    obtain ⟨x_13, e24, h⟩ := bnd h
    refine OpsL.consG (!x_12) 99 [59] (.plain rfl) (eq_f _) rfl rfl (fun g23 => ⟨g23, trivial⟩) (fun g23 => op_index_e tySl38 (ix_lo (gc e24 g23)) (ix_map (e := eParcel) (gc e24 g23)) rfl rfl) ?_
    refine OpsL.consG (!x_12) 99 [60] (.plain rfl) (eq_f _) rfl rfl (fun g25 => ⟨g25, trivial⟩) (fun g25 => op_field_e tyFld45_2 rfl rfl) ?_
    refine OpsL.keep [1, 5, 6, 58, 61] [104] (s' := ⟨[(1, .b (.one (.sl 5 (x_3.map eHolding)))), (5, .b (.row 104)), (6, .b (.one (.sl 6 (x_10.map eParcel)))), (58, B x_12), (61, .opt (!x_12) (.eptr [.i x_13.Kind, .i x_13.Body, .i x_13.Epoch, .str x_13.Data]))], [(104, .row 59 5 (x_9.map eHolding))]⟩) rfl ?_
    refine OpsL.consG (!x_12) 99 [61] (.plain rfl) (eq_f _) rfl rfl (fun g26 => ⟨g26, trivial⟩) (fun g26 => op_load_e1 tyOne3 rfl rfl) ?_
    refine OpsL.consG (!x_12) 99 [62] (.plain rfl) (eq_f _) rfl rfl (fun g27 => ⟨g27, trivial⟩) (fun g27 => op_neq rfl rfl) ?_
    refine OpsL.cons rfl (op_pick_or (fun e => by rw [e]; rfl) rfl rfl rfl rfl) ?_
    refine OpsL.nilK [1, 5, 6, 64] [104] (s' := ⟨[(1, .b (.one (.sl 5 (x_3.map eHolding)))), (5, .b (.row 104)), (6, .b (.one (.sl 6 (x_10.map eParcel)))), (64, B (x_12 || (decide (x_13.Kind ≠ 2))))], [(104, .row 59 5 (x_9.map eHolding))]⟩) rfl ?_
    refine Tri.ite h rfl (fun _ h => ?_) (fun _ h => ?_)
    · refine Tri.seq ?_
      refine Tri.regionL ?_
      refine OpsL.cons rfl (op_assign rfl) ?_
      refine OpsL.nilK [0] [] (s' := ⟨[(0, B false)], []⟩) rfl ?_
      refine Tri.ret ?_
      refine Fin.then_ret ?_
      obtain rfl := Option.some.inj h
      refine Fin.keep [0] [] (s' := ⟨[(0, B false)], []⟩) rfl ?_
      refine Fin.result' [.one (.bool false)] (.inl rfl) rfl (.cons (.tmp rfl) .nil) ⟨rfl, rfl⟩
    · refine Tri.skip ?_
      refine Fin.keep [1, 5, 6] [104] (s' := ⟨[(1, .b (.one (.sl 5 (x_3.map eHolding)))), (5, .b (.row 104)), (6, .b (.one (.sl 6 (x_10.map eParcel))))], [(104, .row 59 5 (x_9.map eHolding))]⟩) rfl ?_
      refine Fin.then ?_
      refine Tri.seq ?_
      refine Tri.regionL ?_
      refine OpsL.cons rfl (op_move rfl) ?_
      refine OpsL.cons rfl (op_move rfl) ?_
      obtain ⟨x_14, e28, h⟩ := bnd h
      refine OpsL.cons rfl (op_index_e tySl38 (ix_lo e28) (ix_map (e := eParcel) e28) rfl rfl) ?_
      refine OpsL.cons rfl (op_load_e tyAgg45 rfl rfl rfl) ?_
      obtain ⟨⟨x_15, x_16⟩, e29, h⟩ := bnd h
      refine OpsL.cons rfl (op_call (region_Receive_spec 105 e29) goes32 rfl trivial rfl rfl) ?_
      refine OpsL.keep [1, 5, 70] [104, 105] (s' := ⟨[(1, .b (.one (.sl 5 (x_3.map eHolding)))), (5, .b (.row 104)), (70, .tup [.row 105, .one (.sl 6 (x_16.map eParcel))])], [(104, .row 59 5 (x_9.map eHolding)), (105, .row 59 5 (x_15.map eHolding))]⟩) rfl ?_
      refine OpsL.cons rfl (op_move rfl) ?_
      refine OpsL.cons rfl (op_extract rfl rfl) ?_
      refine OpsL.cons rfl (op_extract rfl rfl) ?_
      refine OpsL.cons rfl (op_assign rfl) ?_
      refine OpsL.cons rfl (op_assign rfl) ?_
      refine OpsL.nilK [1, 5, 7] [104, 105] (s' := ⟨[(1, .b (.row 105)), (5, .b (.row 104)), (7, .b (.one (.sl 6 (x_16.map eParcel))))], [(104, .row 59 5 (x_9.map eHolding)), (105, .row 59 5 (x_15.map eHolding))]⟩) rfl ?_
      refine Tri.seq ?_
      refine Tri.seq ?_
      refine Tri.regionL ?_
      refine OpsL.cons rfl (op_move rfl) ?_
      refine OpsL.cons rfl (op_len_e' und38 rfl (List.length_map _)) ?_
      refine OpsL.cons rfl (op_neq rfl rfl) ?_
      refine OpsL.cons rfl (op_move rfl) ?_
      refine OpsL.consG (!(decide ((x_16.length : Int) ≠ 1))) 99 [] (.plain rfl) (eq_f _) rfl rfl (fun g30 => trivial) (fun g30 => op_move rfl) ?_
      obtain ⟨x_17, e32, h⟩ := bnd h
      refine OpsL.consG (!(decide ((x_16.length : Int) ≠ 1))) 99 [77] (.plain rfl) (eq_f _) rfl rfl (fun g31 => ⟨g31, trivial⟩) (fun g31 => op_index_e tySl38 (ix_lo (gc e32 g31)) (ix_map (e := eParcel) (gc e32 g31)) rfl rfl) ?_
      refine OpsL.keep [1, 5, 7, 76, 78] [104, 105] (s' := ⟨[(1, .b (.row 105)), (5, .b (.row 104)), (7, .b (.one (.sl 6 (x_16.map eParcel)))), (76, B (decide ((x_16.length : Int) ≠ 1))), (78, .opt (!(decide ((x_16.length : Int) ≠ 1))) (.eptr [.i x_17.From, .i x_17.To, .i x_17.Kind, .i x_17.Body, .i x_17.Epoch, .str x_17.Data]))], [(104, .row 59 5 (x_9.map eHolding)), (105, .row 59 5 (x_15.map eHolding))]⟩) rfl ?_
      refine OpsL.consG (!(decide ((x_16.length : Int) ≠ 1))) 99 [78] (.plain rfl) (eq_f _) rfl rfl (fun g33 => ⟨g33, trivial⟩) (fun g33 => op_field_e tyFld45_2 rfl rfl) ?_
      refine OpsL.consG (!(decide ((x_16.length : Int) ≠ 1))) 99 [79] (.plain rfl) (eq_f _) rfl rfl (fun g34 => ⟨g34, trivial⟩) (fun g34 => op_load_e1 tyOne3 rfl rfl) ?_
      refine OpsL.consG (!(decide ((x_16.length : Int) ≠ 1))) 99 [80] (.plain rfl) (eq_f _) rfl rfl (fun g35 => ⟨g35, trivial⟩) (fun g35 => op_neq rfl rfl) ?_
      refine OpsL.consB h rfl (op_pick_or (fun e => by rw [e]; rfl) rfl rfl rfl rfl) (fun x_18 h => ?_)
      refine OpsL.cons rfl (op_move rfl) ?_
      refine OpsL.consG (!x_18) 99 [] (.plain rfl) (eq_f _) rfl rfl (fun g36 => trivial) (fun g36 => op_move rfl) ?_
      refine OpsL.keep [1, 5, 7, 83, 84] [104, 105] (s' := ⟨[(1, .b (.row 105)), (5, .b (.row 104)), (7, .b (.one (.sl 6 (x_16.map eParcel)))), (83, B x_18), (84, .opt (!x_18) (.row 105))], [(104, .row 59 5 (x_9.map eHolding)), (105, .row 59 5 (x_15.map eHolding))]⟩) rfl ?_
      obtain ⟨x_19, e38, h⟩ := bnd h
      refine OpsL.consG (!x_18) 99 [84] (.plain rfl) (eq_f _) rfl rfl (fun g37 => ⟨g37, trivial⟩) (fun g37 => op_callB (region_Get_spec (gc e38 g37)) goes30 rfl (flat_agg ⟨CP.flat_int, CP.flat_int, CP.flat_int, CP.flat_int, CP.flat_str, trivial⟩)) ?_
      refine OpsL.consG (!x_18) 99 [85] (.plain rfl) (eq_f _) rfl rfl (fun g39 => ⟨g39, trivial⟩) (fun g39 => op_fieldv1 tyFld59_2 tyOne3 rfl rfl) ?_
      refine OpsL.consG (!x_18) 99 [86] (.plain rfl) (eq_f _) rfl rfl (fun g40 => ⟨g40, trivial⟩) (fun g40 => op_neq rfl rfl) ?_
      refine OpsL.cons rfl (op_pick_or (fun e => by rw [e]; rfl) rfl rfl rfl rfl) ?_
      refine OpsL.nilK [1, 5, 7, 88] [104, 105] (s' := ⟨[(1, .b (.row 105)), (5, .b (.row 104)), (7, .b (.one (.sl 6 (x_16.map eParcel)))), (88, B (x_18 || (decide (x_19.Phase ≠ 3))))], [(104, .row 59 5 (x_9.map eHolding)), (105, .row 59 5 (x_15.map eHolding))]⟩) rfl ?_
      refine Tri.ite h rfl (fun _ h => ?_) (fun _ h => ?_)
      · refine Tri.seq ?_
        refine Tri.regionL ?_
        refine OpsL.cons rfl (op_assign rfl) ?_
        refine OpsL.nilK [0] [] (s' := ⟨[(0, B false)], []⟩) rfl ?_
        refine Tri.ret ?_
        refine Fin.then_ret ?_
        obtain rfl := Option.some.inj h
        refine Fin.keep [0] [] (s' := ⟨[(0, B false)], []⟩) rfl ?_
        refine Fin.result' [.one (.bool false)] (.inl rfl) rfl (.cons (.tmp rfl) .nil) ⟨rfl, rfl⟩
      · refine Tri.skip ?_
        refine Fin.keep [1, 5, 7] [104, 105] (s' := ⟨[(1, .b (.row 105)), (5, .b (.row 104)), (7, .b (.one (.sl 6 (x_16.map eParcel))))], [(104, .row 59 5 (x_9.map eHolding)), (105, .row 59 5 (x_15.map eHolding))]⟩) rfl ?_
        refine Fin.then ?_
        refine Tri.seq ?_
        refine Tri.regionL ?_
        refine OpsL.cons rfl (op_move rfl) ?_
        refine OpsL.cons rfl (op_move rfl) ?_
        obtain ⟨x_20, e41, h⟩ := bnd h
        refine OpsL.cons rfl (op_index_e tySl38 (ix_lo e41) (ix_map (e := eParcel) e41) rfl rfl) ?_
        refine OpsL.cons rfl (op_load_e tyAgg45 rfl rfl rfl) ?_
        refine OpsL.persist 104 rfl ?_
        refine OpsL.keep [1, 5, 7, 90, 93] [105] (s' := ⟨[(1, .b (.row 105)), (5, .b (.one (.sl 5 (x_9.map eHolding)))), (7, .b (.one (.sl 6 (x_16.map eParcel)))), (90, .b (.one (.sl 5 (x_9.map eHolding)))), (93, .b (.agg [.i x_20.From, .i x_20.To, .i x_20.Kind, .i x_20.Body, .i x_20.Epoch, .str x_20.Data]))], [(105, .row 59 5 (x_15.map eHolding))]⟩) rfl ?_
        obtain ⟨⟨x_21, x_22⟩, e42, h⟩ := bnd h
        refine OpsL.cons rfl (op_call (region_Receive_spec 106 e42) goes32 rfl trivial rfl rfl) ?_
        refine OpsL.cons rfl (op_move rfl) ?_
        refine OpsL.cons rfl (op_extract rfl rfl) ?_
        refine OpsL.cons rfl (op_extract rfl rfl) ?_
        refine OpsL.cons rfl (op_assign rfl) ?_
        refine OpsL.cons rfl (op_assign rfl) ?_
        refine OpsL.nilK [1, 5, 7, 8] [105, 106] (s' := ⟨[(1, .b (.row 105)), (5, .b (.row 106)), (7, .b (.one (.sl 6 (x_16.map eParcel)))), (8, .b (.one (.sl 6 (x_22.map eParcel))))], [(105, .row 59 5 (x_15.map eHolding)), (106, .row 59 5 (x_21.map eHolding))]⟩) rfl ?_
        refine Tri.seq ?_
        refine Tri.regionL ?_
        refine OpsL.cons rfl (op_move rfl) ?_
        refine OpsL.cons rfl (op_move rfl) ?_
        obtain ⟨x_23, e43, h⟩ := bnd h
        refine OpsL.cons rfl (op_index_e tySl38 (ix_lo e43) (ix_map (e := eParcel) e43) rfl rfl) ?_
        refine OpsL.cons rfl (op_load_e tyAgg45 rfl rfl rfl) ?_
        refine OpsL.persist 106 rfl ?_
        refine OpsL.keep [1, 5, 8, 98, 101] [105] (s' := ⟨[(1, .b (.row 105)), (5, .b (.one (.sl 5 (x_21.map eHolding)))), (8, .b (.one (.sl 6 (x_22.map eParcel)))), (98, .b (.one (.sl 5 (x_21.map eHolding)))), (101, .b (.agg [.i x_23.From, .i x_23.To, .i x_23.Kind, .i x_23.Body, .i x_23.Epoch, .str x_23.Data]))], [(105, .row 59 5 (x_15.map eHolding))]⟩) rfl ?_
        obtain ⟨⟨x_24, x_25⟩, e44, h⟩ := bnd h
        refine OpsL.cons rfl (op_call (region_Receive_spec 107 e44) goes32 rfl trivial rfl rfl) ?_
        refine OpsL.cons rfl (op_move rfl) ?_
        refine OpsL.cons rfl (op_extract rfl rfl) ?_
        refine OpsL.cons rfl (op_extract rfl rfl) ?_
        refine OpsL.cons rfl (op_assign rfl) ?_
        refine OpsL.cons rfl (op_assign rfl) ?_
        refine OpsL.nilK [1, 5, 8, 9] [105, 107] (s' := ⟨[(1, .b (.row 105)), (5, .b (.row 107)), (8, .b (.one (.sl 6 (x_22.map eParcel)))), (9, .b (.one (.sl 6 (x_25.map eParcel))))], [(105, .row 59 5 (x_15.map eHolding)), (107, .row 59 5 (x_24.map eHolding))]⟩) rfl ?_
        refine Tri.seq ?_
        refine Tri.seq ?_
        refine Tri.keep [1, 5, 8, 9] [105, 107] (s' := ⟨[(1, .b (.row 105)), (5, .b (.row 107)), (8, .b (.one (.sl 6 (x_22.map eParcel)))), (9, .b (.one (.sl 6 (x_25.map eParcel))))], [(105, .row 59 5 (x_15.map eHolding)), (107, .row 59 5 (x_24.map eHolding))]⟩) rfl ?_
        obtain ⟨x_26, e50, h⟩ := bnd h
        obtain ⟨x_27, e54, h⟩ := bnd h
        obtain ⟨x_28, e59, h⟩ := bnd h
        refine Tri.regionD mixed [.b (.one (.sl 6 (x_22.map eParcel))), I (x_22.length : Int), B (decide ((x_22.length : Int) ≠ 1)), B (decide ((x_22.length : Int) ≠ 1)), .opt (!(decide ((x_22.length : Int) ≠ 1))) (.one (.sl 6 (x_25.map eParcel))), .opt (!(decide ((x_22.length : Int) ≠ 1))) (.one (.i (x_25.length : Int))), .opt (!(decide ((x_22.length : Int) ≠ 1))) (.one (.bool (decide ((x_25.length : Int) ≠ 1)))), B ((decide ((x_22.length : Int) ≠ 1)) || (decide ((x_25.length : Int) ≠ 1))), B ((decide ((x_22.length : Int) ≠ 1)) || (decide ((x_25.length : Int) ≠ 1))), .opt (!((decide ((x_22.length : Int) ≠ 1)) || (decide ((x_25.length : Int) ≠ 1)))) (.one (.sl 6 (x_22.map eParcel))), .opt (!((decide ((x_22.length : Int) ≠ 1)) || (decide ((x_25.length : Int) ≠ 1)))) (.eptr [.i x_26.From, .i x_26.To, .i x_26.Kind, .i x_26.Body, .i x_26.Epoch, .str x_26.Data]), .opt (!((decide ((x_22.length : Int) ≠ 1)) || (decide ((x_25.length : Int) ≠ 1)))) (.agg [.i x_26.From, .i x_26.To, .i x_26.Kind, .i x_26.Body, .i x_26.Epoch, .str x_26.Data]), .opt (!((decide ((x_22.length : Int) ≠ 1)) || (decide ((x_25.length : Int) ≠ 1)))) (.one (.sl 6 (x_25.map eParcel))), .opt (!((decide ((x_22.length : Int) ≠ 1)) || (decide ((x_25.length : Int) ≠ 1)))) (.eptr [.i x_27.From, .i x_27.To, .i x_27.Kind, .i x_27.Body, .i x_27.Epoch, .str x_27.Data]), .opt (!((decide ((x_22.length : Int) ≠ 1)) || (decide ((x_25.length : Int) ≠ 1)))) (.agg [.i x_27.From, .i x_27.To, .i x_27.Kind, .i x_27.Body, .i x_27.Epoch, .str x_27.Data]), .opt (!((decide ((x_22.length : Int) ≠ 1)) || (decide ((x_25.length : Int) ≠ 1)))) (.one (.bool (decide (x_26 ≠ x_27)))), B (((decide ((x_22.length : Int) ≠ 1)) || (decide ((x_25.length : Int) ≠ 1))) || (decide (x_26 ≠ x_27))), B (((decide ((x_22.length : Int) ≠ 1)) || (decide ((x_25.length : Int) ≠ 1))) || (decide (x_26 ≠ x_27))), .opt (!(((decide ((x_22.length : Int) ≠ 1)) || (decide ((x_25.length : Int) ≠ 1))) || (decide (x_26 ≠ x_27)))) (.one (.sl 6 (x_22.map eParcel))), .opt (!(((decide ((x_22.length : Int) ≠ 1)) || (decide ((x_25.length : Int) ≠ 1))) || (decide (x_26 ≠ x_27)))) (.eptr [.i x_28.From, .i x_28.To, .i x_28.Kind, .i x_28.Body, .i x_28.Epoch, .str x_28.Data]), .opt (!(((decide ((x_22.length : Int) ≠ 1)) || (decide ((x_25.length : Int) ≠ 1))) || (decide (x_26 ≠ x_27)))) (.eptr [.i x_28.Kind, .i x_28.Body, .i x_28.Epoch, .str x_28.Data]), .opt (!(((decide ((x_22.length : Int) ≠ 1)) || (decide ((x_25.length : Int) ≠ 1))) || (decide (x_26 ≠ x_27)))) (.one (.i x_28.Kind)), .opt (!(((decide ((x_22.length : Int) ≠ 1)) || (decide ((x_25.length : Int) ≠ 1))) || (decide (x_26 ≠ x_27)))) (.one (.bool (decide (x_28.Kind ≠ 4)))), B ((((decide ((x_22.length : Int) ≠ 1)) || (decide ((x_25.length : Int) ≠ 1))) || (decide (x_26 ≠ x_27))) || (decide (x_28.Kind ≠ 4)))] [1, 5, 8, 128] [105, 107] (s' := ⟨[(1, .b (.row 105)), (5, .b (.row 107)), (8, .b (.one (.sl 6 (x_22.map eParcel)))), (128, B ((((decide ((x_22.length : Int) ≠ 1)) || (decide ((x_25.length : Int) ≠ 1))) || (decide (x_26 ≠ x_27))) || (decide (x_28.Kind ≠ 4))))], [(105, .row 59 5 (x_15.map eHolding)), (107, .row 59 5 (x_24.map eHolding))]⟩) rfl ⟨fun _ => .plain rfl (op_move rfl), fun _ => .plain rfl (op_len_e' und38 rfl (List.length_map _)), fun _ => .plain rfl (op_neq rfl rfl), fun _ => .plain rfl (op_move rfl), fun _ => by exact .guard (!(decide ((x_22.length : Int) ≠ 1))) 1 [] (.plain rfl) (eq_f _) rfl rfl (fun g45 => trivial) (fun g45 => op_move rfl), fun _ => by exact .guard (!(decide ((x_22.length : Int) ≠ 1))) 2 [109] (.plain rfl) (eq_f _) rfl rfl (fun g46 => ⟨g46, trivial⟩) (fun g46 => op_len_e' und38 rfl (List.length_map _)), fun _ => by exact .guard (!(decide ((x_22.length : Int) ≠ 1))) 2 [110] (.plain rfl) (eq_f _) rfl rfl (fun g47 => ⟨g47, trivial⟩) (fun g47 => op_neq rfl rfl), fun _ => .plain rfl (op_pick_or (fun e => by rw [e]; rfl) rfl rfl rfl rfl), fun _ => .plain rfl (op_move rfl), fun _ => by exact .guard (!((decide ((x_22.length : Int) ≠ 1)) || (decide ((x_25.length : Int) ≠ 1)))) 1 [] (.plain rfl) (eq_f _) rfl rfl (fun g48 => trivial) (fun g48 => op_move rfl), fun _ => by exact .guard (!((decide ((x_22.length : Int) ≠ 1)) || (decide ((x_25.length : Int) ≠ 1)))) 2 [114] (.plain rfl) (eq_f _) rfl rfl (fun g49 => ⟨g49, trivial⟩) (fun g49 => op_index_e tySl38 (ix_lo (gc e50 g49)) (ix_map (e := eParcel) (gc e50 g49)) rfl rfl), fun _ => by exact .guard (!((decide ((x_22.length : Int) ≠ 1)) || (decide ((x_25.length : Int) ≠ 1)))) 2 [115] (.plain rfl) (eq_f _) rfl rfl (fun g51 => ⟨g51, trivial⟩) (fun g51 => op_load_e tyAgg45 rfl rfl rfl), fun _ => by exact .guard (!((decide ((x_22.length : Int) ≠ 1)) || (decide ((x_25.length : Int) ≠ 1)))) 1 [] (.plain rfl) (eq_f _) rfl rfl (fun g52 => trivial) (fun g52 => op_move rfl), fun _ => by exact .guard (!((decide ((x_22.length : Int) ≠ 1)) || (decide ((x_25.length : Int) ≠ 1)))) 2 [117] (.plain rfl) (eq_f _) rfl rfl (fun g53 => ⟨g53, trivial⟩) (fun g53 => op_index_e tySl38 (ix_lo (gc e54 g53)) (ix_map (e := eParcel) (gc e54 g53)) rfl rfl), fun _ => by exact .guard (!((decide ((x_22.length : Int) ≠ 1)) || (decide ((x_25.length : Int) ≠ 1)))) 2 [118] (.plain rfl) (eq_f _) rfl rfl (fun g55 => ⟨g55, trivial⟩) (fun g55 => op_load_e tyAgg45 rfl rfl rfl), fun _ => by exact .guard (!((decide ((x_22.length : Int) ≠ 1)) || (decide ((x_25.length : Int) ≠ 1)))) 3 [116, 119] (.plain rfl) (eq_f _) rfl rfl (fun g56 => ⟨g56, g56, trivial⟩) (fun g56 => op_neq_agg (eqAgg45 x_26 x_27) rfl rfl neg_dec), fun _ => .plain rfl (op_pick_or (fun e => by rw [e]; rfl) rfl rfl rfl rfl), fun _ => .plain rfl (op_move rfl), fun _ => by exact .guard (!(((decide ((x_22.length : Int) ≠ 1)) || (decide ((x_25.length : Int) ≠ 1))) || (decide (x_26 ≠ x_27)))) 1 [] (.plain rfl) (eq_f _) rfl rfl (fun g57 => trivial) (fun g57 => op_move rfl), fun _ => by exact .guard (!(((decide ((x_22.length : Int) ≠ 1)) || (decide ((x_25.length : Int) ≠ 1))) || (decide (x_26 ≠ x_27)))) 2 [123] (.plain rfl) (eq_f _) rfl rfl (fun g58 => ⟨g58, trivial⟩) (fun g58 => op_index_e tySl38 (ix_lo (gc e59 g58)) (ix_map (e := eParcel) (gc e59 g58)) rfl rfl), fun _ => by exact .guard (!(((decide ((x_22.length : Int) ≠ 1)) || (decide ((x_25.length : Int) ≠ 1))) || (decide (x_26 ≠ x_27)))) 2 [124] (.plain rfl) (eq_f _) rfl rfl (fun g60 => ⟨g60, trivial⟩) (fun g60 => op_field_e tyFld45_2 rfl rfl), fun _ => by exact .guard (!(((decide ((x_22.length : Int) ≠ 1)) || (decide ((x_25.length : Int) ≠ 1))) || (decide (x_26 ≠ x_27)))) 2 [125] (.plain rfl) (eq_f _) rfl rfl (fun g61 => ⟨g61, trivial⟩) (fun g61 => op_load_e1 tyOne3 rfl rfl), fun _ => by exact .guard (!(((decide ((x_22.length : Int) ≠ 1)) || (decide ((x_25.length : Int) ≠ 1))) || (decide (x_26 ≠ x_27)))) 2 [126] (.plain rfl) (eq_f _) rfl rfl (fun g62 => ⟨g62, trivial⟩) (fun g62 => op_neq rfl rfl), fun _ => .plain rfl (op_pick_or (fun e => by rw [e]; rfl) rfl rfl rfl rfl), trivial⟩ rfl ?_
        refine Tri.ite h rfl (fun _ h => ?_) (fun _ h => ?_)
        · refine Tri.seq ?_
          refine Tri.regionL ?_
          refine OpsL.cons rfl (op_assign rfl) ?_
          refine OpsL.nilK [0] [] (s' := ⟨[(0, B false)], []⟩) rfl ?_
          refine Tri.ret ?_
          refine Fin.then_ret ?_
          obtain rfl := Option.some.inj h
          refine Fin.keep [0] [] (s' := ⟨[(0, B false)], []⟩) rfl ?_
          refine Fin.result' [.one (.bool false)] (.inl rfl) rfl (.cons (.tmp rfl) .nil) ⟨rfl, rfl⟩
        · refine Tri.skip ?_
          refine Fin.keep [1, 5, 8] [105, 107] (s' := ⟨[(1, .b (.row 105)), (5, .b (.row 107)), (8, .b (.one (.sl 6 (x_22.map eParcel))))], [(105, .row 59 5 (x_15.map eHolding)), (107, .row 59 5 (x_24.map eHolding))]⟩) rfl ?_
          refine Fin.then ?_
          refine Tri.seq ?_
          refine Tri.regionL ?_
          refine OpsL.cons rfl (op_move rfl) ?_
          refine OpsL.cons rfl (op_move rfl) ?_
          obtain ⟨x_29, e63, h⟩ := bnd h
          refine OpsL.cons rfl (op_index_e tySl38 (ix_lo e63) (ix_map (e := eParcel) e63) rfl rfl) ?_
          refine OpsL.cons rfl (op_load_e tyAgg45 rfl rfl rfl) ?_
          refine OpsL.persist 105 rfl ?_
          refine OpsL.keep [1, 5, 130, 133] [107] (s' := ⟨[(1, .b (.one (.sl 5 (x_15.map eHolding)))), (5, .b (.row 107)), (130, .b (.one (.sl 5 (x_15.map eHolding)))), (133, .b (.agg [.i x_29.From, .i x_29.To, .i x_29.Kind, .i x_29.Body, .i x_29.Epoch, .str x_29.Data]))], [(107, .row 59 5 (x_24.map eHolding))]⟩) rfl ?_
          obtain ⟨⟨x_30, x_31⟩, e64, h⟩ := bnd h
          refine OpsL.cons rfl (op_call (region_Receive_spec 108 e64) goes32 rfl trivial rfl rfl) ?_
          refine OpsL.cons rfl (op_move rfl) ?_
          refine OpsL.cons rfl (op_extract rfl rfl) ?_
          refine OpsL.cons rfl (op_extract rfl rfl) ?_
          refine OpsL.cons rfl (op_assign rfl) ?_
          refine OpsL.cons rfl (op_assign rfl) ?_
          refine OpsL.nilK [1, 5, 10] [107, 108] (s' := ⟨[(1, .b (.row 108)), (5, .b (.row 107)), (10, .b (.one (.sl 6 (x_31.map eParcel))))], [(107, .row 59 5 (x_24.map eHolding)), (108, .row 59 5 (x_30.map eHolding))]⟩) rfl ?_
          refine Tri.seq ?_
          refine Tri.regionL ?_
          refine OpsL.cons rfl (op_buildSlice (k := 109) (es := [10, 20].map eI) tySl22 rfl rfl (uni_map fun _ => rfl) rfl (by decide) (by decide) rfl) ?_
          refine OpsL.cons rfl (op_assign rfl) ?_
          refine OpsL.nilK [1, 5, 10, 11] [107, 108, 109] (s' := ⟨[(1, .b (.row 108)), (5, .b (.row 107)), (10, .b (.one (.sl 6 (x_31.map eParcel)))), (11, .b (.row 109))], [(107, .row 59 5 (x_24.map eHolding)), (108, .row 59 5 (x_30.map eHolding)), (109, .row 3 1 ([10, 20].map eI))]⟩) rfl ?_
          refine Tri.seq ?_
          refine Tri.regionL ?_
          refine OpsL.cons rfl (op_move rfl) ?_
          refine OpsL.cons rfl (op_len_e' und38 rfl (List.length_map _)) ?_
          refine OpsL.cons rfl (op_eql rfl rfl) ?_
          refine OpsL.cons rfl (op_move rfl) ?_
          refine OpsL.consG (decide ((x_31.length : Int) = 0)) 99 [] (.plain rfl) (eq_t _) rfl rfl (fun g65 => trivial) (fun g65 => op_move rfl) ?_
          refine OpsL.keep [1, 5, 11, 141, 142] [107, 108, 109] (s' := ⟨[(1, .b (.row 108)), (5, .b (.row 107)), (11, .b (.row 109)), (141, B (decide ((x_31.length : Int) = 0))), (142, .opt (decide ((x_31.length : Int) = 0)) (.row 108))], [(107, .row 59 5 (x_24.map eHolding)), (108, .row 59 5 (x_30.map eHolding)), (109, .row 3 1 ([10, 20].map eI))]⟩) rfl ?_
          obtain ⟨x_32, e67, h⟩ := bnd h
          refine OpsL.consG (decide ((x_31.length : Int) = 0)) 99 [142] (.plain rfl) (eq_t _) rfl rfl (fun g66 => ⟨g66, trivial⟩) (fun g66 => op_callB (region_Get_spec (gc e67 g66)) goes30 rfl (flat_agg ⟨CP.flat_int, CP.flat_int, CP.flat_int, CP.flat_int, CP.flat_str, trivial⟩)) ?_
          refine OpsL.consG (decide ((x_31.length : Int) = 0)) 99 [] (.plain rfl) (eq_t _) rfl rfl (fun g68 => trivial) (fun g68 => op_build tyBuild59 rfl rfl) ?_
          refine OpsL.consG (decide ((x_31.length : Int) = 0)) 99 [143, 144] (.plain rfl) (eq_t _) rfl rfl (fun g69 => ⟨g69, g69, trivial⟩) (fun g69 => op_eql_agg (eqAgg59 x_32 (⟨7, 1, 0, 0, []⟩ : Holding)) rfl rfl) ?_
          refine OpsL.consB h rfl (op_pick_and (fun e => e) rfl rfl rfl rfl) (fun x_33 h => ?_)
          refine OpsL.cons rfl (op_move rfl) ?_
          refine OpsL.consG x_33 99 [] (.plain rfl) (eq_t _) rfl rfl (fun g70 => trivial) (fun g70 => op_move rfl) ?_
          refine OpsL.keep [1, 5, 11, 147, 148] [107, 108, 109] (s' := ⟨[(1, .b (.row 108)), (5, .b (.row 107)), (11, .b (.row 109)), (147, B x_33), (148, .opt x_33 (.row 107))], [(107, .row 59 5 (x_24.map eHolding)), (108, .row 59 5 (x_30.map eHolding)), (109, .row 3 1 ([10, 20].map eI))]⟩) rfl ?_
          obtain ⟨x_34, e72, h⟩ := bnd h
          refine OpsL.consG x_33 99 [148] (.plain rfl) (eq_t _) rfl rfl (fun g71 => ⟨g71, trivial⟩) (fun g71 => op_callB (region_Get_spec (gc e72 g71)) goes30 rfl (flat_agg ⟨CP.flat_int, CP.flat_int, CP.flat_int, CP.flat_int, CP.flat_str, trivial⟩)) ?_
          refine OpsL.consG x_33 99 [] (.plain rfl) (eq_t _) rfl rfl (fun g73 => trivial) (fun g73 => op_build tyBuild59 rfl rfl) ?_
          refine OpsL.consG x_33 99 [149, 150] (.plain rfl) (eq_t _) rfl rfl (fun g74 => ⟨g74, g74, trivial⟩) (fun g74 => op_eql_agg (eqAgg59 x_34 (⟨7, 1, 1, 0, [97]⟩ : Holding)) rfl rfl) ?_
          refine OpsL.cons rfl (op_pick_and (fun e => e) rfl rfl rfl rfl) ?_
          refine OpsL.cons rfl (op_assign rfl) ?_
          refine OpsL.nilK [1, 5, 11, 12] [107, 108, 109] (s' := ⟨[(1, .b (.row 108)), (5, .b (.row 107)), (11, .b (.row 109)), (12, B (x_33 && (decide (x_34 = (⟨7, 1, 1, 0, [97]⟩ : Holding)))))], [(107, .row 59 5 (x_24.map eHolding)), (108, .row 59 5 (x_30.map eHolding)), (109, .row 3 1 ([10, 20].map eI))]⟩) rfl ?_
          refine Tri.seq ?_
          refine Tri.regionL ?_
          refine OpsL.cons rfl (op_move rfl) ?_
          refine OpsL.cons rfl (op_move rfl) ?_
          refine OpsL.consG (x_33 && (decide (x_34 = (⟨7, 1, 1, 0, [97]⟩ : Holding)))) 99 [] (.plain rfl) (eq_t _) rfl rfl (fun g75 => trivial) (fun g75 => op_move rfl) ?_
          obtain ⟨x_35, e77, h⟩ := bnd h
          refine OpsL.consG (x_33 && (decide (x_34 = (⟨7, 1, 1, 0, [97]⟩ : Holding)))) 99 [155] (.plain rfl) (eq_t _) rfl rfl (fun g76 => ⟨g76, trivial⟩) (fun g76 => op_callB (region_Region_spec (gc e77 g76)) goes10 rfl CP.flat_int) ?_
          refine OpsL.consG (x_33 && (decide (x_34 = (⟨7, 1, 1, 0, [97]⟩ : Holding)))) 99 [156] (.plain rfl) (eq_t _) rfl rfl (fun g78 => ⟨g78, trivial⟩) (fun g78 => op_eql rfl rfl) ?_
          refine OpsL.keep [1, 5, 11, 154, 157] [107, 108, 109] (s' := ⟨[(1, .b (.row 108)), (5, .b (.row 107)), (11, .b (.row 109)), (154, B (x_33 && (decide (x_34 = (⟨7, 1, 1, 0, [97]⟩ : Holding))))), (157, .opt (x_33 && (decide (x_34 = (⟨7, 1, 1, 0, [97]⟩ : Holding)))) (.one (.bool (decide (x_35 = 0)))))], [(107, .row 59 5 (x_24.map eHolding)), (108, .row 59 5 (x_30.map eHolding)), (109, .row 3 1 ([10, 20].map eI))]⟩) rfl ?_
          refine OpsL.consB h rfl (op_pick_and (fun e => e) rfl rfl rfl rfl) (fun x_36 h => ?_)
          refine OpsL.cons rfl (op_move rfl) ?_
          refine OpsL.consG x_36 99 [] (.plain rfl) (eq_t _) rfl rfl (fun g79 => trivial) (fun g79 => op_move rfl) ?_
          obtain ⟨x_37, e81, h⟩ := bnd h
          refine OpsL.consG x_36 99 [160] (.plain rfl) (eq_t _) rfl rfl (fun g80 => ⟨g80, trivial⟩) (fun g80 => op_callB (region_Region_spec (gc e81 g80)) goes10 rfl CP.flat_int) ?_
          refine OpsL.consG x_36 99 [161] (.plain rfl) (eq_t _) rfl rfl (fun g82 => ⟨g82, trivial⟩) (fun g82 => op_eql rfl rfl) ?_
          refine OpsL.cons rfl (op_pick_and (fun e => e) rfl rfl rfl rfl) ?_
          refine OpsL.keep [1, 5, 11, 163] [107, 108, 109] (s' := ⟨[(1, .b (.row 108)), (5, .b (.row 107)), (11, .b (.row 109)), (163, B (x_36 && (decide (x_37 = 1))))], [(107, .row 59 5 (x_24.map eHolding)), (108, .row 59 5 (x_30.map eHolding)), (109, .row 3 1 ([10, 20].map eI))]⟩) rfl ?_
          refine OpsL.cons rfl (op_move rfl) ?_
          refine OpsL.consG (x_36 && (decide (x_37 = 1))) 99 [] (.plain rfl) (eq_t _) rfl rfl (fun g83 => trivial) (fun g83 => op_move rfl) ?_
          obtain ⟨x_38, e85, h⟩ := bnd h
          refine OpsL.consG (x_36 && (decide (x_37 = 1))) 99 [165] (.plain rfl) (eq_t _) rfl rfl (fun g84 => ⟨g84, trivial⟩) (fun g84 => op_callB (region_Region_spec (gc e85 g84)) goes10 rfl CP.flat_int) ?_
          refine OpsL.consG (x_36 && (decide (x_37 = 1))) 99 [166] (.plain rfl) (eq_t _) rfl rfl (fun g86 => ⟨g86, trivial⟩) (fun g86 => op_eql rfl rfl) ?_
          refine OpsL.cons rfl (op_pick_and (fun e => e) rfl rfl rfl rfl) ?_
          refine OpsL.cons rfl (op_move rfl) ?_
          refine OpsL.keep [1, 5, 169] [107, 108] (s' := ⟨[(1, .b (.row 108)), (5, .b (.row 107)), (169, B ((x_36 && (decide (x_37 = 1))) && (decide (x_38 = 2))))], [(107, .row 59 5 (x_24.map eHolding)), (108, .row 59 5 (x_30.map eHolding))]⟩) rfl ?_
          refine OpsL.consG ((x_36 && (decide (x_37 = 1))) && (decide (x_38 = 2))) 99 [] (.plain rfl) (eq_t _) rfl rfl (fun g87 => trivial) (fun g87 => op_move rfl) ?_
          refine OpsL.consG ((x_36 && (decide (x_37 = 1))) && (decide (x_38 = 2))) 99 [] (.plain rfl) (eq_t _) rfl rfl (fun g88 => trivial) (fun g88 => op_move rfl) ?_
          refine OpsL.persist 108 rfl ?_
          refine OpsL.persist 107 rfl ?_
          refine OpsL.consG ((x_36 && (decide (x_37 = 1))) && (decide (x_38 = 2))) 99 [170, 171] (.plain rfl) (eq_t _) rfl rfl (fun g89 => ⟨g89, g89, trivial⟩) (fun g89 => op_buildSliceP (es := [x_30, x_24].map (eL 5 eHolding)) tySl37 rfl rfl (uni_map fun _ => rfl) rfl (by decide) (by decide)) ?_
          refine OpsL.keep [5, 169, 172] [] (s' := ⟨[(5, .b (.one (.sl 5 (x_24.map eHolding)))), (169, B ((x_36 && (decide (x_37 = 1))) && (decide (x_38 = 2)))), (172, .opt ((x_36 && (decide (x_37 = 1))) && (decide (x_38 = 2))) (.one (.sl 1 ([x_30, x_24].map (eL 5 eHolding)))))], []⟩) rfl ?_
          obtain ⟨x_39, e91, h⟩ := bnd h
          refine OpsL.consG ((x_36 && (decide (x_37 = 1))) && (decide (x_38 = 2))) 99 [172] (.plain rfl) (eq_t _) rfl rfl (fun g90 => ⟨g90, trivial⟩) (fun g90 => op_call0 (region_Holder_spec (gc e91 g90)) goes39 rfl rfl) ?_
          refine OpsL.consG ((x_36 && (decide (x_37 = 1))) && (decide (x_38 = 2))) 99 [173] (.plain rfl) (eq_t _) rfl rfl (fun g92 => ⟨g92, trivial⟩) (fun g92 => op_eql rfl rfl) ?_
          refine OpsL.consB h rfl (op_pick_and (fun e => e) rfl rfl rfl rfl) (fun x_40 h => ?_)
          refine OpsL.cons rfl (op_move rfl) ?_
          refine OpsL.consG x_40 99 [] (.plain rfl) (eq_t _) rfl rfl (fun g93 => trivial) (fun g93 => op_move rfl) ?_
          obtain ⟨x_41, e95, h⟩ := bnd h
          refine OpsL.consG x_40 99 [177] (.plain rfl) (eq_t _) rfl rfl (fun g94 => ⟨g94, trivial⟩) (fun g94 => op_call0 (region_Active_spec 0 (gc e95 g94)).persG goes37 rfl rfl) ?_
          refine OpsL.keep [176, 178] [] (s' := ⟨[(176, B x_40), (178, .opt x_40 (.one (.sl 1 (x_41.map eI))))], []⟩) rfl ?_
          refine OpsL.consG x_40 99 [178] (.plain rfl) (eq_t _) rfl rfl (fun g96 => ⟨g96, trivial⟩) (fun g96 => op_len_e' und22 rfl (List.length_map _)) ?_
          refine OpsL.consG x_40 99 [179] (.plain rfl) (eq_t _) rfl rfl (fun g97 => ⟨g97, trivial⟩) (fun g97 => op_eql rfl rfl) ?_
          refine OpsL.cons rfl (op_pick_and (fun e => e) rfl rfl rfl rfl) ?_
          refine OpsL.cons rfl (op_assign rfl) ?_
          refine OpsL.nilK [0] [] (s' := ⟨[(0, B (x_40 && (decide ((x_41.length : Int) = 1))))], []⟩) rfl ?_
          refine Tri.ret ?_
          obtain rfl := Option.some.inj h
          refine Fin.keep [0] [] (s' := ⟨[(0, B (x_40 && (decide ((x_41.length : Int) = 1))))], []⟩) rfl ?_
          refine Fin.result' [.one (.bool (x_40 && (decide ((x_41.length : Int) = 1))))] (.inl rfl) rfl (.cons (.tmp rfl) .nil) ⟨rfl, rfl⟩

end Go.Proofs.Ytipepglcceogiaa
