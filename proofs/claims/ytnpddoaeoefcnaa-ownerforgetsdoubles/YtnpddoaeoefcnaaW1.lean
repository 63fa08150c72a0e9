/- printed walks -/
import Derived.Test.YtnpddoaeoefcnaaT1
namespace Go.Proofs.Ytnpddoaeoefcnaa
open Go.Sk Go
set_option maxHeartbeats 4000000
set_option maxRecDepth 4000
set_option linter.unusedSimpArgs false
set_option linter.unusedVariables false
theorem undi154 : Try.prog.underlying 154 = some (.int .u64) := Try.underlying154
theorem undi5 : Try.prog.underlying 5 = some (.int .u8) := Try.underlying5
theorem und9 : Try.prog.underlying 9 = some .string := Try.underlying9
theorem undi3 : Try.prog.underlying 3 = some (.int .i64) := Try.underlying3
theorem goes110 : Goes Try.prog 110 := ⟨Try.call110⟩
theorem goes100 : Goes Try.prog 100 := ⟨Try.call100⟩
theorem und22 : Try.prog.underlying 22 = some (.slice 3) := Try.underlying22
theorem undi138 : Try.prog.underlying 138 = some (.int .u64) := Try.underlying138
theorem goes99 : Goes Try.prog 99 := ⟨Try.call99⟩
theorem goes98 : Goes Try.prog 98 := ⟨Try.call98⟩
theorem und23 : Try.prog.underlying 23 = some (.slice 22) := Try.underlying23
theorem tySl23 : TySl Try.prog 23 22 1 24 [.nil] := ⟨Try.underlying23, ⟨Try.t22, _, by kernel_rfl, rfl, rfl, rfl, rfl, by decide, rfl⟩⟩
theorem tyOne22 : TyOne Try.prog 22 := ⟨⟨_, Try.underlying22, rfl⟩, ⟨Try.t22, by kernel_rfl, by kernel_rfl⟩⟩
theorem tySl22 : TySl Try.prog 22 3 1 8 [.i 0] := ⟨Try.underlying22, ⟨Try.t3, _, by kernel_rfl, rfl, rfl, rfl, rfl, by decide, rfl⟩⟩
theorem tyOne3 : TyOne Try.prog 3 := ⟨⟨_, Try.underlying3, rfl⟩, ⟨Try.t3, by kernel_rfl, by kernel_rfl⟩⟩
theorem mixed : Try.prog.follows .mixedOrders = true := by kernel_rfl
theorem goes77 : Goes Try.prog 77 := ⟨Try.call77⟩
theorem goes76 : Goes Try.prog 76 := ⟨Try.call76⟩
theorem goes75 : Goes Try.prog 75 := ⟨Try.call75⟩
theorem tyFld119_0 : TyField Try.prog 119 0 0 117 := ⟨⟨_, _, Try.t117, Try.underlying119, rfl, rfl, rfl, by kernel_rfl, by decide⟩⟩
theorem tyOne117 : TyOne Try.prog 117 := ⟨⟨_, Try.underlying117, rfl⟩, ⟨Try.t117, by kernel_rfl, by kernel_rfl⟩⟩
theorem undm117 : Try.prog.underlying 117 = some (.map 3 3) := Try.underlying117
theorem tyMap117 : TyMap Try.prog 117 3 3 .i64 (.i 0) := ⟨Try.underlying117, Try.underlying3, ⟨Try.t3, _, by kernel_rfl, rfl, fun _ => ⟨rfl, by decide, by decide⟩⟩⟩
theorem tyAgg119 : TyAgg Try.prog 119 1 := ⟨⟨_, Try.underlying119, rfl⟩, ⟨Try.t119, by kernel_rfl, by kernel_rfl⟩⟩
theorem goes93 : Goes Try.prog 93 := ⟨Try.call93⟩
theorem goes91 : Goes Try.prog 91 := ⟨Try.call91⟩
theorem tyBuild119 : TyBuild Try.prog 119 [(0, 1)] [.raw (.map none)] := ⟨⟨Try.t119, _, _, by kernel_rfl, rfl, rfl, Try.underlying119, by kernel_rfl⟩⟩
theorem tyZero119 : TyZero Try.prog 119 [.raw (.map none)] := ⟨⟨Try.t119, _, by kernel_rfl, rfl, rfl⟩⟩
theorem und60 : Try.prog.underlying 60 = some (.slice 23) := Try.underlying60
theorem tySl60 : TySl Try.prog 60 23 1 24 [.nil] := ⟨Try.underlying60, ⟨Try.t23, _, by kernel_rfl, rfl, rfl, rfl, rfl, by decide, rfl⟩⟩
theorem tyOne23 : TyOne Try.prog 23 := ⟨⟨_, Try.underlying23, rfl⟩, ⟨Try.t23, by kernel_rfl, by kernel_rfl⟩⟩
theorem goes71 : Goes Try.prog 71 := ⟨Try.call71⟩
theorem goes72 : Goes Try.prog 72 := ⟨Try.call72⟩
theorem goes31 : Goes Try.prog 31 := ⟨Try.call31⟩
theorem goes92 : Goes Try.prog 92 := ⟨Try.call92⟩
theorem tyBuild59 : TyBuild Try.prog 59 [(0, 1), (1, 1), (2, 1)] [.i 0, .nil, .nil] := ⟨⟨Try.t59, _, _, by kernel_rfl, rfl, rfl, Try.underlying59, by kernel_rfl⟩⟩
theorem tySl29 : TySl Try.prog 29 59 3 56 [.i 0, .nil, .nil] := ⟨Try.underlying29, ⟨Try.t59, _, by kernel_rfl, rfl, rfl, rfl, rfl, by decide, rfl⟩⟩
theorem goes42 : Goes Try.prog 42 := ⟨Try.call42⟩
theorem goes70 : Goes Try.prog 70 := ⟨Try.call70⟩
theorem goes80 : Goes Try.prog 80 := ⟨Try.call80⟩
theorem goes94 : Goes Try.prog 94 := ⟨Try.call94⟩
theorem goes79 : Goes Try.prog 79 := ⟨Try.call79⟩
theorem tyFld95_0 : TyField Try.prog 95 0 0 31 := ⟨⟨_, _, Try.t31, Try.underlying95, rfl, rfl, rfl, by kernel_rfl, by decide⟩⟩
theorem tyFld31_2 : TyField Try.prog 31 2 2 3 := ⟨⟨_, _, Try.t3, Try.underlying31, rfl, rfl, rfl, by kernel_rfl, by decide⟩⟩
theorem tyFld31_0 : TyField Try.prog 31 0 0 3 := ⟨⟨_, _, Try.t3, Try.underlying31, rfl, rfl, rfl, by kernel_rfl, by decide⟩⟩
theorem tyFld42_1 : TyField Try.prog 42 1 1 3 := ⟨⟨_, _, Try.t3, Try.underlying42, rfl, rfl, rfl, by kernel_rfl, by decide⟩⟩
theorem tyFld42_2 : TyField Try.prog 42 2 2 3 := ⟨⟨_, _, Try.t3, Try.underlying42, rfl, rfl, rfl, by kernel_rfl, by decide⟩⟩
theorem tyFld95_1 : TyField Try.prog 95 1 10 32 := ⟨⟨_, _, Try.t32, Try.underlying95, rfl, rfl, rfl, by kernel_rfl, by decide⟩⟩
theorem tyOne32 : TyOne Try.prog 32 := ⟨⟨_, Try.underlying32, rfl⟩, ⟨Try.t32, by kernel_rfl, by kernel_rfl⟩⟩
theorem tyAgg42 : TyAgg Try.prog 42 7 := ⟨⟨_, Try.underlying42, rfl⟩, ⟨Try.t42, by kernel_rfl, by kernel_rfl⟩⟩
theorem tySl32 : TySl Try.prog 32 42 7 104 [.i 0, .i 0, .i 0, .i 0, .nil, .nil, .nil] := ⟨Try.underlying32, ⟨Try.t42, _, by kernel_rfl, rfl, rfl, rfl, rfl, by decide, rfl⟩⟩
theorem und28 : Try.prog.underlying 28 = some (.slice 4) := Try.underlying28
theorem tySl28 : TySl Try.prog 28 4 1 1 [.bool false] := ⟨Try.underlying28, ⟨Try.t4, _, by kernel_rfl, rfl, rfl, rfl, rfl, by decide, rfl⟩⟩
theorem tyOne4 : TyOne Try.prog 4 := ⟨⟨_, Try.underlying4, rfl⟩, ⟨Try.t4, by kernel_rfl, by kernel_rfl⟩⟩
theorem und4 : Try.prog.underlying 4 = some .bool := Try.underlying4
theorem goes90 : Goes Try.prog 90 := ⟨Try.call90⟩
theorem tyFld31_3 : TyField Try.prog 31 3 3 22 := ⟨⟨_, _, Try.t22, Try.underlying31, rfl, rfl, rfl, by kernel_rfl, by decide⟩⟩
theorem tySl24 : TySl Try.prog 24 9 1 16 [.str []] := ⟨Try.underlying24, ⟨Try.t9, _, by kernel_rfl, rfl, rfl, rfl, rfl, by decide, rfl⟩⟩
theorem tyOne9 : TyOne Try.prog 9 := ⟨⟨_, Try.underlying9, rfl⟩, ⟨Try.t9, by kernel_rfl, by kernel_rfl⟩⟩
theorem tyFld31_4 : TyField Try.prog 31 4 4 28 := ⟨⟨_, _, Try.t28, Try.underlying31, rfl, rfl, rfl, by kernel_rfl, by decide⟩⟩
theorem tyOne28 : TyOne Try.prog 28 := ⟨⟨_, Try.underlying28, rfl⟩, ⟨Try.t28, by kernel_rfl, by kernel_rfl⟩⟩
theorem goes68 : Goes Try.prog 68 := ⟨Try.call68⟩
theorem tyFld31_5 : TyField Try.prog 31 5 5 23 := ⟨⟨_, _, Try.t23, Try.underlying31, rfl, rfl, rfl, by kernel_rfl, by decide⟩⟩
theorem tyFld31_7 : TyField Try.prog 31 7 7 29 := ⟨⟨_, _, Try.t29, Try.underlying31, rfl, rfl, rfl, by kernel_rfl, by decide⟩⟩
theorem tyOne29 : TyOne Try.prog 29 := ⟨⟨_, Try.underlying29, rfl⟩, ⟨Try.t29, by kernel_rfl, by kernel_rfl⟩⟩
theorem und29 : Try.prog.underlying 29 = some (.slice 59) := Try.underlying29
theorem tyFld31_8 : TyField Try.prog 31 8 8 28 := ⟨⟨_, _, Try.t28, Try.underlying31, rfl, rfl, rfl, by kernel_rfl, by decide⟩⟩
theorem tyAgg59 : TyAgg Try.prog 59 3 := ⟨⟨_, Try.underlying59, rfl⟩, ⟨Try.t59, by kernel_rfl, by kernel_rfl⟩⟩
theorem tyZero59 : TyZero Try.prog 59 [.i 0, .nil, .nil] := ⟨⟨Try.t59, _, by kernel_rfl, rfl, rfl⟩⟩
theorem tyFld59_1 : TyField Try.prog 59 1 1 22 := ⟨⟨_, _, Try.t22, Try.underlying59, rfl, rfl, rfl, by kernel_rfl, by decide⟩⟩
theorem goes55 : Goes Try.prog 55 := ⟨Try.call55⟩
theorem tyFld59_0 : TyField Try.prog 59 0 0 3 := ⟨⟨_, _, Try.t3, Try.underlying59, rfl, rfl, rfl, by kernel_rfl, by decide⟩⟩
theorem tyFld31_6 : TyField Try.prog 31 6 6 24 := ⟨⟨_, _, Try.t24, Try.underlying31, rfl, rfl, rfl, by kernel_rfl, by decide⟩⟩
theorem tyOne24 : TyOne Try.prog 24 := ⟨⟨_, Try.underlying24, rfl⟩, ⟨Try.t24, by kernel_rfl, by kernel_rfl⟩⟩
theorem goes56 : Goes Try.prog 56 := ⟨Try.call56⟩
theorem tyBuild42 : TyBuild Try.prog 42 [(0, 1), (1, 1), (2, 1), (3, 1), (4, 1), (5, 1), (6, 1)] [.i 0, .i 0, .i 0, .i 0, .nil, .nil, .nil] := ⟨⟨Try.t42, _, _, by kernel_rfl, rfl, rfl, Try.underlying42, by kernel_rfl⟩⟩
theorem goes43 : Goes Try.prog 43 := ⟨Try.call43⟩
theorem tyZero31 : TyZero Try.prog 31 [.i 0, .i 0, .i 0, .nil, .nil, .nil, .nil, .nil, .nil, .nil] := ⟨⟨Try.t31, _, by kernel_rfl, rfl, rfl⟩⟩
theorem goes41 : Goes Try.prog 41 := ⟨Try.call41⟩
theorem und24 : Try.prog.underlying 24 = some (.slice 9) := Try.underlying24
theorem tyBuild31 : TyBuild Try.prog 31 [(0, 1), (1, 1), (2, 1), (3, 1), (4, 1), (5, 1), (6, 1), (7, 1), (8, 1), (9, 1)] [.i 0, .i 0, .i 0, .nil, .nil, .nil, .nil, .nil, .nil, .nil] := ⟨⟨Try.t31, _, _, by kernel_rfl, rfl, rfl, Try.underlying31, by kernel_rfl⟩⟩
theorem tyAgg31 : TyAgg Try.prog 31 10 := ⟨⟨_, Try.underlying31, rfl⟩, ⟨Try.t31, by kernel_rfl, by kernel_rfl⟩⟩
theorem tyBuild95 : TyBuild Try.prog 95 [(0, 10), (10, 1)] [.i 0, .i 0, .i 0, .nil, .nil, .nil, .nil, .nil, .nil, .nil, .nil] := ⟨⟨Try.t95, _, _, by kernel_rfl, rfl, rfl, Try.underlying95, by kernel_rfl⟩⟩
theorem goes44 : Goes Try.prog 44 := ⟨Try.call44⟩
theorem tyFld42_5 : TyField Try.prog 42 5 5 22 := ⟨⟨_, _, Try.t22, Try.underlying42, rfl, rfl, rfl, by kernel_rfl, by decide⟩⟩
theorem tyFld42_6 : TyField Try.prog 42 6 6 24 := ⟨⟨_, _, Try.t24, Try.underlying42, rfl, rfl, rfl, by kernel_rfl, by decide⟩⟩
theorem tyFld42_4 : TyField Try.prog 42 4 4 23 := ⟨⟨_, _, Try.t23, Try.underlying42, rfl, rfl, rfl, by kernel_rfl, by decide⟩⟩
theorem goes52 : Goes Try.prog 52 := ⟨Try.call52⟩
theorem goes85 : Goes Try.prog 85 := ⟨Try.call85⟩
theorem goes51 : Goes Try.prog 51 := ⟨Try.call51⟩
theorem goes86 : Goes Try.prog 86 := ⟨Try.call86⟩
theorem goes54 : Goes Try.prog 54 := ⟨Try.call54⟩
theorem goes97 : Goes Try.prog 97 := ⟨Try.call97⟩
theorem goes89 : Goes Try.prog 89 := ⟨Try.call89⟩
theorem goes88 : Goes Try.prog 88 := ⟨Try.call88⟩
theorem goes96 : Goes Try.prog 96 := ⟨Try.call96⟩
theorem tyZero3 : TyZero Try.prog 3 [.i 0] := ⟨⟨Try.t3, _, by kernel_rfl, rfl, rfl⟩⟩
theorem goes87 : Goes Try.prog 87 := ⟨Try.call87⟩
theorem tyFld31_9 : TyField Try.prog 31 9 9 24 := ⟨⟨_, _, Try.t24, Try.underlying31, rfl, rfl, rfl, by kernel_rfl, by decide⟩⟩
theorem tyFld42_3 : TyField Try.prog 42 3 3 3 := ⟨⟨_, _, Try.t3, Try.underlying42, rfl, rfl, rfl, by kernel_rfl, by decide⟩⟩
theorem tyFld31_1 : TyField Try.prog 31 1 1 3 := ⟨⟨_, _, Try.t3, Try.underlying31, rfl, rfl, rfl, by kernel_rfl, by decide⟩⟩
theorem undm111 : Try.prog.underlying 111 = some (.map 3 96) := Try.underlying111
theorem tyMap111 : TyMap Try.prog 111 3 96 .i64 (.raw .nilFunc) := ⟨Try.underlying111, Try.underlying3, ⟨Try.t96, _, by kernel_rfl, rfl, fun _ => ⟨rfl, rfl⟩⟩⟩
theorem tyFld42_0 : TyField Try.prog 42 0 0 3 := ⟨⟨_, _, Try.t3, Try.underlying42, rfl, rfl, rfl, by kernel_rfl, by decide⟩⟩
theorem und96 : ∃ ps rs v, Try.prog.underlying 96 = some (.func ps rs v) := ⟨_, _, _, Try.underlying96⟩
theorem goes62 : Goes Try.prog 62 := ⟨Try.call62⟩
theorem goes63 : Goes Try.prog 63 := ⟨Try.call63⟩
theorem goes64 : Goes Try.prog 64 := ⟨Try.call64⟩
theorem goes50 : Goes Try.prog 50 := ⟨Try.call50⟩
theorem goes53 : Goes Try.prog 53 := ⟨Try.call53⟩
theorem tyFld59_2 : TyField Try.prog 59 2 2 22 := ⟨⟨_, _, Try.t22, Try.underlying59, rfl, rfl, rfl, by kernel_rfl, by decide⟩⟩
theorem goes19 : Goes Try.prog 19 := ⟨Try.call19⟩
theorem goes36 : Goes Try.prog 36 := ⟨Try.call36⟩
theorem goes26 : Goes Try.prog 26 := ⟨Try.call26⟩
theorem goes11 : Goes Try.prog 11 := ⟨Try.call11⟩
theorem und32 : Try.prog.underlying 32 = some (.slice 42) := Try.underlying32
theorem goes17 : Goes Try.prog 17 := ⟨Try.call17⟩
theorem goes20 : Goes Try.prog 20 := ⟨Try.call20⟩
theorem goes15 : Goes Try.prog 15 := ⟨Try.call15⟩
theorem goes32 : Goes Try.prog 32 := ⟨Try.call32⟩
theorem goes22 : Goes Try.prog 22 := ⟨Try.call22⟩
theorem goes47 : Goes Try.prog 47 := ⟨Try.call47⟩
theorem goes48 : Goes Try.prog 48 := ⟨Try.call48⟩
theorem goes49 : Goes Try.prog 49 := ⟨Try.call49⟩
theorem goes9 : Goes Try.prog 9 := ⟨Try.call9⟩
theorem goes10 : Goes Try.prog 10 := ⟨Try.call10⟩
theorem goes13 : Goes Try.prog 13 := ⟨Try.call13⟩
def bits_Len64_S (F : Nat) (x0 : Int) : Option Int :=
 Option.bind (if (decide (4294967296 ≤ x0)) = true then (some (x0 / 4294967296, 32)) else (some (x0, 0))) (un2 fun x_1 n_2 => Option.bind (if (decide (65536 ≤ x_1)) = true then (some (x_1 / 65536, IntKind.i64.wrap (n_2 + 16))) else (some (x_1, n_2))) (un2 fun x_3 n_4 => Option.bind (if (decide (256 ≤ x_3)) = true then (some (x_3 / 256, IntKind.i64.wrap (n_4 + 8))) else (some (x_3, n_4))) (un2 fun x_5 n_6 => (idx? ([0, 1, 2, 2, 3, 3, 3, 3, 4, 4, 4, 4, 4, 4, 4, 4, 5, 5, 5, 5, 5, 5, 5, 5, 5, 5, 5, 5, 5, 5, 5, 5, 6, 6, 6, 6, 6, 6, 6, 6, 6, 6, 6, 6, 6, 6, 6, 6, 6, 6, 6, 6, 6, 6, 6, 6, 6, 6, 6, 6, 6, 6, 6, 6, 7, 7, 7, 7, 7, 7, 7, 7, 7, 7, 7, 7, 7, 7, 7, 7, 7, 7, 7, 7, 7, 7, 7, 7, 7, 7, 7, 7, 7, 7, 7, 7, 7, 7, 7, 7, 7, 7, 7, 7, 7, 7, 7, 7, 7, 7, 7, 7, 7, 7, 7, 7, 7, 7, 7, 7, 7, 7, 7, 7, 7, 7, 7, 7, 8, 8, 8, 8, 8, 8, 8, 8, 8, 8, 8, 8, 8, 8, 8, 8, 8, 8, 8, 8, 8, 8, 8, 8, 8, 8, 8, 8, 8, 8, 8, 8, 8, 8, 8, 8, 8, 8, 8, 8, 8, 8, 8, 8, 8, 8, 8, 8, 8, 8, 8, 8, 8, 8, 8, 8, 8, 8, 8, 8, 8, 8, 8, 8, 8, 8, 8, 8, 8, 8, 8, 8, 8, 8, 8, 8, 8, 8, 8, 8, 8, 8, 8, 8, 8, 8, 8, 8, 8, 8, 8, 8, 8, 8, 8, 8, 8, 8, 8, 8, 8, 8, 8, 8, 8, 8, 8, 8, 8, 8, 8, 8, 8, 8, 8, 8, 8, 8, 8, 8, 8, 8, 8, 8, 8, 8, 8, 8] : Str) (IntKind.u8.wrap x_5)).bind fun x_7 => letN (IntKind.i64.wrap (n_6 + (IntKind.i64.wrap (x_7.toNat : Int)))) fun x_8 => some x_8)))
theorem bits_Len64_spec {F : Nat} {x0 : Int} {r : Int} (h : bits_Len64_S F x0 = some r) : Meets Try.prog [] 110 [] [.one (.int .u64 x0)] (Is [] (.b (.one (.i r)))) := by
 unfold bits_Len64_S at h
 refine Meets.intro 25 Try.func110 Try.ntmps110 rfl (by simp) fun E => ?_
 show Tri _ E ⟨25, [], [], []⟩ _ ⟨[(0, .b (.one (.int .u64 x0)))], []⟩ _
 refine Tri.seq (Tri.regionL ?_)
 refine Oc oa (OpsL.nilS ⟨[(0, .b (.one (.int .u64 x0))), (2, I 0)], []⟩ rfl ?_)
 obtain ⟨v1, h2, h⟩ := bnd h
 refine Tri.seqJ (v := v1) (un2 fun (x_1 : Int) (n_2 : Int) => ⟨[(0, .b (.one (.int .u64 x_1))), (2, I n_2)], []⟩) (fun z => z) ?_ ?_
 ·refine Tri.seq (Tri.regionL ?_)
  refine Oc om (Oc (op_geq rfl rfl) ?_)
  refine OpsL.nilS ⟨[(0, _), (2, _), (4, B (decide (4294967296 ≤ x0)))], []⟩ rfl (Tri.ite h2 rfl (fun _ h2 => ?_) (fun _ h2 => ?_))
  ·refine Tri.seq (Tri.regionL ?_)
   refine Oc om (Oc (op_shr2 (m := 32) (by decide) rfl rfl rfl) (Oc oa ?_))
   refine OpsL.nilS ⟨[(0, .b (.one (.int .u64 (x0 / 4294967296))))], []⟩ rfl (Tri.regionL (Oc oa (OpsL.nil ?_)))
   exact Fin.join [0, 2] [] (x0 / 4294967296, 32) (Option.some.inj h2) rfl
  ·refine Tri.skip ?_
   exact Fin.join [0, 2] [] (x0, 0) (Option.some.inj h2) rfl
 ·rintro ⟨x_1, n_2⟩ hv
  subst v1
  obtain ⟨v3, h4, h⟩ := bnd h
  refine Tri.seqJ (v := v3) (un2 fun (x_3 : Int) (n_4 : Int) => ⟨[(0, .b (.one (.int .u64 x_3))), (2, I n_4)], []⟩) (fun z => z) ?_ ?_
  ·refine Tri.seq (Tri.regionL ?_)
   refine Oc om (Oc (op_geq rfl rfl) ?_)
   refine OpsL.nilS ⟨[(0, _), (2, _), (8, B (decide (65536 ≤ x_1)))], []⟩ rfl (Tri.ite h4 rfl (fun _ h4 => ?_) (fun _ h4 => ?_))
   ·refine Tri.seq (Tri.regionL ?_)
    refine Oc om (Oc (op_shr2 (m := 16) (by decide) rfl rfl rfl) (Oc oa ?_))
    refine OpsL.nilS ⟨[(0, .b (.one (.int .u64 (x_1 / 65536)))), (2, _)], []⟩ rfl (Tri.regionL (Oc om (Oc (op_add rfl rfl) (Oc oa ?_))))
    refine OpsL.nil ?_
    exact Fin.join [0, 2] [] (x_1 / 65536, IntKind.i64.wrap (n_2 + 16)) (Option.some.inj h4) rfl
   ·refine Tri.skip ?_
    exact Fin.join [0, 2] [] (x_1, n_2) (Option.some.inj h4) rfl
  ·rintro ⟨x_3, n_4⟩ hv
   subst v3
   obtain ⟨v5, h6, h⟩ := bnd h
   refine Tri.seqJ (v := v5) (un2 fun (x_5 : Int) (n_6 : Int) => ⟨[(0, .b (.one (.int .u64 x_5))), (2, I n_6)], []⟩) (fun z => z) ?_ ?_
   ·refine Tri.seq (Tri.regionL ?_)
    refine Oc om (Oc (op_geq rfl rfl) ?_)
    refine OpsL.nilS ⟨[(0, _), (2, _), (14, B (decide (256 ≤ x_3)))], []⟩ rfl (Tri.ite h6 rfl (fun _ h6 => ?_) (fun _ h6 => ?_))
    ·refine Tri.seq (Tri.regionL ?_)
     refine Oc om (Oc (op_shr2 (m := 8) (by decide) rfl rfl rfl) (Oc oa ?_))
     refine OpsL.nilS ⟨[(0, .b (.one (.int .u64 (x_3 / 256)))), (2, _)], []⟩ rfl (Tri.regionL (Oc om (Oc (op_add rfl rfl) (Oc oa ?_))))
     refine OpsL.nil ?_
     exact Fin.join [0, 2] [] (x_3 / 256, IntKind.i64.wrap (n_4 + 8)) (Option.some.inj h6) rfl
    ·refine Tri.skip ?_
     exact Fin.join [0, 2] [] (x_3, n_4) (Option.some.inj h6) rfl
   ·rintro ⟨x_5, n_6⟩ hv
    subst v5
    refine Tri.seq (Tri.regionL ?_)
    refine Oc om (Oc om (Oc (op_conv_wrap undi154 undi5 rfl) ?_))
    obtain ⟨x_7, e7, h⟩ := bnd h
    refine Oc (op_index_str und9 rfl rfl (ix_lo e7) (ix_get e7)) (Oc (op_conv_wrap undi5 undi3 rfl) ?_)
    refine OpsL.consI .i64 h rfl (op_add rfl rfl) (fun x_8 h => ?_)
    refine Oc oa (OpsL.nilS ⟨[(2, I x_8)], []⟩ rfl (Tri.ret ?_))
    obtain rfl := Option.some.inj h
    refine Fin.keepS ⟨[(2, _)], []⟩ rfl (Fin.result' [.one (.i x_8)] (.inl rfl) rfl (.cons (.tmp rfl) .nil) ⟨rfl, rfl⟩)
def bits_Len_S (F : Nat) (x0 : Int) : Option Int :=
 (bits_Len64_S F x0).bind fun x_1 => some x_1
theorem bits_Len_spec {F : Nat} {x0 : Int} {r : Int} (h : bits_Len_S F x0 = some r) : Meets Try.prog [] 99 [] [.one (.int .u64 x0)] (Is [] (.b (.one (.i r)))) := by
 unfold bits_Len_S at h
 refine Meets.intro 8 Try.func99 Try.ntmps99 rfl (by simp) fun E => ?_
 show Tri _ E ⟨8, [], [], []⟩ _ ⟨[(0, .b (.one (.int .u64 x0)))], []⟩ _
 refine Tri.seq (Tri.regionL ?_)
 refine Oc oa (OpsL.nilS ⟨[(0, .b (.one (.int .u64 x0)))], []⟩ rfl (Tri.seq (Tri.condFc (Tri.skip (Fin.keepS ⟨[(0, _)], []⟩ rfl ?_)))))
 refine Fin.then (Tri.seq (Tri.regionL ?_))
 refine Oc om ?_
 obtain ⟨x_1, e1, h⟩ := bnd h
 refine Oc (op_call0 (bits_Len64_spec e1) goes110 rfl rfl) (Oc oa ?_)
 refine OpsL.nilS ⟨[(2, I x_1)], []⟩ rfl (Tri.ret ?_)
 obtain rfl := Option.some.inj h
 refine Fin.keepS ⟨[(2, _)], []⟩ rfl (Fin.result' [.one (.i x_1)] (.inl rfl) rfl (.cons (.tmp rfl) .nil) ⟨rfl, rfl⟩)
def slices_insertion_nil_S (F : Nat) : Option Unit :=
 Option.bind (iter F (fun _ => some (.inr ())) ()) (fun _ => some ())
theorem slices_insertion_nil_spec {F : Nat} {r : Unit} (h : slices_insertion_nil_S F = some r) : Meets Try.prog [] 100 [] [.one (.nil), .one (.i 0), .one (.i 0)] (Is [] (.tup [])) := by
 unfold slices_insertion_nil_S at h
 refine Meets.intro 49 Try.func100 Try.ntmps100 rfl (by simp) fun E => ?_
 show Tri _ E ⟨49, [], [], []⟩ _ ⟨[(0, .b (.one (.nil))), (1, I 0), (2, I 0)], []⟩ _
 refine Tri.seq (Tri.regionL ?_)
 refine Oc om (Oc (op_add rfl rfl) (Oc oa ?_))
 refine OpsL.nilS ⟨[(0, .b (.one (.nil))), (1, I 0), (2, I 0), (6, I 1)], []⟩ rfl (Tri.block ?_)
 obtain ⟨v1, h2, h⟩ := bnd h
 refine Tri.loopJ h2 (fun (_ : Unit) => ⟨[(0, .b (.one (.nil))), (1, I 0), (2, I 0), (6, I 1)], []⟩) [0, 1, 2, 6] [] rfl ?_
 rintro _ o3 h4 hy5
 refine Tri.seq (Tri.seq (Tri.regionL ?_))
 refine Oc om (Oc om (Oc (op_lss rfl rfl) ?_))
 refine OpsL.nilS ⟨[(0, _), (1, _), (2, _), (6, _), (12, B false)], []⟩ rfl (Tri.condF rfl (Tri.exit (Fin.then_exit ?_)))
 obtain rfl := hy5 _ (Option.some.inj h4).symm
 refine Fin.then_exit (Fin.block_exit ?_)
 obtain rfl := Option.some.inj h
 refine Fin.keepS ⟨[], []⟩ rfl (Fin.result' [] (.inr rfl) rfl (.nil) ⟨rfl, rfl⟩)
def slices_pdqsort_nil_R (F : Nat) : Nat → Int → Option Unit
 | 0, _ => none
 | n + 1, limit0 => Option.bind (iter F (fun _ => (slices_insertion_nil_S F).bind fun u_1 => some (.inr ())) ()) (fun y => some y)
def slices_pdqsort_nil_S (F : Nat) (limit0 : Int) : Option Unit := slices_pdqsort_nil_R F F limit0
theorem slices_pdqsort_nil_specR {F : Nat} : ∀ (n : Nat) {limit0 : Int} {r : Unit} (h : slices_pdqsort_nil_R F n limit0 = some r), Meets Try.prog [] 98 [] [.one (.nil), .one (.i 0), .one (.i 0), .one (.i limit0)] (Is [] (.tup [])) := by
 intro n
 induction n with
 | zero => intro limit0 r h; simp [slices_pdqsort_nil_R] at h
 | succ n ih =>
 intro limit0 r h
 unfold slices_pdqsort_nil_R at h
 refine Meets.intro 134 Try.func98 Try.ntmps98 rfl (by simp) fun E => ?_
 show Tri _ E ⟨134, [], [], []⟩ _ ⟨[(0, .b (.one (.nil))), (1, I 0), (2, I 0), (3, I limit0)], []⟩ _
 refine Tri.seq (Tri.regionL ?_)
 refine Oc oa (OpsL.nilS ⟨[(0, .b (.one (.nil))), (1, I 0), (2, I 0), (3, I limit0), (8, B true)], []⟩ rfl (Tri.seq (Tri.regionL ?_)))
 refine Oc oa (OpsL.nilS ⟨[(0, _), (1, _), (2, _), (3, _), (8, _), (9, B true)], []⟩ rfl (Tri.block ?_))
 obtain ⟨v1, h2, h⟩ := bnd h
 refine Tri.loopJ h2 (fun (_ : Unit) => ⟨[(0, .b (.one (.nil))), (1, I 0), (2, I 0), (3, I limit0), (8, B true), (9, B true)], []⟩) [0, 1, 2, 3, 8, 9] [] rfl ?_
 rintro _ o3 h4 hy5
 refine Tri.block (Tri.seq (Tri.regionL ?_))
 refine Oc om (Oc om (Oc (op_sub rfl rfl) (Oc oa ?_)))
 refine OpsL.nilS ⟨[(0, _), (1, _), (2, _), (3, _), (8, _), (9, _), (10, I 0)], []⟩ rfl (Tri.seq (Tri.seq (Tri.regionL ?_)))
 refine Oc om (Oc (op_leq rfl rfl) ?_)
 refine OpsL.nilS ⟨[(0, _), (1, _), (2, _), (3, _), (8, _), (9, _), (10, _), (23, B true)], []⟩ rfl (Tri.condT rfl (Tri.seq (Tri.regionL ?_)))
 refine Oc om (Oc om (Oc om ?_))
 obtain ⟨u_1, e6, h4⟩ := bnd h4
 refine Oc (op_call0 (slices_insertion_nil_spec e6) goes100 rfl rfl) (OpsL.nilS ⟨[], []⟩ rfl (Tri.ret (Fin.then_ret (Fin.block_ret ?_))))
 obtain rfl := hy5 _ (Option.some.inj h4).symm
 refine Fin.then_ret (Fin.block_ret ?_)
 obtain rfl := Option.some.inj h
 refine Fin.keepS ⟨[], []⟩ rfl (Fin.result' [] (.inl rfl) rfl (.nil) ⟨rfl, rfl⟩)
theorem slices_pdqsort_nil_spec {F : Nat} {limit0 : Int} {r : Unit} (h : slices_pdqsort_nil_S F limit0 = some r) : Meets Try.prog [] 98 [] [.one (.nil), .one (.i 0), .one (.i 0), .one (.i limit0)] (Is [] (.tup [])) := slices_pdqsort_nil_specR F h
def slices_Sort_nil_S (F : Nat) : Option Unit :=
 (bits_Len_S F (IntKind.u64.wrap 0)).bind fun x_1 => (slices_pdqsort_nil_S F x_1).bind fun u_2 => some ()
theorem slices_Sort_nil_spec {F : Nat} {r : Unit} (h : slices_Sort_nil_S F = some r) : Meets Try.prog [] 91 [] [.one (.nil)] (Is [] (.tup [])) := by
 unfold slices_Sort_nil_S at h
 refine Meets.intro 11 Try.func91 Try.ntmps91 rfl (by simp) fun E => ?_
 show Tri _ E ⟨11, [], [], []⟩ _ ⟨[(0, .b (.one (.nil)))], []⟩ _
 refine Tri.seq (Tri.regionL ?_)
 refine Oc om (Oc (op_len_nil und22 rfl) (Oc oa ?_))
 refine OpsL.nilS ⟨[(0, .b (.one (.nil))), (2, I 0)], []⟩ rfl (Tri.regionL (Oc om (Oc om (Oc om (Oc (op_conv_wrap undi3 undi138 rfl) ?_)))))
 obtain ⟨x_1, e1, h⟩ := bnd h
 refine Oc (op_call0 (bits_Len_spec e1) goes99 rfl rfl) ?_
 obtain ⟨u_2, e2, h⟩ := bnd h
 refine Oc (op_call0 (slices_pdqsort_nil_spec e2) goes98 rfl rfl) (OpsL.nil ?_)
 obtain rfl := Option.some.inj h
 refine Fin.keepS ⟨[], []⟩ rfl (Fin.result' [] (.inr rfl) rfl (.nil) ⟨rfl, rfl⟩)
theorem slices_Sort_nil0 : Meets Try.prog [] 91 [] [.one .nil] (Is [] (.tup [])) := slices_Sort_nil_spec (F := 3) (r := ()) (by rfl)
def slices_Sort_S (F : Nat) (zs : List Int) : Option (List Int) := sort0? zs
theorem slices_Sort_spec {F : Nat} {zs r : List Int} (h : slices_Sort_S F zs = some r) : Meets Try.prog [] 91 [(1, .frow 3 1 (zs.map eI))] [.row 1] (Is [(1, .frow 3 1 (r.map eI))] (.tup [])) := meets_Sort0 Try.lays189 slices_Sort_nil0 h
def slices_Compact_S (F : Nat) (zs : List Int) : Option (List Int) := compactI? zs
theorem slices_Compact_spec {F : Nat} {zs r : List Int} (h : slices_Compact_S F zs = some r) : Meets Try.prog [] 92 [(1, .row 3 1 (zs.map eI))] [.row 1] (Is [(1, .row 3 1 (r.map eI))] (.b (.row 1))) := meets_CompactI Try.lays2_20 h
def skewbacklaw44_few_S (F : Nat) (sets0 : List (List Int)) : Option Bool :=
 Option.bind (iter F (fun i_1 => if (decide (i_1 < (sets0.length : Int))) = true then ((idx? sets0 i_1).bind fun x_2 => if (decide (8 < (x_2.length : Int))) = true then (some (.inr (.inr false))) else (some (.inl (IntKind.i64.wrap (i_1 + 1))))) else (some (.inr (.inl ())))) 0) (alt2 (fun _ => some (decide ((sets0.length : Int) ≤ 30))) (fun y => some y))
theorem skewbacklaw44_few_spec {F : Nat} {sets0 : List (List Int)} {r : Bool} (h : skewbacklaw44_few_S F sets0 = some r) : Meets Try.prog [] 9 [] [.one (.sl 1 (sets0.map (eL 1 eI)))] (Is [] (.b (.one (.bool r)))) := by
 unfold skewbacklaw44_few_S at h
 refine Meets.intro 19 Try.func9 Try.ntmps9 rfl (by simp) fun E => ?_
 show Tri _ E ⟨19, [], [], []⟩ _ ⟨[(0, .b (.one (.sl 1 (sets0.map (eL 1 eI)))))], []⟩ _
 refine Tri.seq (Tri.regionL ?_)
 refine Oc oa (OpsL.nilS ⟨[(0, .b (.one (.sl 1 (sets0.map (eL 1 eI)))))], []⟩ rfl ?_)
 obtain ⟨v1, h2, h⟩ := bnd h
 refine Tri.seqJ (v := v1) (fun (_ : Unit) => ⟨[(0, .b (.one (.sl 1 (sets0.map (eL 1 eI)))))], []⟩) (fun z => .inl z) ?_ ?_
 ·refine Tri.seq (Tri.regionL ?_)
  refine Oc oa (OpsL.nilS ⟨[(0, _), (3, I 0)], []⟩ rfl (Tri.block (Tri.loopJ h2 (fun (i_1 : Int) => ⟨[(0, .b (.one (.sl 1 (sets0.map (eL 1 eI))))), (3, I i_1)], []⟩) [0, 3] [] rfl ?_)))
  rintro i_1 o3 h4 hy5
  refine Tri.seq (Tri.seq (Tri.regionL ?_))
  refine Oc om (Oc om (Oc (op_len_e' und23 rfl (List.length_map _)) (Oc (op_lss rfl rfl) ?_)))
  refine OpsL.nilS ⟨[(0, _), (3, _), (7, B (decide (i_1 < (sets0.length : Int))))], []⟩ rfl (Tri.ite h4 rfl (fun _ h4 => ?_) (fun _ h4 => ?_))
  ·refine Tri.skip (Fin.keepS ⟨[(0, _), (3, _)], []⟩ rfl (Fin.then (Tri.seq (Tri.block (Tri.seq (Tri.regionL ?_))))))
   refine Oc om (Oc om ?_)
   obtain ⟨x_2, e6, h4⟩ := bnd h4
   refine Oc (op_index_e tySl23 (ix_lo e6) (ix_map (e := (eL 1 eI)) e6) rfl rfl) (Oc (op_load_e1 tyOne22 rfl rfl) (Oc (op_len_e' und22 rfl (List.length_map _)) (Oc (op_gtr rfl rfl) ?_)))
   refine OpsL.nilS ⟨[(0, _), (3, _), (15, B (decide (8 < (x_2.length : Int))))], []⟩ rfl (Tri.ite h4 rfl (fun _ h4 => ?_) (fun _ h4 => ?_))
   ·refine Tri.seq (Tri.regionL ?_)
    refine Oc oa (OpsL.nilS ⟨[(2, B false)], []⟩ rfl (Tri.ret (Fin.block_ret (Fin.then_ret ?_))))
    obtain rfl := hy5 _ (Option.some.inj h4).symm
    refine Fin.then_ret (Fin.block_ret (Fin.then_ret ?_))
    obtain rfl := Option.some.inj h
    refine Fin.keepS ⟨[(2, _)], []⟩ rfl (Fin.result' [.one (.bool false)] (.inl rfl) rfl (.cons (.tmp rfl) .nil) ⟨rfl, rfl⟩)
   ·refine Tri.skip (Fin.block_normal (Fin.keepS ⟨[(0, _), (3, _)], []⟩ rfl (Fin.then (Tri.regionL ?_))))
    refine Oc om (Oc (op_add rfl rfl) (Oc oa ?_))
    refine OpsL.nil ?_
    exact Fin.againJ [0, 3] [] (IntKind.i64.wrap (i_1 + 1)) (Option.some.inj h4) rfl
  ·refine Tri.exit (Fin.then_exit ?_)
   obtain rfl := hy5 _ (Option.some.inj h4).symm
   refine Fin.then_exit (Fin.block_exit ?_)
   exact Fin.join [0] [] () rfl rfl
 ·rintro _ hv
  subst v1
  refine Tri.seq (Tri.regionL ?_)
  refine Oc om (Oc (op_len_e' und23 rfl (List.length_map _)) (Oc (op_leq rfl rfl) (Oc oa ?_)))
  refine OpsL.nilS ⟨[(2, B (decide ((sets0.length : Int) ≤ 30)))], []⟩ rfl (Tri.ret ?_)
  obtain rfl := Option.some.inj h
  refine Fin.keepS ⟨[(2, _)], []⟩ rfl (Fin.result' [.one (.bool (decide ((sets0.length : Int) ≤ 30)))] (.inl rfl) rfl (.cons (.tmp rfl) .nil) ⟨rfl, rfl⟩)
def owner_Reach_1_1_S (F : Nat) (i0 : Int) (v0c : List Int) (v1c : Int) : Option Bool :=
 (idx? v0c i0).bind fun x_1 => some (decide (v1c < x_1))
theorem owner_Reach_1_1_spec {F : Nat} {i0 : Int} {v0c : List Int} {v1c : Int} {r : Bool} (h : owner_Reach_1_1_S F i0 v0c v1c = some r) : Meets Try.prog [] 77 [(1, .box 22 [.sl 1 (v0c.map eI)]), (2, .box 3 [.i v1c])] [.one (.i i0), .ptr 1 0, .ptr 2 0] (Is [(1, .box 22 [.sl 1 (v0c.map eI)]), (2, .box 3 [.i v1c])] (.b (.one (.bool r)))) := by
 unfold owner_Reach_1_1_S at h
 refine Meets.intro 11 Try.func77 Try.ntmps77 rfl (by simp) fun E => ?_
 show Tri _ E ⟨11, [1, 2], [1, 2], []⟩ _ ⟨[(0, I i0), (1, Pt 1 0), (2, Pt 2 0)], [(1, .box 22 [.sl 1 (v0c.map eI)]), (2, .box 3 [.i v1c])]⟩ _
 refine Tri.seq (Tri.regionL ?_)
 refine Oc oa (OpsL.nilS ⟨[(0, I i0), (1, Pt 1 0), (2, Pt 2 0)], [(1, .box 22 [.sl 1 (v0c.map eI)]), (2, .box 3 [.i v1c])]⟩ rfl (Tri.seq ?_))
 obtain ⟨x_1, e1, h⟩ := bnd h
 refine Tri.regionY mixed 7 [.b (.one (.sl 1 (v0c.map eI))), I i0, .b (.eptr [.i x_1]), I x_1, I v1c, B (decide (v1c < x_1)), B (decide (v1c < x_1))] [4] [1, 2] (s' := ⟨[(4, B (decide (v1c < x_1)))], [(1, _), (2, _)]⟩) rfl ⟨fun _ => .p (op_load_p1 tyOne22 rfl rfl rfl), fun _ => .p om, fun _ => .p (op_index_e tySl22 (ix_lo e1) (ix_map (e := eI) e1) rfl rfl), fun _ => .p (op_load_e1 tyOne3 rfl rfl), fun _ => .p (op_load_p1 tyOne3 rfl rfl rfl), fun _ => .p (op_gtr rfl rfl), fun _ => .p oa, trivial⟩ rfl rfl (Tri.ret ?_)
 obtain rfl := Option.some.inj h
 refine Fin.keepS ⟨[(4, _)], [(1, _), (2, _)]⟩ rfl ?_
 exact Fin.result [.one (.bool (decide (v1c < x_1)))] (.inl rfl) rfl (.cons (.tmp rfl) .nil) ⟨rfl, rfl⟩
def sort_Search_S (F : Nat) (n0 : Int) (f0v0 : List Int) (f0v1 : Int) : Option Int :=
 Option.bind (iter F (un2 fun i_2 j_3 => if (decide (i_2 < j_3)) = true then (letN (IntKind.u64.wrap (IntKind.i64.wrap (i_2 + j_3))) fun x_5 => (owner_Reach_1_1_S F (IntKind.i64.wrap (x_5 / 2)) f0v0 f0v1).bind fun x_6 => if (!x_6) = true then (letN (IntKind.i64.wrap ((IntKind.i64.wrap (x_5 / 2)) + 1)) fun x_7 => some (.inl (x_7, j_3))) else (some (.inl (i_2, IntKind.i64.wrap (x_5 / 2))))) else (some (.inr i_2))) (0, n0)) (fun i_1 => some i_1)
theorem sort_Search_spec {F : Nat} {n0 : Int} {f0v0 : List Int} {f0v1 : Int} {r : Int} (h : sort_Search_S F n0 f0v0 f0v1 = some r) : Meets Try.prog [] 76 [(1, .box 22 [.sl 1 (f0v0.map eI)]), (2, .box 3 [.i f0v1])] [.one (.i n0), .clo 77 [] [.ptr 1 0, .ptr 2 0]] (Is [(1, .box 22 [.sl 1 (f0v0.map eI)]), (2, .box 3 [.i f0v1])] (.b (.one (.i r)))) := by
 unfold sort_Search_S at h
 refine Meets.intro 26 Try.func76 Try.ntmps76 rfl (by simp) fun E => ?_
 show Tri _ E ⟨26, [1, 2], [1, 2], []⟩ _ ⟨[(0, I n0), (1, .b (.clo 77 [] [.ptr 1 0, .ptr 2 0]))], [(1, .box 22 [.sl 1 (f0v0.map eI)]), (2, .box 3 [.i f0v1])]⟩ _
 refine Tri.seq (Tri.regionL ?_)
 refine Oc oa (OpsL.nilS ⟨[(0, I n0), (1, .b (.clo 77 [] [.ptr 1 0, .ptr 2 0]))], [(1, .box 22 [.sl 1 (f0v0.map eI)]), (2, .box 3 [.i f0v1])]⟩ rfl (Tri.seq (Tri.regionL ?_)))
 refine Oc om (Oc oa (Oc oa ?_))
 refine OpsL.nilS ⟨[(1, _), (5, I 0), (6, I n0)], [(1, _), (2, _)]⟩ rfl ?_
 obtain ⟨v1, h2, h⟩ := bnd h
 refine Tri.seqJ (v := v1) (fun (i_1 : Int) => ⟨[(5, I i_1)], [(1, .box 22 [.sl 1 (f0v0.map eI)]), (2, .box 3 [.i f0v1])]⟩) (fun z => z) ?_ ?_
 ·refine Tri.block (Tri.loopJ h2 (un2 fun (i_2 : Int) (j_3 : Int) => ⟨[(1, .b (.clo 77 [] [.ptr 1 0, .ptr 2 0])), (5, I i_2), (6, I j_3)], [(1, .box 22 [.sl 1 (f0v0.map eI)]), (2, .box 3 [.i f0v1])]⟩) [1, 5, 6] [1, 2] rfl ?_)
  rintro ⟨i_2, j_3⟩ o3 h4 hy5
  refine Tri.seq (Tri.seq (Tri.regionL ?_))
  refine Oc om (Oc om (Oc (op_lss rfl rfl) ?_))
  refine OpsL.nilS ⟨[(1, _), (5, _), (6, _), (11, B (decide (i_2 < j_3)))], [(1, _), (2, _)]⟩ rfl (Tri.ite h4 rfl (fun _ h4 => ?_) (fun _ h4 => ?_))
  ·refine Tri.skip (Fin.keepS ⟨[(1, _), (5, _), (6, _)], [(1, _), (2, _)]⟩ rfl (Fin.then (Tri.block (Tri.seq (Tri.regionL ?_)))))
   refine Oc om (Oc om (Oc (op_add rfl rfl) ?_))
   refine OpsL.consI .u64 h4 rfl (op_conv_wrap undi3 undi138 rfl) (fun x_5 h4 => ?_)
   refine Oc (op_shr2 (m := 1) (by decide) rfl rfl rfl) (Oc (op_conv_wrap undi138 undi3 rfl) (Oc oa ?_))
   refine OpsL.nilS ⟨[(1, _), (5, _), (6, _), (7, I (IntKind.i64.wrap (x_5 / 2)))], [(1, _), (2, _)]⟩ rfl (Tri.seq (Tri.regionL ?_))
   refine Oc om (Oc om ?_)
   obtain ⟨x_6, e6, h4⟩ := bnd h4
   refine Oc (op_callc (own_a := [(1, _), (2, _)]) (owner_Reach_1_1_spec e6) goes77 rfl rfl rfl ⟨rfl, rfl, trivial⟩ rfl rfl) (Oc (op_not rfl) ?_)
   refine OpsL.nilS ⟨[(1, _), (5, _), (6, _), (7, _), (21, B (!x_6))], [(1, _), (2, _)]⟩ rfl (Tri.ite h4 rfl (fun _ h4 => ?_) (fun _ h4 => ?_))
   ·refine Tri.regionL (Oc om (OpsL.consI .i64 h4 rfl (op_add rfl rfl) (fun x_7 h4 => ?_)))
    refine Oc oa (OpsL.nil (Fin.block_normal ?_))
    exact Fin.againJ [1, 5, 6] [1, 2] (x_7, j_3) (Option.some.inj h4) rfl
   ·refine Tri.regionL (Oc om (Oc oa ?_))
    refine OpsL.nil (Fin.block_normal ?_)
    exact Fin.againJ [1, 5, 6] [1, 2] (i_2, IntKind.i64.wrap (x_5 / 2)) (Option.some.inj h4) rfl
  ·refine Tri.exit (Fin.then_exit ?_)
   obtain rfl := hy5 _ (Option.some.inj h4).symm
   refine Fin.then_exit (Fin.block_exit ?_)
   exact Fin.join [5] [1, 2] i_2 rfl rfl
 ·rintro i_1 hv
  subst v1
  refine Tri.seq (Tri.regionL ?_)
  refine Oc om (Oc oa ?_)
  refine OpsL.nilS ⟨[(4, I i_1)], [(1, _), (2, _)]⟩ rfl (Tri.ret ?_)
  obtain rfl := Option.some.inj h
  refine Fin.keepS ⟨[(4, _)], [(1, _), (2, _)]⟩ rfl ?_
  exact Fin.result [.one (.i i_1)] (.inl rfl) rfl (.cons (.tmp rfl) .nil) ⟨rfl, rfl⟩
def owner_Reach_1_S (F : Nat) (x0 : Int) (v0c : List Int) : Option Int :=
 (sort_Search_S F (v0c.length : Int) v0c x0).bind fun x_1 => some x_1
theorem owner_Reach_1_spec {F : Nat} {x0 : Int} {v0c : List Int} {r : Int} (h : owner_Reach_1_S F x0 v0c = some r) : Meets Try.prog [] 75 [(1, .box 22 [.sl 1 (v0c.map eI)])] [.one (.i x0), .ptr 1 0] (Is [(1, .box 22 [.sl 1 (v0c.map eI)])] (.b (.one (.i r)))) := by
 unfold owner_Reach_1_S at h
 refine Meets.intro 8 Try.func75 Try.ntmps75 rfl (by simp) fun E => ?_
 show Tri _ E ⟨8, [1], [1], []⟩ _ ⟨[(0, I x0), (1, Pt 1 0)], [(1, .box 22 [.sl 1 (v0c.map eI)])]⟩ _
 refine Tri.seq (Tri.regionL ?_)
 refine Oc (op_box1 (k := 101) rfl rfl) (Oc oa ?_)
 refine OpsL.nilS ⟨[(1, Pt 1 0), (2, Pt 101 0)], [(1, .box 22 [.sl 1 (v0c.map eI)]), (101, .box 3 [.i x0])]⟩ rfl (Tri.seq (Tri.regionL ?_))
 refine Oc (op_load_p1 tyOne22 rfl rfl rfl) (Oc (op_len_e' und22 rfl (List.length_map _)) (Oc (op_makeFunc rfl rfl) ?_))
 obtain ⟨x_1, e1, h⟩ := bnd h
 refine Oc (op_call (own_a := [(1, _), (101, _)]) ((sort_Search_spec e1).sw 2 101) goes76 rfl ⟨rfl, rfl, trivial⟩ rfl rfl) (Oc oa ?_)
 refine OpsL.nilS ⟨[(3, I x_1)], [(1, _)]⟩ rfl (Tri.ret ?_)
 obtain rfl := Option.some.inj h
 refine Fin.keepS ⟨[(3, _)], [(1, _)]⟩ rfl ?_
 exact Fin.result [.one (.i x_1)] (.inl rfl) rfl (.cons (.tmp rfl) .nil) ⟨rfl, rfl⟩
def owner_Reach_S (F : Nat) (borders0 : List Int) (lo0 : Int) (hi0 : Int) : Option (Int × Int) :=
 (owner_Reach_1_S F lo0 borders0).bind fun x_1 => (owner_Reach_1_S F hi0 borders0).bind fun x_2 => some (x_1, x_2)
theorem owner_Reach_spec {F : Nat} {borders0 : List Int} {lo0 : Int} {hi0 : Int} {r : Int × Int} (h : owner_Reach_S F borders0 lo0 hi0 = some r) : Meets Try.prog [] 36 [] [.one (.sl 1 (borders0.map eI)), .one (.i lo0), .one (.i hi0)] (Is [] (.tup [.one (.i r.1), .one (.i r.2)])) := by
 unfold owner_Reach_S at h
 refine Meets.intro 16 Try.func36 Try.ntmps36 rfl (by simp) fun E => ?_
 show Tri _ E ⟨16, [], [], []⟩ _ ⟨[(0, .b (.one (.sl 1 (borders0.map eI)))), (1, I lo0), (2, I hi0)], []⟩ _
 refine Tri.seq (Tri.regionL ?_)
 refine Oc (op_box1 (k := 101) rfl rfl) (Oc oa (Oc oa ?_))
 refine OpsL.nilS ⟨[(1, I lo0), (2, I hi0), (3, Pt 101 0)], [(101, .box 22 [.sl 1 (borders0.map eI)])]⟩ rfl (Tri.seq (Tri.regionL ?_))
 refine Oc (op_makeFunc rfl rfl) (Oc oa ?_)
 refine OpsL.nilS ⟨[(1, _), (2, _), (8, .b (.clo 75 [] [.ptr 101 0]))], [(101, _)]⟩ rfl (Tri.seq (Tri.regionL ?_))
 refine Oc om (Oc om ?_)
 obtain ⟨x_1, e1, h⟩ := bnd h
 refine Oc (op_callc (own_a := [(101, _)]) ((owner_Reach_1_spec e1).sw 1 101) goes75 rfl rfl rfl ⟨rfl, trivial⟩ rfl rfl) (Oc om (Oc om ?_))
 refine OpsL.keepS ⟨[(12, I x_1), (13, .b (.clo 75 [] [.ptr 101 0])), (14, I hi0)], [(101, _)]⟩ rfl ?_
 obtain ⟨x_2, e2, h⟩ := bnd h
 refine Oc (op_callc (own_a := [(101, _)]) ((owner_Reach_1_spec e2).sw 1 101) goes75 rfl rfl rfl ⟨rfl, trivial⟩ rfl rfl) (Oc oa (Oc oa ?_))
 refine OpsL.nilS ⟨[(6, I x_1), (7, I x_2)], []⟩ rfl (Tri.ret ?_)
 obtain rfl := Option.some.inj h
 refine Fin.keepS ⟨[(6, _), (7, _)], []⟩ rfl (Fin.result' [.one (.i x_1), .one (.i x_2)] (.inl rfl) rfl (.cons (.tmp rfl) (.cons (.tmp rfl) .nil)) ⟨rfl, rfl⟩)
def owner_isHoused_S (F : Nat) (home0 : List Int) (lists0 : List (List Int)) : Option Bool :=
 Option.bind (iter F (fun x_1 => if (decide (x_1 < (lists0.length : Int))) = true then (Option.bind ((idx? lists0 x_1).bind fun x_2 => Option.bind (iter F (fun x_3 => if (decide (x_3 < (x_2.length : Int))) = true then ((idx? x_2 x_3).bind fun x_4 => (gcall (!((decide (x_4 < 0)) || (decide ((home0.length : Int) ≤ x_4)))) (idx? home0 x_4)).bind fun x_5 => letN (((decide (x_4 < 0)) || (decide ((home0.length : Int) ≤ x_4))) || (decide (x_5 < 0))) fun x_6 => if x_6 = true then (some (.inr (.inr false))) else (some (.inl (IntKind.i64.wrap (x_3 + 1))))) else (some (.inr (.inl ())))) 0) (alt2 (fun _ => some (.inl ())) (fun y => some (.inr y)))) (alt2 (fun _ => some (.inl (IntKind.i64.wrap (x_1 + 1)))) (fun y => some (.inr (.inr y))))) else (some (.inr (.inl ())))) 0) (alt2 (fun _ => some true) (fun y => some y))
theorem owner_isHoused_spec {F : Nat} {home0 : List Int} {lists0 : List (List Int)} {r : Bool} (h : owner_isHoused_S F home0 lists0 = some r) : Meets Try.prog [] 42 [] [.one (.sl 1 (home0.map eI)), .one (.sl 1 (lists0.map (eL 1 eI)))] (Is [] (.b (.one (.bool r)))) := by
 unfold owner_isHoused_S at h
 refine Meets.intro 38 Try.func42 Try.ntmps42 rfl (by simp) fun E => ?_
 show Tri _ E ⟨38, [], [], []⟩ _ ⟨[(0, .b (.one (.sl 1 (home0.map eI)))), (1, .b (.one (.sl 1 (lists0.map (eL 1 eI)))))], []⟩ _
 refine Tri.seq (Tri.regionL ?_)
 refine Oc oa (OpsL.nilS ⟨[(0, .b (.one (.sl 1 (home0.map eI)))), (1, .b (.one (.sl 1 (lists0.map (eL 1 eI)))))], []⟩ rfl ?_)
 obtain ⟨v1, h2, h⟩ := bnd h
 refine Tri.seqJ (v := v1) (fun (_ : Unit) => ⟨[], []⟩) (fun z => .inl z) ?_ ?_
 ·refine Tri.seq (Tri.regionL ?_)
  refine Oc om (Oc (op_len_e' und23 rfl (List.length_map _)) (Oc om ?_))
  refine OpsL.nilS ⟨[(0, _), (9, .b (.one (.sl 1 (lists0.map (eL 1 eI))))), (10, I (lists0.length : Int)), (11, I 0)], []⟩ rfl (Tri.block (Tri.loopJ h2 (fun (x_1 : Int) => ⟨[(0, .b (.one (.sl 1 (home0.map eI)))), (9, .b (.one (.sl 1 (lists0.map (eL 1 eI))))), (10, I (lists0.length : Int)), (11, I x_1)], []⟩) [0, 9, 10, 11] [] rfl ?_))
  rintro x_1 o3 h4 hy5
  refine Tri.seq (Tri.regionL ?_)
  refine Oc (op_lss rfl rfl) (OpsL.nilS ⟨[(0, _), (9, _), (10, _), (11, _), (12, B (decide (x_1 < (lists0.length : Int))))], []⟩ rfl (Tri.seq (Tri.ite h4 rfl (fun _ h4 => ?_) (fun _ h4 => ?_))))
  ·refine Tri.skip (Fin.keepS ⟨[(0, _), (9, _), (10, _), (11, _)], []⟩ rfl (Fin.then ?_))
   obtain ⟨v6, h7, h4⟩ := bnd h4
   refine Tri.seqJ (v := v6) (fun (_ : Unit) => ⟨[(0, .b (.one (.sl 1 (home0.map eI)))), (9, .b (.one (.sl 1 (lists0.map (eL 1 eI))))), (10, I (lists0.length : Int)), (11, I x_1)], []⟩) (fun z => .inl z) ?_ ?_
   ·refine Tri.block (Tri.seq (Tri.regionL ?_))
    obtain ⟨x_2, e8, h7⟩ := bnd h7
    refine Oc (op_index_e tySl23 (ix_lo e8) (ix_map (e := (eL 1 eI)) e8) rfl rfl) (Oc (op_load_e1 tyOne22 rfl rfl) (Oc oa ?_))
    refine OpsL.nilS ⟨[(0, _), (6, .b (.one (.sl 1 (x_2.map eI)))), (9, _), (10, _), (11, _)], []⟩ rfl (Tri.seq (Tri.regionL ?_))
    refine Oc om (Oc (op_len_e' und22 rfl (List.length_map _)) (Oc om ?_))
    refine OpsL.nilS ⟨[(0, _), (9, _), (10, _), (11, _), (15, .b (.one (.sl 1 (x_2.map eI)))), (16, I (x_2.length : Int)), (17, I 0)], []⟩ rfl (Tri.block ?_)
    obtain ⟨v9, h10, h7⟩ := bnd h7
    refine Tri.loopJ h10 (fun (x_3 : Int) => ⟨[(0, .b (.one (.sl 1 (home0.map eI)))), (9, .b (.one (.sl 1 (lists0.map (eL 1 eI))))), (10, I (lists0.length : Int)), (11, I x_1), (15, .b (.one (.sl 1 (x_2.map eI)))), (16, I (x_2.length : Int)), (17, I x_3)], []⟩) [0, 9, 10, 11, 15, 16, 17] [] rfl ?_
    rintro x_3 o11 h12 hy13
    refine Tri.seq (Tri.regionL ?_)
    refine Oc (op_lss rfl rfl) (OpsL.nilS ⟨[(0, _), (9, _), (10, _), (11, _), (15, _), (16, _), (17, _), (18, B (decide (x_3 < (x_2.length : Int))))], []⟩ rfl (Tri.seq (Tri.ite h12 rfl (fun _ h12 => ?_) (fun _ h12 => ?_))))
    ·refine Tri.skip (Fin.keepS ⟨[(0, _), (9, _), (10, _), (11, _), (15, _), (16, _), (17, _)], []⟩ rfl (Fin.then (Tri.seq (Tri.block (Tri.seq (Tri.regionL ?_))))))
     obtain ⟨x_4, e14, h12⟩ := bnd h12
     refine Oc (op_index_e tySl22 (ix_lo e14) (ix_map (e := eI) e14) rfl rfl) (Oc (op_load_e1 tyOne3 rfl rfl) (Oc oa ?_))
     refine OpsL.nilS ⟨[(0, _), (8, I x_4), (9, _), (10, _), (11, _), (15, _), (16, _), (17, _)], []⟩ rfl (Tri.seq (Tri.regionL ?_))
     refine Oc om (Oc (op_lss rfl rfl) (Oc om ?_))
     refine CgF (!(decide (x_4 < 0))) [] (fun g15 => trivial) (fun g15 => om) (CgF (!(decide (x_4 < 0))) [] (fun g16 => by exact trivial) (fun g16 => om) (CgF (!(decide (x_4 < 0))) [25] (fun g17 => by exact ⟨g17, trivial⟩) (fun g17 => op_len_e' und22 rfl (List.length_map _)) (OpsL.keepS ⟨[(0, _), (8, _), (9, _), (10, _), (11, _), (15, _), (16, _), (17, _), (23, B (decide (x_4 < 0))), (24, .opt (!(decide (x_4 < 0))) (.one (.i x_4))), (26, .opt (!(decide (x_4 < 0))) (.one (.i (home0.length : Int))))], []⟩ rfl (CgF (!(decide (x_4 < 0))) [24, 26] (fun g18 => by exact ⟨g18, g18, trivial⟩) (fun g18 => op_geq rfl rfl) (Oc (op_pick_or (fun e => by first | (rw [e]; rfl) | (simp only at e; rw [e]; rfl)) rfl rfl rfl rfl) (Oc om ?_))))))
     refine CgF (!((decide (x_4 < 0)) || (decide ((home0.length : Int) ≤ x_4)))) [] (fun g19 => trivial) (fun g19 => om) (CgF (!((decide (x_4 < 0)) || (decide ((home0.length : Int) ≤ x_4)))) [] (fun g20 => by exact trivial) (fun g20 => om) ?_)
     obtain ⟨x_5, e22, h12⟩ := bnd h12
     refine CgF (!((decide (x_4 < 0)) || (decide ((home0.length : Int) ≤ x_4)))) [30, 31] (fun g21 => ⟨g21, g21, trivial⟩) (fun g21 => op_index_e tySl22 (ix_lo (gc e22 g21)) (ix_map (e := eI) (gc e22 g21)) rfl rfl) (CgF (!((decide (x_4 < 0)) || (decide ((home0.length : Int) ≤ x_4)))) [32] (fun g23 => ⟨g23, trivial⟩) (fun g23 => op_load_e1 tyOne3 rfl rfl) (CgF (!((decide (x_4 < 0)) || (decide ((home0.length : Int) ≤ x_4)))) [33] (fun g24 => ⟨g24, trivial⟩) (fun g24 => op_lss rfl rfl) (OpsL.consB h12 rfl (op_pick_or (fun e => by first | (rw [e]; rfl) | (simp only at e; rw [e]; rfl)) rfl rfl rfl rfl) (fun x_6 h12 => ?_))))
     refine OpsL.nilS ⟨[(0, _), (9, _), (10, _), (11, _), (15, _), (16, _), (17, _), (35, B x_6)], []⟩ rfl (Tri.ite h12 rfl (fun _ h12 => ?_) (fun _ h12 => ?_))
     ·refine Tri.seq (Tri.regionL ?_)
      refine Oc oa (OpsL.nilS ⟨[(4, B false)], []⟩ rfl (Tri.ret (Fin.block_ret (Fin.then_ret ?_))))
      obtain rfl := hy13 _ (Option.some.inj h12).symm
      refine Fin.then_ret (Fin.block_ret (Fin.block_ret ?_))
      obtain rfl := Option.some.inj h7
      refine Fin.then_ret ?_
      obtain rfl := hy5 _ (Option.some.inj h4).symm
      refine Fin.then_ret (Fin.block_ret (Fin.then_ret ?_))
      obtain rfl := Option.some.inj h
      refine Fin.keepS ⟨[(4, _)], []⟩ rfl (Fin.result' [.one (.bool false)] (.inl rfl) rfl (.cons (.tmp rfl) .nil) ⟨rfl, rfl⟩)
     ·refine Tri.skip (Fin.block_normal (Fin.keepS ⟨[(0, _), (9, _), (10, _), (11, _), (15, _), (16, _), (17, _)], []⟩ rfl (Fin.then (Tri.regionL ?_))))
      refine Oc (op_add rfl rfl) (Oc om ?_)
      refine OpsL.nil ?_
      exact Fin.againJ [0, 9, 10, 11, 15, 16, 17] [] (IntKind.i64.wrap (x_3 + 1)) (Option.some.inj h12) rfl
    ·refine Tri.exit (Fin.then_exit ?_)
     obtain rfl := hy13 _ (Option.some.inj h12).symm
     refine Fin.then_exit (Fin.block_exit (Fin.block_normal ?_))
     exact Fin.join [0, 9, 10, 11] [] () (Option.some.inj h7) rfl
   ·rintro _ hv
    subst v6
    refine Tri.regionL (Oc (op_add rfl rfl) (Oc om ?_))
    refine OpsL.nil ?_
    exact Fin.againJ [0, 9, 10, 11] [] (IntKind.i64.wrap (x_1 + 1)) (Option.some.inj h4) rfl
  ·refine Tri.exit (Fin.then_exit ?_)
   obtain rfl := hy5 _ (Option.some.inj h4).symm
   refine Fin.then_exit (Fin.block_exit ?_)
   exact Fin.join [] [] () rfl rfl
 ·rintro _ hv
  subst v1
  refine Tri.seq (Tri.regionL ?_)
  refine Oc oa (OpsL.nilS ⟨[(4, B true)], []⟩ rfl (Tri.ret ?_))
  obtain rfl := Option.some.inj h
  refine Fin.keepS ⟨[(4, _)], []⟩ rfl (Fin.result' [.one (.bool true)] (.inl rfl) rfl (.cons (.tmp rfl) .nil) ⟨rfl, rfl⟩)
def island_classes_root_R (F : Nat) : Nat → Int → MapI → Option (Int × MapI)
 | 0, _, _ => none
 | n + 1, x0, c0up => if (!(mHas c0up x0)) = true then (some (x0, mset c0up x0 x0)) else (if (decide ((mGet c0up x0) = x0)) = true then (some (x0, c0up)) else (Option.bind (island_classes_root_R F n (mGet c0up x0) c0up) (un2 fun x_1 x_2 => some (x_1, mset x_2 x0 x_1))))
def island_classes_root_S (F : Nat) (x0 : Int) (c0up : MapI) : Option (Int × MapI) := island_classes_root_R F F x0 c0up
theorem island_classes_root_specR {F : Nat} : ∀ (n : Nat) {x0 : Int} {c0up : MapI} {r : Int × MapI} (h : island_classes_root_R F n x0 c0up = some r), Meets Try.prog [] 93 [(1, .mq c0up)] [.xa [.row 1], .one (.i x0)] (Is [(1, .mq r.2)] (.b (.one (.i r.1)))) := by
 intro n
 induction n with
 | zero => intro x0 c0up r h; simp [island_classes_root_R] at h
 | succ n ih =>
 intro x0 c0up r h
 unfold island_classes_root_R at h
 refine Meets.intro 34 Try.func93 Try.ntmps93 rfl (by simp) fun E => ?_
 show Tri _ E ⟨34, [1], [1], []⟩ _ ⟨[(0, .b (.xa [.row 1])), (1, I x0)], [(1, .mq c0up)]⟩ _
 refine Tri.seq (Tri.regionL ?_)
 refine Oc (op_box_xa (k := 101) rfl rfl rfl rfl) (Oc oa ?_)
 refine OpsL.nilS ⟨[(1, I x0), (2, Pt 101 0)], [(1, .mq c0up), (101, .xbox 119 [.row 1])]⟩ rfl (Tri.seq (Tri.regionL ?_))
 refine Oc (op_field_p tyFld119_0 rfl rfl) (Oc (op_load_x1 tyOne117 rfl rfl rfl) (Oc om (Oc (op_mgetI2 tyMap117 rfl rfl rfl) (Oc om (Oc (op_extract rfl rfl) ?_)))))
 refine Oc (op_extract rfl rfl) (Oc oa (Oc oa ?_))
 refine OpsL.nilS ⟨[(1, _), (2, _), (5, I (mGet c0up x0)), (6, B (mHas c0up x0))], [(1, _), (101, _)]⟩ rfl (Tri.seq (Tri.seq (Tri.regionL ?_)))
 refine Oc om (Oc (op_not rfl) ?_)
 refine OpsL.nilS ⟨[(1, _), (2, _), (5, _), (16, B (!(mHas c0up x0)))], [(1, _), (101, _)]⟩ rfl (Tri.ite h rfl (fun _ h => ?_) (fun _ h => ?_))
 ·refine Tri.seq (Tri.regionL ?_)
  refine Oc (op_field_p tyFld119_0 rfl rfl) (Oc (op_load_x1 tyOne117 rfl rfl rfl) (Oc om (Oc om (Oc (op_msetI tyMap117 rfl rfl rfl rfl) ?_))))
  refine OpsL.nilS ⟨[(1, _)], [(1, .mq (mset c0up x0 x0))]⟩ rfl (Tri.seq (Tri.regionL ?_))
  refine Oc om (Oc oa ?_)
  refine OpsL.nilS ⟨[(4, I x0)], [(1, _)]⟩ rfl (Tri.ret (Fin.then_ret ?_))
  obtain rfl := Option.some.inj h
  refine Fin.keepS ⟨[(4, _)], [(1, _)]⟩ rfl ?_
  exact Fin.result [.one (.i x0)] (.inl rfl) rfl (.cons (.tmp rfl) .nil) ⟨rfl, rfl⟩
 ·refine Tri.skip (Fin.keepS ⟨[(1, _), (2, _), (5, _)], [(1, _), (101, _)]⟩ rfl (Fin.then (Tri.seq (Tri.seq (Tri.regionL ?_)))))
  refine Oc om (Oc om (Oc (op_eql rfl rfl) ?_))
  refine OpsL.nilS ⟨[(1, _), (2, _), (5, _), (24, B (decide ((mGet c0up x0) = x0)))], [(1, _), (101, _)]⟩ rfl (Tri.ite h rfl (fun _ h => ?_) (fun _ h => ?_))
  ·refine Tri.seq (Tri.regionL ?_)
   refine Oc om (Oc oa ?_)
   refine OpsL.nilS ⟨[(4, I x0)], [(1, _)]⟩ rfl (Tri.ret (Fin.then_ret ?_))
   obtain rfl := Option.some.inj h
   refine Fin.keepS ⟨[(4, _)], [(1, _)]⟩ rfl ?_
   exact Fin.result [.one (.i x0)] (.inl rfl) rfl (.cons (.tmp rfl) .nil) ⟨rfl, rfl⟩
  ·refine Tri.skip (Fin.keepS ⟨[(1, _), (2, _), (5, _)], [(1, _), (101, _)]⟩ rfl (Fin.then (Tri.seq (Tri.regionL ?_))))
   refine Oc ((op_load_xa tyAgg119 rfl rfl rfl rfl).toXa rfl) (Oc om ?_)
   obtain ⟨⟨x_1, x_2⟩, e1, h⟩ := bnd h
   refine Oc (op_call (own_a := [(1, _)]) (ih e1) goes93 rfl ⟨rfl, trivial⟩ rfl rfl) (Oc oa ?_)
   refine OpsL.nilS ⟨[(1, _), (2, _), (7, I x_1)], [(1, .mq x_2), (101, _)]⟩ rfl (Tri.seq (Tri.regionL ?_))
   refine Oc (op_field_p tyFld119_0 rfl rfl) (Oc (op_load_x1 tyOne117 rfl rfl rfl) (Oc om (Oc om (Oc (op_msetI tyMap117 rfl rfl rfl rfl) ?_))))
   refine OpsL.nilS ⟨[(7, _)], [(1, .mq (mset x_2 x0 x_1))]⟩ rfl (Tri.seq (Tri.regionL ?_))
   refine Oc om (Oc oa ?_)
   refine OpsL.nilS ⟨[(4, I x_1)], [(1, _)]⟩ rfl (Tri.ret ?_)
   obtain rfl := Option.some.inj h
   refine Fin.keepS ⟨[(4, _)], [(1, _)]⟩ rfl ?_
   exact Fin.result [.one (.i x_1)] (.inl rfl) rfl (.cons (.tmp rfl) .nil) ⟨rfl, rfl⟩
theorem island_classes_root_spec {F : Nat} {x0 : Int} {c0up : MapI} {r : Int × MapI} (h : island_classes_root_S F x0 c0up = some r) : Meets Try.prog [] 93 [(1, .mq c0up)] [.xa [.row 1], .one (.i x0)] (Is [(1, .mq r.2)] (.b (.one (.i r.1)))) := island_classes_root_specR F h
def island_classes_join_S (F : Nat) (x0 : Int) (y0 : Int) (c0up : MapI) : Option (Bool × MapI) :=
 Option.bind (island_classes_root_S F x0 c0up) (un2 fun x_1 x_2 => Option.bind (island_classes_root_S F y0 x_2) (un2 fun x_3 x_4 => if (decide (x_1 = x_3)) = true then (some (false, x_4)) else (some (true, mset x_4 (max x_1 x_3) (min x_1 x_3)))))
theorem island_classes_join_spec {F : Nat} {x0 : Int} {y0 : Int} {c0up : MapI} {r : Bool × MapI} (h : island_classes_join_S F x0 y0 c0up = some r) : Meets Try.prog [] 71 [(1, .mq c0up)] [.xa [.row 1], .one (.i x0), .one (.i y0)] (Is [(1, .mq r.2)] (.b (.one (.bool r.1)))) := by
 unfold island_classes_join_S at h
 refine Meets.intro 26 Try.func71 Try.ntmps71 rfl (by simp) fun E => ?_
 show Tri _ E ⟨26, [1], [1], []⟩ _ ⟨[(0, .b (.xa [.row 1])), (1, I x0), (2, I y0)], [(1, .mq c0up)]⟩ _
 refine Tri.seq (Tri.regionL ?_)
 refine Oc (op_box_xa (k := 101) rfl rfl rfl rfl) (Oc oa ?_)
 refine OpsL.nilS ⟨[(1, I x0), (2, I y0), (3, Pt 101 0)], [(1, .mq c0up), (101, .xbox 119 [.row 1])]⟩ rfl (Tri.seq ?_)
 obtain ⟨⟨x_1, x_2⟩, e1, h⟩ := bnd h
 obtain ⟨⟨x_3, x_4⟩, e2, h⟩ := bnd h
 refine Tri.regionW mixed [false, false, true, false, false, true, false, false] [.b (.xa [.row 1]), I x0, I x_1, .b (.xa [.row 1]), I y0, I x_3, I x_1, I x_3] [⟨[false, false, false, false, false, false, false, false], [(1, I x0), (2, I y0), (3, Pt 101 0)], [(1, .mq c0up), (101, .xbox 119 [.row 1])], [true, true, true, true, true, true, true, true], [], [5, 6, 7]⟩, ⟨[false, false, true, false, false, false, false, false], [(1, I x0), (2, I y0), (3, Pt 101 0)], [(1, .mq x_2), (101, .xbox 119 [.row 1])], [true, true, true, true, true, true, true, true], [0, 1, 2], [6, 7]⟩, ⟨[false, false, true, false, false, true, false, false], [(1, I x0), (2, I y0), (3, Pt 101 0)], [(1, .mq x_4), (101, .xbox 119 [.row 1])], [true, true, true, true, true, true, true, true], [0, 1, 2, 3, 4, 5], []⟩] rfl (⟨by kernel_rfl, ⟨⟨.b (.xa [.row 1]), fun _ => rfl, fun _ => .p (by exact (op_load_xa tyAgg119 rfl rfl rfl rfl).toXa rfl)⟩, ⟨I x0, fun _ => rfl, fun _ => .p (by exact op_move rfl)⟩, ⟨_, [], I x_1, rfl, fun _ => rfl, rfl, rfl, fun _ => .toO [1, 101] (by exact .p (by exact op_call (own_a := [(1, _)]) (island_classes_root_spec e1) goes93 rfl ⟨rfl, trivial⟩ rfl rfl)) (by exact rfl)⟩, ⟨.b (.xa [.row 1]), fun _ => rfl, fun _ => .p (by exact (op_load_xa tyAgg119 rfl rfl rfl rfl).toXa rfl)⟩, ⟨I y0, fun _ => rfl, fun _ => .p (by exact op_move rfl)⟩, trivial, trivial, trivial, trivial⟩, ⟨by kernel_rfl, ⟨trivial, trivial, trivial, ⟨.b (.xa [.row 1]), fun _ => rfl, fun _ => .p (by exact (op_load_xa tyAgg119 rfl rfl rfl rfl).toXa rfl)⟩, ⟨I y0, fun _ => rfl, fun _ => .p (by exact op_move rfl)⟩, ⟨_, [], I x_3, rfl, fun _ => rfl, rfl, rfl, fun _ => .toO [1, 101] (by exact .p (by exact op_call (own_a := [(1, _)]) (island_classes_root_spec e2) goes93 rfl ⟨rfl, trivial⟩ rfl rfl)) (by exact rfl)⟩, trivial, trivial, trivial⟩, ⟨by kernel_rfl, ⟨trivial, trivial, trivial, trivial, trivial, trivial, ⟨I x_1, fun _ => rfl, fun _ => .p (by exact op_assign rfl)⟩, ⟨I x_3, fun _ => rfl, fun _ => .p (by exact op_assign rfl)⟩, trivial⟩, trivial⟩⟩⟩) rfl rfl rfl [3, 7, 8] [1, 101] (s' := ⟨[(3, _), (7, I x_1), (8, I x_3)], [(1, .mq x_4), (101, _)]⟩) rfl (Tri.seq (Tri.seq (Tri.regionL ?_)))
 refine Oc om (Oc om (Oc (op_eql rfl rfl) ?_))
 refine OpsL.nilS ⟨[(3, _), (7, _), (8, _), (17, B (decide (x_1 = x_3)))], [(1, _), (101, _)]⟩ rfl (Tri.ite h rfl (fun _ h => ?_) (fun _ h => ?_))
 ·refine Tri.seq (Tri.regionL ?_)
  refine Oc oa (OpsL.nilS ⟨[(6, B false)], [(1, _)]⟩ rfl (Tri.ret (Fin.then_ret ?_)))
  obtain rfl := Option.some.inj h
  refine Fin.keepS ⟨[(6, _)], [(1, _)]⟩ rfl ?_
  exact Fin.result [.one (.bool false)] (.inl rfl) rfl (.cons (.tmp rfl) .nil) ⟨rfl, rfl⟩
 ·refine Tri.skip (Fin.keepS ⟨[(3, _), (7, _), (8, _)], [(1, _), (101, _)]⟩ rfl (Fin.then (Tri.seq (Tri.regionL ?_))))
  refine Oc (op_field_p tyFld119_0 rfl rfl) (Oc (op_load_x1 tyOne117 rfl rfl rfl) (Oc om (Oc om (Oc (op_max rfl rfl) (Oc om ?_)))))
  refine OpsL.keepS ⟨[(8, _), (19, .b (.row 1)), (22, I (max x_1 x_3)), (23, I x_1)], [(1, _)]⟩ rfl (Oc om (Oc (op_min rfl rfl) (Oc (op_msetI tyMap117 rfl rfl rfl rfl) ?_)))
  refine OpsL.nilS ⟨[], [(1, .mq (mset x_4 (max x_1 x_3) (min x_1 x_3)))]⟩ rfl (Tri.seq (Tri.regionL ?_))
  refine Oc oa (OpsL.nilS ⟨[(6, B true)], [(1, _)]⟩ rfl (Tri.ret ?_))
  obtain rfl := Option.some.inj h
  refine Fin.keepS ⟨[(6, _)], [(1, _)]⟩ rfl ?_
  exact Fin.result [.one (.bool true)] (.inl rfl) rfl (.cons (.tmp rfl) .nil) ⟨rfl, rfl⟩
def island_classes_sets_S (F : Nat) (c0up : MapI) : Option ((List (List Int)) × MapI) :=
 Option.bind (mkeys? c0up) (fun ks_1 => (slices_Sort_S F (ks_1)).bind fun x_7 => Option.bind (iter F (un4 fun up_10 at_11 out_12 x_13 => if (decide (x_13 < (x_7.length : Int))) = true then (Option.bind ((idx? x_7 x_13).bind fun x_19 => Option.bind (island_classes_root_S F x_19 up_10) (un2 fun x_20 x_21 => Option.bind (if (decide (x_20 = x_19)) = true then ((app? out_12 [[]]).bind fun x_24 => some (mset at_11 x_19 (out_12.length : Int), x_24)) else (some (at_11, out_12))) (un2 fun at_22 out_23 => (idx? out_23 (mGet at_22 x_20)).bind fun x_25 => (app? x_25 [x_19]).bind fun x_26 => (idx? out_23 (mGet at_22 x_20)).bind fun x_27 => some (x_21, at_22, out_23.set (mGet at_22 x_20 : Int).toNat x_26)))) (un3 fun up_16 at_17 out_18 => some (.inl (up_16, at_17, out_18, IntKind.i64.wrap (x_13 + 1))))) else (some (.inr (out_12, up_10)))) (c0up, ([] : MapI), [], 0)) (un2 fun out_8 y_9 => some (out_8, y_9)))
theorem island_classes_sets_spec {F : Nat} {c0up : MapI} {r : (List (List Int)) × MapI} (h : island_classes_sets_S F c0up = some r) : Meets Try.prog [] 72 [(1, .mq c0up)] [.xa [.row 1]] (Is [(1, .mq r.2)] (.b (.one (.sl 1 (r.1.map (eL 1 eI)))))) := by
 unfold island_classes_sets_S at h
 refine Meets.intro 59 Try.func72 Try.ntmps72 rfl (by simp) fun E => ?_
 show Tri _ E ⟨59, [1], [1], []⟩ _ ⟨[(0, .b (.xa [.row 1]))], [(1, .mq c0up)]⟩ _
 refine Tri.seq (Tri.regionL ?_)
 refine Oc (op_box_xa (k := 101) rfl rfl rfl rfl) (Oc oa ?_)
 refine OpsL.nilS ⟨[(1, Pt 101 0)], [(1, .mq c0up), (101, .xbox 119 [.row 1])]⟩ rfl (Tri.seq (Tri.regionL ?_))
 refine Oc oa (OpsL.nilS ⟨[(1, _), (3, .b (.one (.nil)))], [(1, _), (101, _)]⟩ rfl (Tri.seq (Tri.seq (Tri.regionL ?_))))
 refine Oc (op_field_p tyFld119_0 rfl rfl) (Oc (op_load_x1 tyOne117 rfl rfl rfl) (Oc (op_range_map 102 undm117 rfl rfl (by decide) rfl rfl) ?_))
 refine OpsL.nilS ⟨[(1, _), (3, _), (12, Pt 102 0)], [(101, _), (102, .mit 1 c0up c0up none)]⟩ rfl (Tri.nilrow 3 103 1 3 rfl (by decide) rfl (Tri.keepS ⟨[(1, _), (3, .b (.row 103)), (12, _)], [(101, _), (102, _), (103, .row 3 1 ([].map eI))]⟩ rfl ?_))
 obtain ⟨ks_1, e1, h⟩ := bnd h
 obtain ⟨hk2, rfl⟩ := mkeys_ok e1
 refine Tri.block (Tri.loop (fun (q : List Int × MapI) => ⟨[(1, Pt 101 0), (3, .b (.row 103)), (12, Pt 102 0)], [(101, .xbox 119 [.row 1]), (102, .mit 1 c0up q.2 none), (103, .row 3 1 (q.1.map eI))]⟩) (fun q => (q.1 ++ q.2.map (·.1)).Perm (c0up.map (·.1))) (fun q => q.2.length) ([], c0up) (by simp) rfl ?_)
 rintro ⟨vis_2, rs_3⟩ hI3
 refine Tri.seq (Tri.regionL ?_)
 refine OpsL.nextM rfl rfl rfl (fun hr4 => ?_) (fun p_4 r_5 r_6 hr4 => ?_)
 ·subst hr4
  have hp5 : vis_2.Perm (c0up.map (·.1)) := by simpa using hI3
  refine Oc (op_extract rfl rfl) (OpsL.nilS ⟨[(1, _), (3, _), (12, _), (14, B false)], [(101, _), (102, .mit 1 c0up [] none), (103, .row 3 1 (vis_2.map eI))]⟩ rfl (Tri.seq (Tri.condF rfl (Tri.exit (Fin.then_exit ?_)))))
  refine Fin.then_exit (Fin.keepS ⟨[(1, _), (3, _), (12, _)], [(101, _), (102, _), (103, _)]⟩ rfl (Fin.mitEnd 102 rfl rfl (Fin.block_exit (Fin.keepS ⟨[(1, _), (3, _)], [(1, .mq c0up), (101, _), (103, _)]⟩ rfl (Fin.then (Tri.seq (Tri.regionL ?_)))))))
  refine Oc om (OpsL.toF 103 rfl ?_)
  obtain ⟨x_7, e6, h⟩ := bnd h
  refine Oc (op_call (own_a := [(103, _)]) ((slices_Sort_spec (F := F) (sort0_perm hp5 e6)).sw 1 103) goes91 rfl ⟨rfl, trivial⟩ rfl rfl) (OpsL.unF 103 rfl (OpsL.nilS ⟨[(1, _), (3, _)], [(1, _), (101, _), (103, .row 3 1 (x_7.map eI))]⟩ rfl (Tri.seq (Tri.regionL ?_))))
  refine Oc (op_makeMapI (k := 104) undm117 rfl) (Oc oa ?_)
  refine OpsL.nilS ⟨[(1, _), (3, _), (5, .b (.row 104))], [(1, _), (101, _), (103, _), (104, .mq ([] : MapI))]⟩ rfl (Tri.seq (Tri.regionL ?_))
  refine Oc oa (OpsL.nilS ⟨[(1, _), (3, _), (5, _), (6, .b (.one (.nil)))], [(1, _), (101, _), (103, _), (104, _)]⟩ rfl ?_)
  obtain ⟨v7, h8, h⟩ := bnd h
  refine Tri.seqJ (v := v7) (un2 fun (out_8 : List (List Int)) (y_9 : MapI) => ⟨[(6, .b (.row 106))], [(1, .mq y_9), (106, .rr 22 3 1 none (out_8.map (eR eI)))]⟩) (fun z => z) ?_ ?_
  ·refine Tri.seq (Tri.regionL ?_)
   refine Oc om (Oc (op_len_r' und22 rfl rfl (List.length_map _)) (Oc om ?_))
   refine OpsL.nilS ⟨[(1, _), (5, _), (6, _), (24, .b (.row 103)), (25, I (x_7.length : Int)), (26, I 0)], [(1, _), (101, _), (103, _), (104, _)]⟩ rfl (Tri.block (Tri.nilrr 6 106 1 22 3 rfl (by decide) rfl (Tri.loopJ h8 (un4 fun (up_10 : MapI) (at_11 : MapI) (out_12 : List (List Int)) (x_13 : Int) => ⟨[(1, Pt 101 0), (5, .b (.row 104)), (6, .b (.row 106)), (24, .b (.row 103)), (25, I (x_7.length : Int)), (26, I x_13)], [(1, .mq up_10), (101, .xbox 119 [.row 1]), (103, .row 3 1 (x_7.map eI)), (104, .mq at_11), (106, .rr 22 3 1 none (out_12.map (eR eI)))]⟩) [1, 5, 6, 24, 25, 26] [1, 101, 103, 104, 106] rfl ?_)))
   rintro ⟨up_10, at_11, out_12, x_13⟩ o9 h10 hy11
   refine Tri.seq (Tri.regionL ?_)
   refine Oc (op_lss rfl rfl) (OpsL.nilS ⟨[(1, _), (5, _), (6, _), (24, _), (25, _), (26, _), (27, B (decide (x_13 < (x_7.length : Int))))], [(1, _), (101, _), (103, _), (104, _), (106, _)]⟩ rfl (Tri.seq (Tri.ite h10 rfl (fun _ h10 => ?_) (fun _ h10 => ?_))))
   ·refine Tri.skip (Fin.keepS ⟨[(1, _), (5, _), (6, _), (24, _), (25, _), (26, _)], [(1, _), (101, _), (103, _), (104, _), (106, _)]⟩ rfl (Fin.then ?_))
    obtain ⟨v12, h13, h10⟩ := bnd h10
    refine Tri.seqJ (v := v12) (un3 fun (up_16 : MapI) (at_17 : MapI) (out_18 : List (List Int)) => ⟨[(1, Pt 101 0), (5, .b (.row 104)), (6, .b (.row 106)), (24, .b (.row 103)), (25, I (x_7.length : Int)), (26, I x_13)], [(1, .mq up_16), (101, .xbox 119 [.row 1]), (103, .row 3 1 (x_7.map eI)), (104, .mq at_17), (106, .rr 22 3 1 none (out_18.map (eR eI)))]⟩) (fun z => z) ?_ ?_
    ·refine Tri.block (Tri.seq (Tri.regionL ?_))
     obtain ⟨x_19, e14, h13⟩ := bnd h13
     refine Oc (op_index_r tySl22 (ix_lo e14) (ix_lt' e14) rfl rfl rfl rfl) (Oc (op_load_r1 (i := (x_13 : Int).toNat) (f := 0) tyOne3 rfl rfl rfl (ix_map (e := eI) e14) rfl) (Oc oa ?_))
     refine OpsL.nilS ⟨[(1, _), (5, _), (6, _), (8, I x_19), (24, _), (25, _), (26, _)], [(1, _), (101, _), (103, _), (104, _), (106, _)]⟩ rfl (Tri.seq (Tri.regionL ?_))
     refine Oc ((op_load_xa tyAgg119 rfl rfl rfl rfl).toXa rfl) (Oc om ?_)
     obtain ⟨⟨x_20, x_21⟩, e15, h13⟩ := bnd h13
     refine Oc (op_call (own_a := [(1, _)]) (island_classes_root_spec e15) goes93 rfl ⟨rfl, trivial⟩ rfl rfl) (Oc oa ?_)
     refine OpsL.nilS ⟨[(1, _), (5, _), (6, _), (8, _), (9, I x_20), (24, _), (25, _), (26, _)], [(1, .mq x_21), (101, _), (103, _), (104, _), (106, _)]⟩ rfl ?_
     obtain ⟨v16, h17, h13⟩ := bnd h13
     refine Tri.seqJ (v := v16) (un2 fun (at_22 : MapI) (out_23 : List (List Int)) => ⟨[(1, Pt 101 0), (5, .b (.row 104)), (6, .b (.row 106)), (8, I x_19), (9, I x_20), (24, .b (.row 103)), (25, I (x_7.length : Int)), (26, I x_13)], [(1, .mq x_21), (101, .xbox 119 [.row 1]), (103, .row 3 1 (x_7.map eI)), (104, .mq at_22), (106, .rr 22 3 1 none (out_23.map (eR eI)))]⟩) (fun z => z) ?_ ?_
     ·refine Tri.seq (Tri.regionL ?_)
      refine Oc om (Oc om (Oc (op_eql rfl rfl) ?_))
      refine OpsL.nilS ⟨[(1, _), (5, _), (6, _), (8, _), (9, _), (24, _), (25, _), (26, _), (35, B (decide (x_20 = x_19)))], [(1, _), (101, _), (103, _), (104, _), (106, _)]⟩ rfl (Tri.ite h17 rfl (fun _ h17 => ?_) (fun _ h17 => ?_))
      ·refine Tri.seq (Tri.regionL ?_)
       refine Oc om (Oc om (Oc om (Oc (op_len_rr' und23 rfl rfl (List.length_map _)) (Oc (op_msetI tyMap117 rfl rfl rfl rfl) ?_))))
       refine OpsL.nilS ⟨[(1, _), (5, _), (6, _), (8, _), (9, _), (24, _), (25, _), (26, _)], [(1, _), (101, _), (103, _), (104, .mq (mset at_11 x_19 (out_12.length : Int))), (106, _)]⟩ rfl (Tri.regionL (Oc om (Oc (op_buildSlice (k := 107) (es := [[.nil]]) tySl23 rfl rfl (fun ps h => by simp at h; subst h; rfl) rfl (by decide) (by decide) rfl) ?_)))
       obtain ⟨x_24, e18, h17⟩ := bnd h17
       refine Oc (op_append_rr_r tySl23 (rr_b e18) (rr_m e18) rfl rfl rfl rfl (rr_app e18) rfl) (Oc oa ?_)
       refine OpsL.nil ?_
       exact Fin.join [1, 5, 6, 8, 9, 24, 25, 26] [1, 101, 103, 104, 106] (mset at_11 x_19 (out_12.length : Int), x_24) (Option.some.inj h17) rfl
      ·refine Tri.skip ?_
       exact Fin.join [1, 5, 6, 8, 9, 24, 25, 26] [1, 101, 103, 104, 106] (at_11, out_12) (Option.some.inj h17) rfl
     ·rintro ⟨at_22, out_23⟩ hv
      subst v16
      refine Tri.keepS ⟨[(1, _), (5, _), (6, _), (8, _), (9, _), (24, _), (25, _), (26, _)], [(1, _), (101, _), (103, _), (104, _), (106, _)]⟩ rfl ?_
      obtain ⟨x_25, e19, h13⟩ := bnd h13
      obtain ⟨x_26, e20, h13⟩ := bnd h13
      obtain ⟨x_27, e21, h13⟩ := bnd h13
      refine Tri.regionWF mixed [false, false, false, false, false, false, false, false, false, true, false, false, true, false, true] [.b (.row 106), .b (.row 104), I x_20, I (mGet at_22 x_20), .b (.row 106), .b (.row 104), I x_20, I (mGet at_22 x_20), .b (.rptr 106 (mGet at_22 x_20 : Int).toNat), .b (.row 108), I x_19, .b (.one (.sl 1 ([x_19].map eI))), .b (.row 110), .b (.rptr 106 (mGet at_22 x_20 : Int).toNat), B true] [⟨[false, false, false, false, false, false, false, false, false, false, false, false, false, false, false], [(1, Pt 101 0), (5, .b (.row 104)), (6, .b (.row 106)), (8, I x_19), (9, I x_20), (24, .b (.row 103)), (25, I (x_7.length : Int)), (26, I x_13)], [(1, .mq x_21), (101, .xbox 119 [.row 1]), (103, .row 3 1 (x_7.map eI)), (104, .mq at_22), (106, .rr 22 3 1 none (out_23.map (eR eI)))], [true, true, true, true, true, true, true, true, true, true, true, true, true, true, true], [], [12, 13, 14]⟩, ⟨[false, false, false, false, false, false, false, false, false, true, false, false, false, false, false], [(1, Pt 101 0), (5, .b (.row 104)), (6, .b (.row 106)), (8, I x_19), (9, I x_20), (24, .b (.row 103)), (25, I (x_7.length : Int)), (26, I x_13)], [(1, .mq x_21), (101, .xbox 119 [.row 1]), (103, .row 3 1 (x_7.map eI)), (104, .mq at_22), (106, .rr 22 3 1 (some (mGet at_22 x_20 : Int).toNat) (out_23.map (eR eI))), (108, .row 3 1 (x_25.map eI))], [true, true, true, true, true, true, true, true, true, true, true, true, true, true, true], [4, 5, 6, 7, 8, 9], [13, 14]⟩, ⟨[false, false, false, false, false, false, false, false, false, true, false, false, true, false, false], [(1, Pt 101 0), (5, .b (.row 104)), (6, .b (.row 106)), (8, I x_19), (9, I x_20), (24, .b (.row 103)), (25, I (x_7.length : Int)), (26, I x_13)], [(1, .mq x_21), (101, .xbox 119 [.row 1]), (103, .row 3 1 (x_7.map eI)), (104, .mq at_22), (106, .rr 22 3 1 (some (mGet at_22 x_20 : Int).toNat) (out_23.map (eR eI))), (110, .row 3 1 (x_26.map eI))], [true, true, true, true, true, true, true, true, true, true, true, true, true, true, true], [4, 5, 6, 7, 8, 9, 10, 11, 12], []⟩, ⟨[false, false, false, false, false, false, false, false, false, true, false, false, true, false, true], [(1, Pt 101 0), (5, .b (.row 104)), (6, .b (.row 106)), (8, I x_19), (9, I x_20), (24, .b (.row 103)), (25, I (x_7.length : Int)), (26, I x_13)], [(1, .mq x_21), (101, .xbox 119 [.row 1]), (103, .row 3 1 (x_7.map eI)), (104, .mq at_22), (106, .rr 22 3 1 none ((out_23.set (mGet at_22 x_20 : Int).toNat x_26).map (eR eI)))], [true, true, true, true, true, true, true, true, true, true, true, true, false, true, true], [0, 1, 2, 3, 4, 5, 6, 7, 8, 9, 10, 11, 12, 13, 14], []⟩] rfl (⟨by kernel_rfl, ⟨⟨.b (.row 106), fun _ => rfl, fun _ => .p (by exact op_move rfl)⟩, ⟨.b (.row 104), fun _ => rfl, fun _ => .p (by exact op_move rfl)⟩, ⟨I x_20, fun _ => rfl, fun _ => .p (by exact op_move rfl)⟩, ⟨I (mGet at_22 x_20), fun _ => rfl, fun _ => .p (by exact op_mgetI1 tyMap117 rfl rfl rfl)⟩, ⟨.b (.row 106), fun _ => rfl, fun _ => .p (by exact op_move rfl)⟩, ⟨.b (.row 104), fun _ => rfl, fun _ => .p (by exact op_move rfl)⟩, ⟨I x_20, fun _ => rfl, fun _ => .p (by exact op_move rfl)⟩, ⟨I (mGet at_22 x_20), fun _ => rfl, fun _ => .p (by exact op_mgetI1 tyMap117 rfl rfl rfl)⟩, ⟨.b (.rptr 106 (mGet at_22 x_20 : Int).toNat), fun _ => rfl, fun _ => .p (by exact op_index_rr tySl23 (ix_lo e19) (ix_lt' e19) rfl rfl rfl rfl)⟩, ⟨_, [108], .b (.row 108), rfl, fun _ => rfl, rfl, rfl, fun _ => .toO [1, 101, 103, 104, 106, 108] (by exact .p (by exact op_load_rr (i := (mGet at_22 x_20 : Int).toNat) 108 tyOne22 rfl rfl rfl (ix_map (e := eR eI) e19) (by decide) rfl rfl)) (by exact rfl)⟩, ⟨I x_19, fun _ => rfl, fun _ => .p (by exact op_move rfl)⟩, ⟨.b (.one (.sl 1 ([x_19].map eI))), fun _ => rfl, fun _ => .p (by exact op_buildSliceP (es := [x_19].map eI) tySl22 rfl rfl (uni_map fun _ => rfl) rfl (by decide) (by decide))⟩, trivial, trivial, trivial, trivial⟩, ⟨by kernel_rfl, ⟨⟨.b (.row 106), fun _ => rfl, fun _ => .p (by exact op_move rfl)⟩, ⟨.b (.row 104), fun _ => rfl, fun _ => .p (by exact op_move rfl)⟩, ⟨I x_20, fun _ => rfl, fun _ => .p (by exact op_move rfl)⟩, ⟨I (mGet at_22 x_20), fun _ => rfl, fun _ => .p (by exact op_mgetI1 tyMap117 rfl rfl rfl)⟩, trivial, trivial, trivial, trivial, trivial, trivial, ⟨I x_19, fun _ => rfl, fun _ => .p (by exact op_move rfl)⟩, ⟨.b (.one (.sl 1 ([x_19].map eI))), fun _ => rfl, fun _ => .p (by exact op_buildSliceP (es := [x_19].map eI) tySl22 rfl rfl (uni_map fun _ => rfl) rfl (by decide) (by decide))⟩, ⟨_, [110], .b (.row 110), rfl, fun _ => rfl, rfl, rfl, fun _ => .toO [1, 101, 103, 104, 106, 110] (by exact .p (by exact op_append_to (k2 := 110) tySl22 (app_b e20) (app_m e20) rfl rfl rfl (app_map e20) rfl rfl rfl rfl rfl)) (by exact rfl)⟩, trivial, trivial, trivial⟩, ⟨by kernel_rfl, ⟨⟨.b (.row 106), fun _ => rfl, fun _ => .p (by exact op_move rfl)⟩, ⟨.b (.row 104), fun _ => rfl, fun _ => .p (by exact op_move rfl)⟩, ⟨I x_20, fun _ => rfl, fun _ => .p (by exact op_move rfl)⟩, ⟨I (mGet at_22 x_20), fun _ => rfl, fun _ => .p (by exact op_mgetI1 tyMap117 rfl rfl rfl)⟩, trivial, trivial, trivial, trivial, trivial, trivial, trivial, trivial, trivial, ⟨.b (.rptr 106 (mGet at_22 x_20 : Int).toNat), fun _ => rfl, fun _ => .p (by exact op_index_rr tySl23 (ix_lo e21) (ix_lt' e21) rfl rfl rfl rfl)⟩, ⟨_, [110], .b (.one .any), rfl, (fun e => by simp at e), rfl, rfl, fun _ => .toO [1, 101, 103, 104, 106] (by exact .p (by exact op_store_rr tyOne22 rfl rfl rfl rfl rfl (ix_lt e21) (by decide) (set_map _ _ _ _))) (by exact rfl)⟩, trivial⟩, ⟨by kernel_rfl, ⟨trivial, trivial, trivial, trivial, trivial, trivial, trivial, trivial, trivial, trivial, trivial, trivial, trivial, trivial, trivial, trivial⟩, trivial⟩⟩⟩⟩) rfl rfl rfl [1, 5, 6, 24, 25, 26] [1, 101, 103, 104, 106] (s' := ⟨[(1, _), (5, _), (6, _), (24, _), (25, _), (26, _)], [(1, _), (101, _), (103, _), (104, _), (106, .rr 22 3 1 none ((out_23.set (mGet at_22 x_20 : Int).toNat x_26).map (eR eI)))]⟩) rfl ?_
      refine Fin.block_normal ?_
      exact Fin.join [1, 5, 6, 24, 25, 26] [1, 101, 103, 104, 106] (x_21, at_22, out_23.set (mGet at_22 x_20 : Int).toNat x_26) (Option.some.inj h13) rfl
    ·rintro ⟨up_16, at_17, out_18⟩ hv
     subst v12
     refine Tri.regionL (Oc (op_add rfl rfl) (Oc om ?_))
     refine OpsL.nil ?_
     exact Fin.againJ [1, 5, 6, 24, 25, 26] [1, 101, 103, 104, 106] (up_16, at_17, out_18, IntKind.i64.wrap (x_13 + 1)) (Option.some.inj h10) rfl
   ·refine Tri.exit (Fin.then_exit ?_)
    obtain rfl := hy11 _ (Option.some.inj h10).symm
    refine Fin.then_exit (Fin.block_exit ?_)
    exact Fin.join [6] [1, 106] (out_12, up_10) rfl rfl
  ·rintro ⟨out_8, y_9⟩ hv
   subst v7
   refine Tri.seq (Tri.regionL ?_)
   refine Oc om (Oc oa ?_)
   refine OpsL.nilS ⟨[(2, .b (.row 106))], [(1, _), (106, _)]⟩ rfl (Tri.ret ?_)
   obtain rfl := Option.some.inj h
   refine Fin.keepS ⟨[(2, _)], [(1, _), (106, _)]⟩ rfl (Fin.persistRL 106 rfl (rr_sl _) (Fin.keepS ⟨[(2, .b (.one (.sl 1 (out_8.map (eL 1 eI)))))], [(1, _)]⟩ rfl ?_))
   exact Fin.result [.one (.sl 1 (out_8.map (eL 1 eI)))] (.inl rfl) rfl (.cons (.tmp rfl) .nil) ⟨rfl, rfl⟩
 ·subst hr4
  refine Oc (op_extract rfl rfl) (OpsL.nilS ⟨[(1, _), (3, _), (12, _), (14, B true)], [(101, _), (102, .mit 1 c0up (r_5 ++ r_6) (some p_4)), (103, .row 3 1 (vis_2.map eI))]⟩ rfl (Tri.seq (Tri.condT rfl (Tri.skip (Fin.keepS ⟨[(1, _), (3, _), (12, _)], [(101, _), (102, _), (103, _)]⟩ rfl ?_)))))
  refine Fin.then (Tri.block (Tri.seq (Tri.regionL ?_)))
  refine Oc (op_entry_map rfl rfl) (Oc (op_extract rfl rfl) (Oc oa ?_))
  refine OpsL.nilS ⟨[(1, _), (3, _), (4, I p_4.1), (12, _)], [(101, _), (102, _), (103, _)]⟩ rfl (Tri.regionL (Oc om (Oc om (Oc (op_buildSlice (k := 111) (es := [p_4.1].map eI) tySl22 rfl rfl (uni_map fun _ => rfl) rfl (by decide) (by decide) rfl) (Oc (op_append_r tySl22 (app_b (app?_eq (mrange_len hI3 hk2))) (app_m (app?_eq (mrange_len hI3 hk2))) rfl rfl rfl rfl (app_map (app?_eq (mrange_len hI3 hk2))) rfl) (Oc oa ?_))))))
  refine OpsL.nil (Fin.block_normal (Fin.keepS ⟨[(1, _), (3, _), (12, _)], [(101, _), (102, _), (103, .row 3 1 ((vis_2 ++ [p_4.1]).map eI))]⟩ rfl (Fin.mitOff 102 rfl ?_)))
  exact Fin.again ((vis_2 ++ [p_4.1]), r_5 ++ r_6) (mrange_step hI3) (by simp) rfl
def island_Merge_S (F : Nat) (lists0 : List (List (List Int))) : Option (List (List Int)) :=
 Option.bind (iter F (un2 fun up_2 x_3 => if (decide (x_3 < (lists0.length : Int))) = true then (Option.bind ((idx? lists0 x_3).bind fun x_6 => Option.bind (iter F (un2 fun up_7 x_8 => if (decide (x_8 < (x_6.length : Int))) = true then (Option.bind ((idx? x_6 x_8).bind fun x_11 => Option.bind (iter F (un2 fun up_12 x_13 => if (decide (x_13 < (x_11.length : Int))) = true then ((idx? x_11 x_13).bind fun x_15 => (idx? x_11 0).bind fun x_16 => Option.bind (island_classes_join_S F x_16 x_15 up_12) (un2 fun x_17 x_18 => some (.inl (x_18, IntKind.i64.wrap (x_13 + 1))))) else (some (.inr up_12))) (up_7, 0)) (fun up_14 => some up_14)) (fun up_10 => some (.inl (up_10, IntKind.i64.wrap (x_8 + 1))))) else (some (.inr up_7))) (up_2, 0)) (fun up_9 => some up_9)) (fun up_5 => some (.inl (up_5, IntKind.i64.wrap (x_3 + 1))))) else (some (.inr up_2))) (([] : MapI), 0)) (fun up_1 => Option.bind (island_classes_sets_S F up_1) (un2 fun x_19 x_20 => some x_19))
theorem island_Merge_spec {F : Nat} {lists0 : List (List (List Int))} {r : (List (List Int))} (h : island_Merge_S F lists0 = some r) : Meets Try.prog [] 31 [] [.one (.sl 1 (lists0.map (eL 1 (eL 1 eI))))] (Is [] (.b (.one (.sl 1 (r.map (eL 1 eI)))))) := by
 unfold island_Merge_S at h
 refine Meets.intro 41 Try.func31 Try.ntmps31 rfl (by simp) fun E => ?_
 show Tri _ E ⟨41, [], [], []⟩ _ ⟨[(0, .b (.one (.sl 1 (lists0.map (eL 1 (eL 1 eI))))))], []⟩ _
 refine Tri.seq (Tri.regionL ?_)
 refine Oc oa (OpsL.nilS ⟨[(0, .b (.one (.sl 1 (lists0.map (eL 1 (eL 1 eI))))))], []⟩ rfl (Tri.seq (Tri.regionL ?_)))
 refine Oc (op_makeMapI (k := 101) undm117 rfl) (Oc ((op_build_x tyBuild119 rfl rfl).toXa rfl) (Oc (op_alloc (k := 102) tyZero119 rfl) ?_))
 refine OpsL.toX 102 rfl (Oc (op_store_xx tyAgg119 rfl rfl rfl rfl rfl (Nat.le_of_ble_eq_true rfl) rfl) (OpsL.nilS ⟨[(0, .b (.one (.sl 1 (lists0.map (eL 1 (eL 1 eI)))))), (3, Pt 102 0)], [(101, .mq ([] : MapI)), (102, .xbox 119 [.row 101])]⟩ rfl ?_))
 obtain ⟨v1, h2, h⟩ := bnd h
 refine Tri.seqJ (v := v1) (fun (up_1 : MapI) => ⟨[(3, Pt 102 0)], [(101, .mq up_1), (102, .xbox 119 [.row 101])]⟩) (fun z => z) ?_ ?_
 ·refine Tri.seq (Tri.regionL ?_)
  refine Oc om (Oc (op_len_e' und60 rfl (List.length_map _)) (Oc om ?_))
  refine OpsL.nilS ⟨[(3, _), (12, .b (.one (.sl 1 (lists0.map (eL 1 (eL 1 eI)))))), (13, I (lists0.length : Int)), (14, I 0)], [(101, _), (102, _)]⟩ rfl (Tri.block (Tri.loopJ h2 (un2 fun (up_2 : MapI) (x_3 : Int) => ⟨[(3, Pt 102 0), (12, .b (.one (.sl 1 (lists0.map (eL 1 (eL 1 eI)))))), (13, I (lists0.length : Int)), (14, I x_3)], [(101, .mq up_2), (102, .xbox 119 [.row 101])]⟩) [3, 12, 13, 14] [101, 102] rfl ?_))
  rintro ⟨up_2, x_3⟩ o3 h4 hy5
  refine Tri.seq (Tri.regionL ?_)
  refine Oc (op_lss rfl rfl) (OpsL.nilS ⟨[(3, _), (12, _), (13, _), (14, _), (15, B (decide (x_3 < (lists0.length : Int))))], [(101, _), (102, _)]⟩ rfl (Tri.seq (Tri.ite h4 rfl (fun _ h4 => ?_) (fun _ h4 => ?_))))
  ·refine Tri.skip (Fin.keepS ⟨[(3, _), (12, _), (13, _), (14, _)], [(101, _), (102, _)]⟩ rfl (Fin.then ?_))
   obtain ⟨v6, h7, h4⟩ := bnd h4
   refine Tri.seqJ (v := v6) (fun (up_5 : MapI) => ⟨[(3, Pt 102 0), (12, .b (.one (.sl 1 (lists0.map (eL 1 (eL 1 eI)))))), (13, I (lists0.length : Int)), (14, I x_3)], [(101, .mq up_5), (102, .xbox 119 [.row 101])]⟩) (fun z => z) ?_ ?_
   ·refine Tri.block (Tri.seq (Tri.regionL ?_))
    obtain ⟨x_6, e8, h7⟩ := bnd h7
    refine Oc (op_index_e tySl60 (ix_lo e8) (ix_map (e := (eL 1 (eL 1 eI))) e8) rfl rfl) (Oc (op_load_e1 tyOne23 rfl rfl) (Oc oa ?_))
    refine OpsL.nilS ⟨[(3, _), (5, .b (.one (.sl 1 (x_6.map (eL 1 eI))))), (12, _), (13, _), (14, _)], [(101, _), (102, _)]⟩ rfl (Tri.seq (Tri.regionL ?_))
    refine Oc om (Oc (op_len_e' und23 rfl (List.length_map _)) (Oc om ?_))
    refine OpsL.nilS ⟨[(3, _), (12, _), (13, _), (14, _), (18, .b (.one (.sl 1 (x_6.map (eL 1 eI))))), (19, I (x_6.length : Int)), (20, I 0)], [(101, _), (102, _)]⟩ rfl (Tri.block ?_)
    obtain ⟨v9, h10, h7⟩ := bnd h7
    refine Tri.loopJ h10 (un2 fun (up_7 : MapI) (x_8 : Int) => ⟨[(3, Pt 102 0), (12, .b (.one (.sl 1 (lists0.map (eL 1 (eL 1 eI)))))), (13, I (lists0.length : Int)), (14, I x_3), (18, .b (.one (.sl 1 (x_6.map (eL 1 eI))))), (19, I (x_6.length : Int)), (20, I x_8)], [(101, .mq up_7), (102, .xbox 119 [.row 101])]⟩) [3, 12, 13, 14, 18, 19, 20] [101, 102] rfl ?_
    rintro ⟨up_7, x_8⟩ o11 h12 hy13
    refine Tri.seq (Tri.regionL ?_)
    refine Oc (op_lss rfl rfl) (OpsL.nilS ⟨[(3, _), (12, _), (13, _), (14, _), (18, _), (19, _), (20, _), (21, B (decide (x_8 < (x_6.length : Int))))], [(101, _), (102, _)]⟩ rfl (Tri.seq (Tri.ite h12 rfl (fun _ h12 => ?_) (fun _ h12 => ?_))))
    ·refine Tri.skip (Fin.keepS ⟨[(3, _), (12, _), (13, _), (14, _), (18, _), (19, _), (20, _)], [(101, _), (102, _)]⟩ rfl (Fin.then ?_))
     obtain ⟨v14, h15, h12⟩ := bnd h12
     refine Tri.seqJ (v := v14) (fun (up_10 : MapI) => ⟨[(3, Pt 102 0), (12, .b (.one (.sl 1 (lists0.map (eL 1 (eL 1 eI)))))), (13, I (lists0.length : Int)), (14, I x_3), (18, .b (.one (.sl 1 (x_6.map (eL 1 eI))))), (19, I (x_6.length : Int)), (20, I x_8)], [(101, .mq up_10), (102, .xbox 119 [.row 101])]⟩) (fun z => z) ?_ ?_
     ·refine Tri.block (Tri.seq (Tri.regionL ?_))
      obtain ⟨x_11, e16, h15⟩ := bnd h15
      refine Oc (op_index_e tySl23 (ix_lo e16) (ix_map (e := (eL 1 eI)) e16) rfl rfl) (Oc (op_load_e1 tyOne22 rfl rfl) (Oc oa ?_))
      refine OpsL.nilS ⟨[(3, _), (7, .b (.one (.sl 1 (x_11.map eI)))), (12, _), (13, _), (14, _), (18, _), (19, _), (20, _)], [(101, _), (102, _)]⟩ rfl (Tri.seq (Tri.regionL ?_))
      refine Oc om (Oc (op_len_e' und22 rfl (List.length_map _)) (Oc om ?_))
      refine OpsL.nilS ⟨[(3, _), (7, _), (12, _), (13, _), (14, _), (18, _), (19, _), (20, _), (24, .b (.one (.sl 1 (x_11.map eI)))), (25, I (x_11.length : Int)), (26, I 0)], [(101, _), (102, _)]⟩ rfl (Tri.block ?_)
      obtain ⟨v17, h18, h15⟩ := bnd h15
      refine Tri.loopJ h18 (un2 fun (up_12 : MapI) (x_13 : Int) => ⟨[(3, Pt 102 0), (7, .b (.one (.sl 1 (x_11.map eI)))), (12, .b (.one (.sl 1 (lists0.map (eL 1 (eL 1 eI)))))), (13, I (lists0.length : Int)), (14, I x_3), (18, .b (.one (.sl 1 (x_6.map (eL 1 eI))))), (19, I (x_6.length : Int)), (20, I x_8), (24, .b (.one (.sl 1 (x_11.map eI)))), (25, I (x_11.length : Int)), (26, I x_13)], [(101, .mq up_12), (102, .xbox 119 [.row 101])]⟩) [3, 7, 12, 13, 14, 18, 19, 20, 24, 25, 26] [101, 102] rfl ?_
      rintro ⟨up_12, x_13⟩ o19 h20 hy21
      refine Tri.seq (Tri.regionL ?_)
      refine Oc (op_lss rfl rfl) (OpsL.nilS ⟨[(3, _), (7, _), (12, _), (13, _), (14, _), (18, _), (19, _), (20, _), (24, _), (25, _), (26, _), (27, B (decide (x_13 < (x_11.length : Int))))], [(101, _), (102, _)]⟩ rfl (Tri.seq (Tri.ite h20 rfl (fun _ h20 => ?_) (fun _ h20 => ?_))))
      ·refine Tri.skip (Fin.keepS ⟨[(3, _), (7, _), (12, _), (13, _), (14, _), (18, _), (19, _), (20, _), (24, _), (25, _), (26, _)], [(101, _), (102, _)]⟩ rfl (Fin.then (Tri.seq (Tri.block (Tri.seq (Tri.regionL ?_))))))
       obtain ⟨x_15, e22, h20⟩ := bnd h20
       refine Oc (op_index_e tySl22 (ix_lo e22) (ix_map (e := eI) e22) rfl rfl) (Oc (op_load_e1 tyOne3 rfl rfl) (Oc oa ?_))
       refine OpsL.nilS ⟨[(3, _), (7, _), (9, I x_15), (12, _), (13, _), (14, _), (18, _), (19, _), (20, _), (24, _), (25, _), (26, _)], [(101, _), (102, _)]⟩ rfl ?_
       obtain ⟨x_16, e23, h20⟩ := bnd h20
       obtain ⟨⟨x_17, x_18⟩, e24, h20⟩ := bnd h20
       refine Tri.regionYF mixed 5 [.b (.xa [.row 101]), .b (.one (.sl 1 (x_11.map eI))), .b (.eptr [.i x_16]), I x_16, I x_15] [3, 7, 12, 13, 14, 18, 19, 20, 24, 25, 26] [101, 102] (s' := ⟨[(3, _), (7, _), (12, _), (13, _), (14, _), (18, _), (19, _), (20, _), (24, _), (25, _), (26, _)], [(101, .mq x_18), (102, _)]⟩) rfl ⟨fun _ => .p ((op_load_xa tyAgg119 rfl rfl rfl rfl).toXa rfl), fun _ => .p om, fun _ => .p (op_index_e tySl22 (ix_lo e23) (ix_map (e := eI) e23) rfl rfl), fun _ => .p (op_load_e1 tyOne3 rfl rfl), fun _ => .p om, trivial⟩ ⟨_, by exact .p (op_call (own_a := [(101, _)]) ((island_classes_join_spec e24).sw 1 101) goes71 rfl ⟨rfl, trivial⟩ rfl rfl), rfl⟩ rfl (Fin.block_normal (Fin.keepS ⟨[(3, _), (7, _), (12, _), (13, _), (14, _), (18, _), (19, _), (20, _), (24, _), (25, _), (26, _)], [(101, _), (102, _)]⟩ rfl (Fin.then (Tri.regionL ?_))))
       refine Oc (op_add rfl rfl) (Oc om ?_)
       refine OpsL.nil ?_
       exact Fin.againJ [3, 7, 12, 13, 14, 18, 19, 20, 24, 25, 26] [101, 102] (x_18, IntKind.i64.wrap (x_13 + 1)) (Option.some.inj h20) rfl
      ·refine Tri.exit (Fin.then_exit ?_)
       obtain rfl := hy21 _ (Option.some.inj h20).symm
       refine Fin.then_exit (Fin.block_exit (Fin.block_normal ?_))
       exact Fin.join [3, 12, 13, 14, 18, 19, 20] [101, 102] up_12 (Option.some.inj h15) rfl
     ·rintro up_10 hv
      subst v14
      refine Tri.regionL (Oc (op_add rfl rfl) (Oc om ?_))
      refine OpsL.nil ?_
      exact Fin.againJ [3, 12, 13, 14, 18, 19, 20] [101, 102] (up_10, IntKind.i64.wrap (x_8 + 1)) (Option.some.inj h12) rfl
    ·refine Tri.exit (Fin.then_exit ?_)
     obtain rfl := hy13 _ (Option.some.inj h12).symm
     refine Fin.then_exit (Fin.block_exit (Fin.block_normal ?_))
     exact Fin.join [3, 12, 13, 14] [101, 102] up_7 (Option.some.inj h7) rfl
   ·rintro up_5 hv
    subst v6
    refine Tri.regionL (Oc (op_add rfl rfl) (Oc om ?_))
    refine OpsL.nil ?_
    exact Fin.againJ [3, 12, 13, 14] [101, 102] (up_5, IntKind.i64.wrap (x_3 + 1)) (Option.some.inj h4) rfl
  ·refine Tri.exit (Fin.then_exit ?_)
   obtain rfl := hy5 _ (Option.some.inj h4).symm
   refine Fin.then_exit (Fin.block_exit ?_)
   exact Fin.join [3] [101, 102] up_2 rfl rfl
 ·rintro up_1 hv
  subst v1
  refine Tri.seq (Tri.regionL ?_)
  refine Oc ((op_load_xa tyAgg119 rfl rfl rfl rfl).toXa rfl) ?_
  obtain ⟨⟨x_19, x_20⟩, e25, h⟩ := bnd h
  refine Oc (op_call (own_a := [(101, _)]) ((island_classes_sets_spec e25).sw 1 101) goes72 rfl ⟨rfl, trivial⟩ rfl rfl) (Oc oa ?_)
  refine OpsL.nilS ⟨[(2, .b (.one (.sl 1 (x_19.map (eL 1 eI)))))], []⟩ rfl (Tri.ret ?_)
  obtain rfl := Option.some.inj h
  refine Fin.keepS ⟨[(2, _)], []⟩ rfl (Fin.result' [.one (.sl 1 (x_19.map (eL 1 eI)))] (.inl rfl) rfl (.cons (.tmp rfl) .nil) ⟨rfl, rfl⟩)
def owner_tasks_S (F : Nat) (home0 : List Int) (sets0 : List (List Int)) : Option (List Task) :=
 Option.bind (iter F (un2 fun alone_2 x_3 => if (decide (x_3 < (home0.length : Int))) = true then (Option.bind ((idx? home0 x_3).bind fun x_6 => if (decide (0 ≤ x_6)) = true then ((app? alone_2 [[x_3]]).bind fun x_7 => some x_7) else (some alone_2)) (fun alone_5 => some (.inl (alone_5, IntKind.i64.wrap (x_3 + 1))))) else (some (.inr alone_2))) ([], 0)) (fun alone_1 => Option.bind ((island_Merge_S F [sets0, alone_1]).bind fun x_9 => iter F (un2 fun out_10 x_11 => if (decide (x_11 < (x_9.length : Int))) = true then (Option.bind ((idx? x_9 x_11).bind fun x_14 => Option.bind (iter F (un2 fun regions_16 x_17 => if (decide (x_17 < (x_14.length : Int))) = true then ((idx? x_14 x_17).bind fun x_19 => (idx? home0 x_19).bind fun x_20 => (app? regions_16 [x_20]).bind fun x_21 => some (.inl (x_21, IntKind.i64.wrap (x_17 + 1)))) else (some (.inr regions_16))) ([], 0)) (fun regions_15 => (slices_Sort_S F regions_15).bind fun x_22 => (slices_Compact_S F x_22).bind fun x_23 => (idx? x_23 0).bind fun x_24 => (drop? x_23 1).bind fun x_25 => (app? out_10 [(⟨x_24, x_14, x_25⟩ : Task)]).bind fun x_26 => some x_26)) (fun out_13 => some (.inl (out_13, IntKind.i64.wrap (x_11 + 1))))) else (some (.inr out_10))) ([], 0)) (fun out_8 => some out_8))
theorem owner_tasks_spec (kr0 : Nat) {F : Nat} {home0 : List Int} {sets0 : List (List Int)} {r : (List Task)} (h : owner_tasks_S F home0 sets0 = some r) : Meets Try.prog [] 70 [] [.one (.sl 1 (home0.map eI)), .one (.sl 1 (sets0.map (eL 1 eI)))] (Is [(kr0, .row 59 3 (r.map eTask))] (.b (.row kr0))) := by
 unfold owner_tasks_S at h
 refine Meets.intro 68 Try.func70 Try.ntmps70 rfl (by simp) fun E => ?_
 show Tri _ E ⟨68, [], [], []⟩ _ ⟨[(0, .b (.one (.sl 1 (home0.map eI)))), (1, .b (.one (.sl 1 (sets0.map (eL 1 eI)))))], []⟩ _
 refine Tri.seq (Tri.regionL ?_)
 refine Oc oa (OpsL.nilS ⟨[(0, .b (.one (.sl 1 (home0.map eI)))), (1, .b (.one (.sl 1 (sets0.map (eL 1 eI)))))], []⟩ rfl (Tri.seq (Tri.regionL ?_)))
 refine Oc oa (OpsL.nilS ⟨[(0, _), (1, _), (5, .b (.one (.nil)))], []⟩ rfl ?_)
 obtain ⟨v1, h2, h⟩ := bnd h
 refine Tri.seqJ (v := v1) (fun (alone_1 : List (List Int)) => ⟨[(0, .b (.one (.sl 1 (home0.map eI)))), (1, .b (.one (.sl 1 (sets0.map (eL 1 eI))))), (5, .b (.row 103))], [(103, .row 22 1 (alone_1.map (eL 1 eI)))]⟩) (fun z => z) ?_ ?_
 ·refine Tri.seq (Tri.regionL ?_)
  refine Oc om (Oc (op_len_e' und22 rfl (List.length_map _)) (Oc om ?_))
  refine OpsL.nilS ⟨[(0, _), (1, _), (5, _), (14, .b (.one (.sl 1 (home0.map eI)))), (15, I (home0.length : Int)), (16, I 0)], []⟩ rfl (Tri.block (Tri.nilrow 5 103 1 22 rfl (by decide) rfl (Tri.loopJ h2 (un2 fun (alone_2 : List (List Int)) (x_3 : Int) => ⟨[(0, .b (.one (.sl 1 (home0.map eI)))), (1, .b (.one (.sl 1 (sets0.map (eL 1 eI))))), (5, .b (.row 103)), (14, .b (.one (.sl 1 (home0.map eI)))), (15, I (home0.length : Int)), (16, I x_3)], [(103, .row 22 1 (alone_2.map (eL 1 eI)))]⟩) [0, 1, 5, 14, 15, 16] [103] rfl ?_)))
  rintro ⟨alone_2, x_3⟩ o3 h4 hy5
  refine Tri.seq (Tri.regionL ?_)
  refine Oc (op_lss rfl rfl) (OpsL.nilS ⟨[(0, _), (1, _), (5, _), (14, _), (15, _), (16, _), (17, B (decide (x_3 < (home0.length : Int))))], [(103, _)]⟩ rfl (Tri.seq (Tri.ite h4 rfl (fun _ h4 => ?_) (fun _ h4 => ?_))))
  ·refine Tri.skip (Fin.keepS ⟨[(0, _), (1, _), (5, _), (14, _), (15, _), (16, _)], [(103, _)]⟩ rfl (Fin.then ?_))
   obtain ⟨v6, h7, h4⟩ := bnd h4
   refine Tri.seqJ (v := v6) (fun (alone_5 : List (List Int)) => ⟨[(0, .b (.one (.sl 1 (home0.map eI)))), (1, .b (.one (.sl 1 (sets0.map (eL 1 eI))))), (5, .b (.row 103)), (14, .b (.one (.sl 1 (home0.map eI)))), (15, I (home0.length : Int)), (16, I x_3)], [(103, .row 22 1 (alone_5.map (eL 1 eI)))]⟩) (fun z => z) ?_ ?_
   ·refine Tri.block (Tri.seq (Tri.regionL ?_))
    refine Oc om ?_
    obtain ⟨x_6, e8, h7⟩ := bnd h7
    refine Oc (op_index_e tySl22 (ix_lo e8) (ix_map (e := eI) e8) rfl rfl) (Oc (op_load_e1 tyOne3 rfl rfl) (Oc oa (Oc oa ?_)))
    refine OpsL.nilS ⟨[(0, _), (1, _), (5, _), (6, I x_3), (7, I x_6), (14, _), (15, _), (16, _)], [(103, _)]⟩ rfl (Tri.seq (Tri.regionL ?_))
    refine Oc om (Oc (op_geq rfl rfl) ?_)
    refine OpsL.nilS ⟨[(0, _), (1, _), (5, _), (6, _), (14, _), (15, _), (16, _), (22, B (decide (0 ≤ x_6)))], [(103, _)]⟩ rfl (Tri.ite h7 rfl (fun _ h7 => ?_) (fun _ h7 => ?_))
    ·refine Tri.regionL (Oc om (Oc om (Oc (op_buildSlice (k := 104) (es := [x_3].map eI) tySl22 rfl rfl (uni_map fun _ => rfl) rfl (by decide) (by decide) rfl) ?_)))
     refine OpsL.persist 104 rfl (OpsL.keepS ⟨[(0, .b (.one (.sl 1 (home0.map eI)))), (1, .b (.one (.sl 1 (sets0.map (eL 1 eI))))), (5, .b (.row 103)), (14, .b (.one (.sl 1 (home0.map eI)))), (15, I (home0.length : Int)), (16, I x_3), (23, .b (.row 103)), (25, .b (.one (.sl 1 ([x_3].map eI))))], [(103, .row 22 1 (alone_2.map (eL 1 eI)))]⟩ rfl (Oc (op_buildSlice (k := 105) (es := [[x_3]].map (eL 1 eI)) tySl23 rfl rfl (uni_map fun _ => rfl) rfl (by decide) (by decide) rfl) ?_))
     obtain ⟨x_7, e9, h7⟩ := bnd h7
     refine Oc (op_append_r tySl23 (app_b e9) (app_m e9) rfl rfl rfl rfl (app_map e9) rfl) (Oc oa ?_)
     refine OpsL.nil (Fin.block_normal ?_)
     exact Fin.join [0, 1, 5, 14, 15, 16] [103] x_7 (Option.some.inj h7) rfl
    ·refine Tri.skip (Fin.block_normal ?_)
     exact Fin.join [0, 1, 5, 14, 15, 16] [103] alone_2 (Option.some.inj h7) rfl
   ·rintro alone_5 hv
    subst v6
    refine Tri.regionL (Oc (op_add rfl rfl) (Oc om ?_))
    refine OpsL.nil ?_
    exact Fin.againJ [0, 1, 5, 14, 15, 16] [103] (alone_5, IntKind.i64.wrap (x_3 + 1)) (Option.some.inj h4) rfl
  ·refine Tri.exit (Fin.then_exit ?_)
   obtain rfl := hy5 _ (Option.some.inj h4).symm
   refine Fin.then_exit (Fin.block_exit ?_)
   exact Fin.join [0, 1, 5] [103] alone_2 rfl rfl
 ·rintro alone_1 hv
  subst v1
  refine Tri.seq (Tri.regionL ?_)
  refine Oc oa (OpsL.nilS ⟨[(0, _), (1, _), (5, _), (8, .b (.one (.nil)))], [(103, _)]⟩ rfl ?_)
  obtain ⟨v10, h11, h⟩ := bnd h
  refine Tri.seqJ (v := v10) (fun (out_8 : List Task) => ⟨[(8, .b (.row 111))], [(111, .row 59 3 (out_8.map eTask))]⟩) (fun z => z) ?_ ?_
  ·refine Tri.seq (Tri.regionL ?_)
   refine Oc om (Oc om ?_)
   refine OpsL.persist 103 rfl (Oc (op_buildSlice (k := 106) (es := [sets0, alone_1].map (eL 1 (eL 1 eI))) tySl60 rfl rfl (uni_map fun _ => rfl) rfl (by decide) (by decide) rfl) (OpsL.persist 106 rfl (OpsL.keepS ⟨[(0, .b (.one (.sl 1 (home0.map eI)))), (8, .b (.one (.nil))), (31, .b (.one (.sl 1 ([sets0, alone_1].map (eL 1 (eL 1 eI))))))], []⟩ rfl ?_)))
   obtain ⟨x_9, e12, h11⟩ := bnd h11
   refine Oc (op_call0 (island_Merge_spec e12) goes31 rfl rfl) (Oc (op_len_e' und23 rfl (List.length_map _)) (Oc om ?_))
   refine OpsL.nilS ⟨[(0, _), (8, _), (32, .b (.one (.sl 1 (x_9.map (eL 1 eI))))), (33, I (x_9.length : Int)), (34, I 0)], []⟩ rfl (Tri.block (Tri.nilrow 8 111 3 59 rfl (by decide) rfl (Tri.loopJ h11 (un2 fun (out_10 : List Task) (x_11 : Int) => ⟨[(0, .b (.one (.sl 1 (home0.map eI)))), (8, .b (.row 111)), (32, .b (.one (.sl 1 (x_9.map (eL 1 eI))))), (33, I (x_9.length : Int)), (34, I x_11)], [(111, .row 59 3 (out_10.map eTask))]⟩) [0, 8, 32, 33, 34] [111] rfl ?_)))
   rintro ⟨out_10, x_11⟩ o13 h14 hy15
   refine Tri.seq (Tri.regionL ?_)
   refine Oc (op_lss rfl rfl) (OpsL.nilS ⟨[(0, _), (8, _), (32, _), (33, _), (34, _), (35, B (decide (x_11 < (x_9.length : Int))))], [(111, _)]⟩ rfl (Tri.seq (Tri.ite h14 rfl (fun _ h14 => ?_) (fun _ h14 => ?_))))
   ·refine Tri.skip (Fin.keepS ⟨[(0, _), (8, _), (32, _), (33, _), (34, _)], [(111, _)]⟩ rfl (Fin.then ?_))
    obtain ⟨v16, h17, h14⟩ := bnd h14
    refine Tri.seqJ (v := v16) (fun (out_13 : List Task) => ⟨[(0, .b (.one (.sl 1 (home0.map eI)))), (8, .b (.row 111)), (32, .b (.one (.sl 1 (x_9.map (eL 1 eI))))), (33, I (x_9.length : Int)), (34, I x_11)], [(111, .row 59 3 (out_13.map eTask))]⟩) (fun z => z) ?_ ?_
    ·refine Tri.block (Tri.seq (Tri.regionL ?_))
     obtain ⟨x_14, e18, h17⟩ := bnd h17
     refine Oc (op_index_e tySl23 (ix_lo e18) (ix_map (e := (eL 1 eI)) e18) rfl rfl) (Oc (op_load_e1 tyOne22 rfl rfl) (Oc oa ?_))
     refine OpsL.nilS ⟨[(0, _), (8, _), (10, .b (.one (.sl 1 (x_14.map eI)))), (32, _), (33, _), (34, _)], [(111, _)]⟩ rfl (Tri.seq (Tri.regionL ?_))
     refine Oc oa (OpsL.nilS ⟨[(0, _), (8, _), (10, _), (11, .b (.one (.nil))), (32, _), (33, _), (34, _)], [(111, _)]⟩ rfl ?_)
     obtain ⟨v19, h20, h17⟩ := bnd h17
     refine Tri.seqJ (v := v19) (fun (regions_15 : List Int) => ⟨[(0, .b (.one (.sl 1 (home0.map eI)))), (8, .b (.row 111)), (10, .b (.one (.sl 1 (x_14.map eI)))), (11, .b (.row 113)), (32, .b (.one (.sl 1 (x_9.map (eL 1 eI))))), (33, I (x_9.length : Int)), (34, I x_11)], [(111, .row 59 3 (out_10.map eTask)), (113, .row 3 1 (regions_15.map eI))]⟩) (fun z => z) ?_ ?_
     ·refine Tri.seq (Tri.regionL ?_)
      refine Oc om (Oc (op_len_e' und22 rfl (List.length_map _)) (Oc om ?_))
      refine OpsL.nilS ⟨[(0, _), (8, _), (10, _), (11, _), (32, _), (33, _), (34, _), (38, .b (.one (.sl 1 (x_14.map eI)))), (39, I (x_14.length : Int)), (40, I 0)], [(111, _)]⟩ rfl (Tri.block (Tri.nilrow 11 113 1 3 rfl (by decide) rfl (Tri.loopJ h20 (un2 fun (regions_16 : List Int) (x_17 : Int) => ⟨[(0, .b (.one (.sl 1 (home0.map eI)))), (8, .b (.row 111)), (10, .b (.one (.sl 1 (x_14.map eI)))), (11, .b (.row 113)), (32, .b (.one (.sl 1 (x_9.map (eL 1 eI))))), (33, I (x_9.length : Int)), (34, I x_11), (38, .b (.one (.sl 1 (x_14.map eI)))), (39, I (x_14.length : Int)), (40, I x_17)], [(111, .row 59 3 (out_10.map eTask)), (113, .row 3 1 (regions_16.map eI))]⟩) [0, 8, 10, 11, 32, 33, 34, 38, 39, 40] [111, 113] rfl ?_)))
      rintro ⟨regions_16, x_17⟩ o21 h22 hy23
      refine Tri.seq (Tri.regionL ?_)
      refine Oc (op_lss rfl rfl) (OpsL.nilS ⟨[(0, _), (8, _), (10, _), (11, _), (32, _), (33, _), (34, _), (38, _), (39, _), (40, _), (41, B (decide (x_17 < (x_14.length : Int))))], [(111, _), (113, _)]⟩ rfl (Tri.seq (Tri.ite h22 rfl (fun _ h22 => ?_) (fun _ h22 => ?_))))
      ·refine Tri.skip (Fin.keepS ⟨[(0, _), (8, _), (10, _), (11, _), (32, _), (33, _), (34, _), (38, _), (39, _), (40, _)], [(111, _), (113, _)]⟩ rfl (Fin.then (Tri.seq (Tri.block (Tri.seq (Tri.regionL ?_))))))
       obtain ⟨x_19, e24, h22⟩ := bnd h22
       refine Oc (op_index_e tySl22 (ix_lo e24) (ix_map (e := eI) e24) rfl rfl) (Oc (op_load_e1 tyOne3 rfl rfl) (Oc oa ?_))
       refine OpsL.nilS ⟨[(0, _), (8, _), (10, _), (11, _), (13, I x_19), (32, _), (33, _), (34, _), (38, _), (39, _), (40, _)], [(111, _), (113, _)]⟩ rfl (Tri.regionL (Oc om (Oc om (Oc om ?_))))
       obtain ⟨x_20, e25, h22⟩ := bnd h22
       refine Oc (op_index_e tySl22 (ix_lo e25) (ix_map (e := eI) e25) rfl rfl) (Oc (op_load_e1 tyOne3 rfl rfl) (Oc (op_buildSlice (k := 114) (es := [x_20].map eI) tySl22 rfl rfl (uni_map fun _ => rfl) rfl (by decide) (by decide) rfl) ?_))
       obtain ⟨x_21, e26, h22⟩ := bnd h22
       refine Oc (op_append_r tySl22 (app_b e26) (app_m e26) rfl rfl rfl rfl (app_map e26) rfl) (Oc oa ?_)
       refine OpsL.nil (Fin.block_normal (Fin.keepS ⟨[(0, _), (8, _), (10, _), (11, _), (32, _), (33, _), (34, _), (38, _), (39, _), (40, _)], [(111, _), (113, .row 3 1 (x_21.map eI))]⟩ rfl (Fin.then (Tri.regionL ?_))))
       refine Oc (op_add rfl rfl) (Oc om ?_)
       refine OpsL.nil ?_
       exact Fin.againJ [0, 8, 10, 11, 32, 33, 34, 38, 39, 40] [111, 113] (x_21, IntKind.i64.wrap (x_17 + 1)) (Option.some.inj h22) rfl
      ·refine Tri.exit (Fin.then_exit ?_)
       obtain rfl := hy23 _ (Option.some.inj h22).symm
       refine Fin.then_exit (Fin.block_exit ?_)
       exact Fin.join [0, 8, 10, 11, 32, 33, 34] [111, 113] regions_16 rfl rfl
     ·rintro regions_15 hv
      subst v19
      refine Tri.seq (Tri.regionL ?_)
      refine Oc om (OpsL.toF 113 rfl ?_)
      obtain ⟨x_22, e27, h17⟩ := bnd h17
      refine Oc (op_call (own_a := [(113, _)]) ((slices_Sort_spec e27).sw 1 113) goes91 rfl ⟨rfl, trivial⟩ rfl rfl) (OpsL.unF 113 rfl (OpsL.nilS ⟨[(0, _), (8, _), (10, _), (11, _), (32, _), (33, _), (34, _)], [(111, _), (113, .row 3 1 (x_22.map eI))]⟩ rfl (Tri.seq (Tri.regionL ?_))))
      refine Oc om ?_
      obtain ⟨x_23, e28, h17⟩ := bnd h17
      refine Oc (op_call (own_a := [(113, _)]) ((slices_Compact_spec e28).sw 1 113) goes92 rfl ⟨rfl, trivial⟩ rfl rfl) (Oc oa ?_)
      refine OpsL.nilS ⟨[(0, .b (.one (.sl 1 (home0.map eI)))), (8, .b (.row 111)), (10, .b (.one (.sl 1 (x_14.map eI)))), (11, .b (.row 113)), (32, .b (.one (.sl 1 (x_9.map (eL 1 eI))))), (33, I (x_9.length : Int)), (34, I x_11)], [(111, .row 59 3 (out_10.map eTask)), (113, .row 3 1 (x_23.map eI))]⟩ rfl (Tri.persist 113 rfl (Tri.keepS ⟨[(0, _), (8, _), (10, _), (11, .b (.one (.sl 1 (x_23.map eI)))), (32, _), (33, _), (34, _)], [(111, _)]⟩ rfl ?_))
      obtain ⟨x_24, e29, h17⟩ := bnd h17
      obtain ⟨x_25, e30, h17⟩ := bnd h17
      obtain ⟨x_26, e31, h17⟩ := bnd h17
      refine Tri.regionYF mixed 9 [.b (.row 111), .b (.one (.sl 1 (x_23.map eI))), .b (.eptr [.i x_24]), I x_24, .b (.one (.sl 1 (x_14.map eI))), .b (.one (.sl 1 (x_23.map eI))), .b (.one (.sl 1 (x_25.map eI))), .b (.agg [.i x_24, .sl 1 (x_14.map eI), .sl 1 (x_25.map eI)]), .b (.one (.sl 3 ([(⟨x_24, x_14, x_25⟩ : Task)].map eTask)))] [0, 8, 32, 33, 34] [111] (s' := ⟨[(0, _), (8, _), (32, _), (33, _), (34, _)], [(111, .row 59 3 (x_26.map eTask))]⟩) rfl ⟨fun _ => .p om, fun _ => .p om, fun _ => .p (op_index_e tySl22 (ix_lo e29) (ix_map (e := eI) e29) rfl rfl), fun _ => .p (op_load_e1 tyOne3 rfl rfl), fun _ => .p om, fun _ => .p om, fun _ => .p (op_slice_l2 tySl22 e30 rfl rfl), fun _ => .p (op_build tyBuild59 rfl rfl), fun _ => .p (op_buildSliceP (es := [(⟨x_24, x_14, x_25⟩ : Task)].map eTask) tySl29 rfl rfl (uni_map fun _ => rfl) rfl (by decide) (by decide)), trivial⟩ ⟨_, by exact .p (op_append tySl29 (app_b e31) (app_m e31) rfl rfl rfl (app_map e31) rfl), ⟨_, by exact .p oa, rfl⟩⟩ rfl (Fin.block_normal ?_)
      exact Fin.join [0, 8, 32, 33, 34] [111] x_26 (Option.some.inj h17) rfl
    ·rintro out_13 hv
     subst v16
     refine Tri.regionL (Oc (op_add rfl rfl) (Oc om ?_))
     refine OpsL.nil ?_
     exact Fin.againJ [0, 8, 32, 33, 34] [111] (out_13, IntKind.i64.wrap (x_11 + 1)) (Option.some.inj h14) rfl
   ·refine Tri.exit (Fin.then_exit ?_)
    obtain rfl := hy15 _ (Option.some.inj h14).symm
    refine Fin.then_exit (Fin.block_exit ?_)
    exact Fin.join [8] [111] out_10 rfl rfl
  ·rintro out_8 hv
   subst v10
   refine Tri.seq (Tri.regionL ?_)
   refine Oc om (Oc oa ?_)
   refine OpsL.nilS ⟨[(4, .b (.row 111))], [(111, _)]⟩ rfl (Tri.ret ?_)
   obtain rfl := Option.some.inj h
   refine Fin.keepS ⟨[(4, _)], [(111, _)]⟩ rfl (Fin.resultK 111 kr0 [.row 111] (.inl rfl) rfl (.cons (.tmp rfl) .nil) rfl rfl rfl rfl ⟨rfl, rfl⟩)
def owner_Tasks_S (F : Nat) (home0 : List Int) (sets0 : List (List Int)) : Option ((List Task) × Int) :=
 (owner_isHoused_S F home0 sets0).bind fun x_1 => if (!x_1) = true then (some ([], 1)) else ((owner_tasks_S F home0 sets0).bind fun x_2 => some (x_2, 0))
theorem owner_Tasks_spec (kr0 : Nat) {F : Nat} {home0 : List Int} {sets0 : List (List Int)} {r : (List Task) × Int} (h : owner_Tasks_S F home0 sets0 = some r) : Meets Try.prog [] 26 [] [.one (.sl 1 (home0.map eI)), .one (.sl 1 (sets0.map (eL 1 eI)))] (Is [(kr0, .row 59 3 (r.1.map eTask))] (.tup [.row kr0, .one (.i r.2)])) := by
 unfold owner_Tasks_S at h
 refine Meets.intro 13 Try.func26 Try.ntmps26 rfl (by simp) fun E => ?_
 show Tri _ E ⟨13, [], [], []⟩ _ ⟨[(0, .b (.one (.sl 1 (home0.map eI)))), (1, .b (.one (.sl 1 (sets0.map (eL 1 eI)))))], []⟩ _
 refine Tri.seq (Tri.regionL ?_)
 refine Oc oa (Oc oa ?_)
 refine OpsL.nilS ⟨[(0, .b (.one (.sl 1 (home0.map eI)))), (1, .b (.one (.sl 1 (sets0.map (eL 1 eI)))))], []⟩ rfl (Tri.seq (Tri.seq (Tri.regionL ?_)))
 refine Oc om (Oc om ?_)
 obtain ⟨x_1, e1, h⟩ := bnd h
 refine Oc (op_call0 (owner_isHoused_spec e1) goes42 rfl rfl) (Oc (op_not rfl) ?_)
 refine OpsL.nilS ⟨[(0, _), (1, _), (9, B (!x_1))], []⟩ rfl (Tri.ite h rfl (fun _ h => ?_) (fun _ h => ?_))
 ·refine Tri.seq (Tri.regionL ?_)
  refine Oc oa (Oc oa ?_)
  refine OpsL.nilS ⟨[(4, .b (.one (.nil))), (5, I 1)], []⟩ rfl (Tri.ret (Fin.then_ret ?_))
  obtain rfl := Option.some.inj h
  refine Fin.keepS ⟨[(4, _), (5, _)], []⟩ rfl (Fin.nilrow 4 101 3 59 rfl (by decide) rfl (Fin.resultK 101 kr0 [.row 101, .one (.i 1)] (.inl rfl) rfl (.cons (.tmp rfl) (.cons (.tmp rfl) .nil)) rfl rfl rfl rfl ⟨rfl, rfl⟩))
 ·refine Tri.skip (Fin.keepS ⟨[(0, _), (1, _)], []⟩ rfl (Fin.then (Tri.seq (Tri.regionL ?_))))
  refine Oc om (Oc om ?_)
  obtain ⟨x_2, e2, h⟩ := bnd h
  refine Oc (op_call (owner_tasks_spec 102 e2) goes70 rfl trivial rfl rfl) (Oc oa (Oc oa ?_))
  refine OpsL.nilS ⟨[(4, .b (.row 102)), (5, I 0)], [(102, .row 59 3 (x_2.map eTask))]⟩ rfl (Tri.ret ?_)
  obtain rfl := Option.some.inj h
  refine Fin.keepS ⟨[(4, _), (5, _)], [(102, _)]⟩ rfl (Fin.resultK 102 kr0 [.row 102, .one (.i 0)] (.inl rfl) rfl (.cons (.tmp rfl) (.cons (.tmp rfl) .nil)) rfl rfl rfl rfl ⟨rfl, rfl⟩)
def owner_isHome_1_S (F : Nat) (r0 : Int) (v0c : Int) : Option Bool :=
 some ((decide (r0 < (-1))) || (decide (v0c ≤ r0)))
theorem owner_isHome_1_spec {F : Nat} {r0 : Int} {v0c : Int} {r : Bool} (h : owner_isHome_1_S F r0 v0c = some r) : Meets Try.prog [] 80 [(1, .box 3 [.i v0c])] [.one (.i r0), .ptr 1 0] (Is [(1, .box 3 [.i v0c])] (.b (.one (.bool r)))) := by
 unfold owner_isHome_1_S at h
 refine Meets.intro 11 Try.func80 Try.ntmps80 rfl (by simp) fun E => ?_
 show Tri _ E ⟨11, [1], [1], []⟩ _ ⟨[(0, I r0), (1, Pt 1 0)], [(1, .box 3 [.i v0c])]⟩ _
 refine Tri.seq (Tri.regionL ?_)
 refine Oc oa (OpsL.nilS ⟨[(0, I r0), (1, Pt 1 0)], [(1, .box 3 [.i v0c])]⟩ rfl (Tri.seq (Tri.regionL ?_)))
 refine Oc om (Oc (op_lss rfl rfl) (Oc om ?_))
 refine CgF (!(decide (r0 < (-1)))) [] (fun g1 => trivial) (fun g1 => om) (CgF (!(decide (r0 < (-1)))) [] (fun g2 => by exact trivial) (fun g2 => op_load_p1 tyOne3 rfl rfl rfl) (CgF (!(decide (r0 < (-1)))) [7, 8] (fun g3 => by exact ⟨g3, g3, trivial⟩) (fun g3 => op_geq rfl rfl) (Oc (op_pick_or (fun e => by first | (rw [e]; rfl) | (simp only at e; rw [e]; rfl)) rfl rfl rfl rfl) (Oc oa ?_))))
 refine OpsL.nilS ⟨[(3, B ((decide (r0 < (-1))) || (decide (v0c ≤ r0))))], [(1, _)]⟩ rfl (Tri.ret ?_)
 obtain rfl := Option.some.inj h
 refine Fin.keepS ⟨[(3, _)], [(1, _)]⟩ rfl ?_
 exact Fin.result [.one (.bool ((decide (r0 < (-1))) || (decide (v0c ≤ r0))))] (.inl rfl) rfl (.cons (.tmp rfl) .nil) ⟨rfl, rfl⟩
def slices_IndexFunc_S (F : Nat) (s0 : List Int) (f0v0 : Int) : Option Int :=
 Option.bind (iter F (fun x_1 => if (decide (x_1 < (s0.length : Int))) = true then ((idx? s0 x_1).bind fun x_2 => (owner_isHome_1_S F x_2 f0v0).bind fun x_3 => if x_3 = true then (some (.inr (.inr x_1))) else (some (.inl (IntKind.i64.wrap (x_1 + 1))))) else (some (.inr (.inl ())))) 0) (alt2 (fun _ => some (-1)) (fun y => some y))
theorem slices_IndexFunc_spec {F : Nat} {s0 : List Int} {f0v0 : Int} {r : Int} (h : slices_IndexFunc_S F s0 f0v0 = some r) : Meets Try.prog [] 94 [(1, .box 3 [.i f0v0])] [.one (.sl 1 (s0.map eI)), .clo 80 [] [.ptr 1 0]] (Is [(1, .box 3 [.i f0v0])] (.b (.one (.i r)))) := by
 unfold slices_IndexFunc_S at h
 refine Meets.intro 19 Try.func94 Try.ntmps94 rfl (by simp) fun E => ?_
 show Tri _ E ⟨19, [1], [1], []⟩ _ ⟨[(0, .b (.one (.sl 1 (s0.map eI)))), (1, .b (.clo 80 [] [.ptr 1 0]))], [(1, .box 3 [.i f0v0])]⟩ _
 refine Tri.seq (Tri.regionL ?_)
 refine Oc oa (OpsL.nilS ⟨[(0, .b (.one (.sl 1 (s0.map eI)))), (1, .b (.clo 80 [] [.ptr 1 0]))], [(1, .box 3 [.i f0v0])]⟩ rfl ?_)
 obtain ⟨v1, h2, h⟩ := bnd h
 refine Tri.seqJ (v := v1) (fun (_ : Unit) => ⟨[], [(1, .box 3 [.i f0v0])]⟩) (fun z => .inl z) ?_ ?_
 ·refine Tri.seq (Tri.regionL ?_)
  refine Oc om (Oc (op_len_e' und22 rfl (List.length_map _)) (Oc om ?_))
  refine OpsL.nilS ⟨[(0, _), (1, _), (7, I (s0.length : Int)), (8, I 0)], [(1, _)]⟩ rfl (Tri.block (Tri.loopJ h2 (fun (x_1 : Int) => ⟨[(0, .b (.one (.sl 1 (s0.map eI)))), (1, .b (.clo 80 [] [.ptr 1 0])), (7, I (s0.length : Int)), (8, I x_1)], [(1, .box 3 [.i f0v0])]⟩) [0, 1, 7, 8] [1] rfl ?_))
  rintro x_1 o3 h4 hy5
  refine Tri.seq (Tri.regionL ?_)
  refine Oc (op_lss rfl rfl) (OpsL.nilS ⟨[(0, _), (1, _), (7, _), (8, _), (9, B (decide (x_1 < (s0.length : Int))))], [(1, _)]⟩ rfl (Tri.seq (Tri.ite h4 rfl (fun _ h4 => ?_) (fun _ h4 => ?_))))
  ·refine Tri.skip (Fin.keepS ⟨[(0, _), (1, _), (7, _), (8, _)], [(1, _)]⟩ rfl (Fin.then (Tri.seq (Tri.block (Tri.seq (Tri.regionL ?_))))))
   refine Oc om (Oc oa ?_)
   refine OpsL.nilS ⟨[(0, _), (1, _), (5, I x_1), (7, _), (8, _)], [(1, _)]⟩ rfl (Tri.seq (Tri.regionL ?_))
   refine Oc om (Oc om (Oc om ?_))
   obtain ⟨x_2, e6, h4⟩ := bnd h4
   refine Oc (op_index_e tySl22 (ix_lo e6) (ix_map (e := eI) e6) rfl rfl) (Oc (op_load_e1 tyOne3 rfl rfl) ?_)
   obtain ⟨x_3, e7, h4⟩ := bnd h4
   refine Oc (op_callc (own_a := [(1, _)]) (owner_isHome_1_spec e7) goes80 rfl rfl rfl ⟨rfl, trivial⟩ rfl rfl) (OpsL.nilS ⟨[(0, _), (1, _), (5, _), (7, _), (8, _), (16, B x_3)], [(1, _)]⟩ rfl (Tri.ite h4 rfl (fun _ h4 => ?_) (fun _ h4 => ?_)))
   ·refine Tri.seq (Tri.regionL ?_)
    refine Oc om (Oc oa ?_)
    refine OpsL.nilS ⟨[(4, I x_1)], [(1, _)]⟩ rfl (Tri.ret (Fin.block_ret (Fin.then_ret ?_)))
    obtain rfl := hy5 _ (Option.some.inj h4).symm
    refine Fin.then_ret (Fin.block_ret (Fin.then_ret ?_))
    obtain rfl := Option.some.inj h
    refine Fin.keepS ⟨[(4, _)], [(1, _)]⟩ rfl ?_
    exact Fin.result [.one (.i x_1)] (.inl rfl) rfl (.cons (.tmp rfl) .nil) ⟨rfl, rfl⟩
   ·refine Tri.skip (Fin.block_normal (Fin.keepS ⟨[(0, _), (1, _), (7, _), (8, _)], [(1, _)]⟩ rfl (Fin.then (Tri.regionL ?_))))
    refine Oc (op_add rfl rfl) (Oc om ?_)
    refine OpsL.nil ?_
    exact Fin.againJ [0, 1, 7, 8] [1] (IntKind.i64.wrap (x_1 + 1)) (Option.some.inj h4) rfl
  ·refine Tri.exit (Fin.then_exit ?_)
   obtain rfl := hy5 _ (Option.some.inj h4).symm
   refine Fin.then_exit (Fin.block_exit ?_)
   exact Fin.join [] [1] () rfl rfl
 ·rintro _ hv
  subst v1
  refine Tri.seq (Tri.regionL ?_)
  refine Oc oa (OpsL.nilS ⟨[(4, I (-1))], [(1, _)]⟩ rfl (Tri.ret ?_))
  obtain rfl := Option.some.inj h
  refine Fin.keepS ⟨[(4, _)], [(1, _)]⟩ rfl ?_
  exact Fin.result [.one (.i (-1))] (.inl rfl) rfl (.cons (.tmp rfl) .nil) ⟨rfl, rfl⟩
def slices_ContainsFunc_S (F : Nat) (s0 : List Int) (f0v0 : Int) : Option Bool :=
 (slices_IndexFunc_S F s0 f0v0).bind fun x_1 => some (decide (0 ≤ x_1))
theorem slices_ContainsFunc_spec {F : Nat} {s0 : List Int} {f0v0 : Int} {r : Bool} (h : slices_ContainsFunc_S F s0 f0v0 = some r) : Meets Try.prog [] 79 [(1, .box 3 [.i f0v0])] [.one (.sl 1 (s0.map eI)), .clo 80 [] [.ptr 1 0]] (Is [(1, .box 3 [.i f0v0])] (.b (.one (.bool r)))) := by
 unfold slices_ContainsFunc_S at h
 refine Meets.intro 9 Try.func79 Try.ntmps79 rfl (by simp) fun E => ?_
 show Tri _ E ⟨9, [1], [1], []⟩ _ ⟨[(0, .b (.one (.sl 1 (s0.map eI)))), (1, .b (.clo 80 [] [.ptr 1 0]))], [(1, .box 3 [.i f0v0])]⟩ _
 refine Tri.seq (Tri.regionL ?_)
 refine Oc oa (OpsL.nilS ⟨[(0, .b (.one (.sl 1 (s0.map eI)))), (1, .b (.clo 80 [] [.ptr 1 0]))], [(1, .box 3 [.i f0v0])]⟩ rfl (Tri.seq (Tri.regionL ?_)))
 refine Oc om (Oc om ?_)
 obtain ⟨x_1, e1, h⟩ := bnd h
 refine Oc (op_call (own_a := [(1, _)]) (slices_IndexFunc_spec e1) goes94 rfl ⟨rfl, trivial⟩ rfl rfl) (Oc (op_geq rfl rfl) (Oc oa ?_))
 refine OpsL.nilS ⟨[(4, B (decide (0 ≤ x_1)))], [(1, _)]⟩ rfl (Tri.ret ?_)
 obtain rfl := Option.some.inj h
 refine Fin.keepS ⟨[(4, _)], [(1, _)]⟩ rfl ?_
 exact Fin.result [.one (.bool (decide (0 ≤ x_1)))] (.inl rfl) rfl (.cons (.tmp rfl) .nil) ⟨rfl, rfl⟩
def owner_isHome_S (F : Nat) (home0 : List Int) (regions0 : Int) : Option Bool :=
 (gcall (decide ((home0.length : Int) ≤ 401)) (slices_ContainsFunc_S F home0 regions0)).bind fun x_1 => some ((decide ((home0.length : Int) ≤ 401)) && (!x_1))
theorem owner_isHome_spec {F : Nat} {home0 : List Int} {regions0 : Int} {r : Bool} (h : owner_isHome_S F home0 regions0 = some r) : Meets Try.prog [] 41 [] [.one (.sl 1 (home0.map eI)), .one (.i regions0)] (Is [] (.b (.one (.bool r)))) := by
 unfold owner_isHome_S at h
 refine Meets.intro 14 Try.func41 Try.ntmps41 rfl (by simp) fun E => ?_
 show Tri _ E ⟨14, [], [], []⟩ _ ⟨[(0, .b (.one (.sl 1 (home0.map eI)))), (1, I regions0)], []⟩ _
 refine Tri.seq (Tri.regionL ?_)
 refine Oc (op_box1 (k := 101) rfl rfl) (Oc oa ?_)
 refine OpsL.nilS ⟨[(0, .b (.one (.sl 1 (home0.map eI)))), (3, Pt 101 0)], [(101, .box 3 [.i regions0])]⟩ rfl (Tri.seq (Tri.regionL ?_))
 refine Oc om (Oc (op_len_e' und22 rfl (List.length_map _)) (Oc (op_leq rfl rfl) (Oc om ?_)))
 refine CgT (decide ((home0.length : Int) ≤ 401)) [] (fun g1 => trivial) (fun g1 => om) (CgT (decide ((home0.length : Int) ≤ 401)) [] (fun g2 => by exact trivial) (fun g2 => op_makeFunc rfl rfl) (OpsL.keepS ⟨[(8, B (decide ((home0.length : Int) ≤ 401))), (9, .opt (decide ((home0.length : Int) ≤ 401)) (.one (.sl 1 (home0.map eI)))), (10, .opt (decide ((home0.length : Int) ≤ 401)) (.clo 80 [] [.ptr 101 0]))], [(101, _)]⟩ rfl ?_))
 obtain ⟨x_1, e4, h⟩ := bnd h
 refine CgT (decide ((home0.length : Int) ≤ 401)) [9, 10] (fun g3 => ⟨g3, g3, trivial⟩) (fun g3 => op_call (own_a := [(101, _)]) ((slices_ContainsFunc_spec (gc e4 g3)).sw 1 101) goes79 rfl ⟨rfl, trivial⟩ rfl rfl) (CgT (decide ((home0.length : Int) ≤ 401)) [11] (fun g5 => ⟨g5, trivial⟩) (fun g5 => op_not rfl) (Oc (op_pick_and (fun e => e) rfl rfl rfl rfl) (Oc oa ?_)))
 refine OpsL.nilS ⟨[(4, B ((decide ((home0.length : Int) ≤ 401)) && (!x_1)))], []⟩ rfl (Tri.ret ?_)
 obtain rfl := Option.some.inj h
 refine Fin.keepS ⟨[(4, _)], []⟩ rfl (Fin.result' [.one (.bool ((decide ((home0.length : Int) ≤ 401)) && (!x_1)))] (.inl rfl) rfl (.cons (.tmp rfl) .nil) ⟨rfl, rfl⟩)
def owner_node_send_S (F : Nat) (l0 : Notice) (n0r : Round) (n0out : List Notice) : Option (List Notice) :=
 (app? n0out [(⟨l0.Kind, n0r.Step, n0r.Me, l0.To, l0.Sets, l0.Bodies, l0.States⟩ : Notice)]).bind fun x_1 => some x_1
theorem owner_node_send_spec {F : Nat} {l0 : Notice} {n0r : Round} {n0out : List Notice} {r : (List Notice)} (h : owner_node_send_S F l0 n0r n0out = some r) : Meets Try.prog [] 43 [(1, .xbox 95 [.one (.i n0r.Me), .one (.i n0r.Regions), .one (.i n0r.Step), .one (.sl 1 (n0r.Home.map eI)), .one (.sl 1 (n0r.Heard.map eB)), .one (.sl 1 (n0r.Sets.map (eL 1 eI))), .one (.sl 1 (n0r.States.map eS)), .one (.sl 3 (n0r.Tasks.map eTask)), .one (.sl 1 (n0r.Done.map eB)), .one (.sl 1 (n0r.Results.map eS)), .row 2]), (2, .row 42 7 (n0out.map eNotice))] [.ptr 1 0, .agg (eNotice l0)] (Is [(1, .xbox 95 [.one (.i n0r.Me), .one (.i n0r.Regions), .one (.i n0r.Step), .one (.sl 1 (n0r.Home.map eI)), .one (.sl 1 (n0r.Heard.map eB)), .one (.sl 1 (n0r.Sets.map (eL 1 eI))), .one (.sl 1 (n0r.States.map eS)), .one (.sl 3 (n0r.Tasks.map eTask)), .one (.sl 1 (n0r.Done.map eB)), .one (.sl 1 (n0r.Results.map eS)), .row 2]), (2, .row 42 7 (r.map eNotice))] (.tup [])) := by
 unfold owner_node_send_S at h
 refine Meets.intro 26 Try.func43 Try.ntmps43 rfl (by simp) fun E => ?_
 show Tri _ E ⟨26, [1], [1, 2], []⟩ _ ⟨[(0, Pt 1 0), (1, .b (.agg (eNotice l0)))], [(1, .xbox 95 [.one (.i n0r.Me), .one (.i n0r.Regions), .one (.i n0r.Step), .one (.sl 1 (n0r.Home.map eI)), .one (.sl 1 (n0r.Heard.map eB)), .one (.sl 1 (n0r.Sets.map (eL 1 eI))), .one (.sl 1 (n0r.States.map eS)), .one (.sl 3 (n0r.Tasks.map eTask)), .one (.sl 1 (n0r.Done.map eB)), .one (.sl 1 (n0r.Results.map eS)), .row 2]), (2, .row 42 7 (n0out.map eNotice))]⟩ _
 refine Tri.seq (Tri.regionL ?_)
 refine Oc (op_box (k := 101) rfl rfl) (OpsL.nilS ⟨[(0, Pt 1 0), (3, Pt 101 0)], [(1, .xbox 95 [.one (.i n0r.Me), .one (.i n0r.Regions), .one (.i n0r.Step), .one (.sl 1 (n0r.Home.map eI)), .one (.sl 1 (n0r.Heard.map eB)), .one (.sl 1 (n0r.Sets.map (eL 1 eI))), .one (.sl 1 (n0r.States.map eS)), .one (.sl 3 (n0r.Tasks.map eTask)), .one (.sl 1 (n0r.Done.map eB)), .one (.sl 1 (n0r.Results.map eS)), .row 2]), (2, .row 42 7 (n0out.map eNotice)), (101, .box 42 (eNotice l0))]⟩ rfl (Tri.seq (Tri.regionW mixed [false, false, false, false, false, false, false, false, false, false, false, true, false, true] [Pt 1 0, Pt 1 0, Pt 1 0, Pt 1 2, I n0r.Step, Pt 1 0, Pt 1 0, Pt 1 0, Pt 1 0, I n0r.Me, Pt 101 1, B true, Pt 101 2, B true] [⟨[false, false, false, false, false, false, false, false, false, false, false, false, false, false], [(0, Pt 1 0), (3, Pt 101 0)], [(1, .xbox 95 [.one (.i n0r.Me), .one (.i n0r.Regions), .one (.i n0r.Step), .one (.sl 1 (n0r.Home.map eI)), .one (.sl 1 (n0r.Heard.map eB)), .one (.sl 1 (n0r.Sets.map (eL 1 eI))), .one (.sl 1 (n0r.States.map eS)), .one (.sl 3 (n0r.Tasks.map eTask)), .one (.sl 1 (n0r.Done.map eB)), .one (.sl 1 (n0r.Results.map eS)), .row 2]), (2, .row 42 7 (n0out.map eNotice)), (101, .box 42 (eNotice l0))], [true, true, true, true, true, true, true, true, true, true, true, true, true, true], [], [12, 13]⟩, ⟨[false, false, false, false, false, false, false, false, false, false, false, true, false, false], [(0, Pt 1 0), (3, Pt 101 0)], [(1, .xbox 95 [.one (.i n0r.Me), .one (.i n0r.Regions), .one (.i n0r.Step), .one (.sl 1 (n0r.Home.map eI)), .one (.sl 1 (n0r.Heard.map eB)), .one (.sl 1 (n0r.Sets.map (eL 1 eI))), .one (.sl 1 (n0r.States.map eS)), .one (.sl 3 (n0r.Tasks.map eTask)), .one (.sl 1 (n0r.Done.map eB)), .one (.sl 1 (n0r.Results.map eS)), .row 2]), (2, .row 42 7 (n0out.map eNotice)), (101, .box 42 [.i l0.Kind, .i n0r.Step, .i l0.From, .i l0.To, .sl 1 (l0.Sets.map (eL 1 eI)), .sl 1 (l0.Bodies.map eI), .sl 1 (l0.States.map eS)])], [true, true, true, true, true, true, true, true, true, true, true, true, true, true], [0, 1, 2, 3, 4, 10, 11], []⟩, ⟨[false, false, false, false, false, false, false, false, false, false, false, true, false, true], [(0, Pt 1 0), (3, Pt 101 0)], [(1, .xbox 95 [.one (.i n0r.Me), .one (.i n0r.Regions), .one (.i n0r.Step), .one (.sl 1 (n0r.Home.map eI)), .one (.sl 1 (n0r.Heard.map eB)), .one (.sl 1 (n0r.Sets.map (eL 1 eI))), .one (.sl 1 (n0r.States.map eS)), .one (.sl 3 (n0r.Tasks.map eTask)), .one (.sl 1 (n0r.Done.map eB)), .one (.sl 1 (n0r.Results.map eS)), .row 2]), (2, .row 42 7 (n0out.map eNotice)), (101, .box 42 [.i l0.Kind, .i n0r.Step, .i n0r.Me, .i l0.To, .sl 1 (l0.Sets.map (eL 1 eI)), .sl 1 (l0.Bodies.map eI), .sl 1 (l0.States.map eS)])], [true, true, true, true, true, true, true, true, true, true, true, true, true, true], [0, 1, 2, 3, 4, 5, 6, 7, 8, 9, 10, 11, 12, 13], []⟩] rfl (⟨by kernel_rfl, ⟨⟨Pt 1 0, fun _ => rfl, fun _ => .p (by exact op_move rfl)⟩, ⟨Pt 1 0, fun _ => rfl, fun _ => .p (by exact op_nilCheck_p rfl)⟩, ⟨Pt 1 0, fun _ => rfl, fun _ => .p (by exact op_field_p tyFld95_0 rfl rfl)⟩, ⟨Pt 1 2, fun _ => rfl, fun _ => .p (by exact op_field_p tyFld31_2 rfl rfl)⟩, ⟨I n0r.Step, fun _ => rfl, fun _ => .p (by exact op_load_x1 tyOne3 rfl rfl rfl)⟩, ⟨Pt 1 0, fun _ => rfl, fun _ => .p (by exact op_move rfl)⟩, ⟨Pt 1 0, fun _ => rfl, fun _ => .p (by exact op_nilCheck_p rfl)⟩, ⟨Pt 1 0, fun _ => rfl, fun _ => .p (by exact op_field_p tyFld95_0 rfl rfl)⟩, ⟨Pt 1 0, fun _ => rfl, fun _ => .p (by exact op_field_p tyFld31_0 rfl rfl)⟩, ⟨I n0r.Me, fun _ => rfl, fun _ => .p (by exact op_load_x1 tyOne3 rfl rfl rfl)⟩, ⟨Pt 101 1, fun _ => rfl, fun _ => .p (by exact op_field_p tyFld42_1 rfl rfl)⟩, ⟨_, [], .b (.one .any), rfl, (fun e => by simp at e), rfl, rfl, fun _ => .toO [1, 2, 101] (by exact .p (by exact op_store_p1 tyOne3 rfl rfl rfl (Nat.le_of_ble_eq_true rfl) rfl)) (by exact rfl)⟩, trivial, trivial, trivial⟩, ⟨by kernel_rfl, ⟨trivial, trivial, trivial, trivial, trivial, ⟨Pt 1 0, fun _ => rfl, fun _ => .p (by exact op_move rfl)⟩, ⟨Pt 1 0, fun _ => rfl, fun _ => .p (by exact op_nilCheck_p rfl)⟩, ⟨Pt 1 0, fun _ => rfl, fun _ => .p (by exact op_field_p tyFld95_0 rfl rfl)⟩, ⟨Pt 1 0, fun _ => rfl, fun _ => .p (by exact op_field_p tyFld31_0 rfl rfl)⟩, ⟨I n0r.Me, fun _ => rfl, fun _ => .p (by exact op_load_x1 tyOne3 rfl rfl rfl)⟩, trivial, trivial, ⟨Pt 101 2, fun _ => rfl, fun _ => .p (by exact op_field_p tyFld42_2 rfl rfl)⟩, ⟨_, [], .b (.one .any), rfl, (fun e => by simp at e), rfl, rfl, fun _ => .toO [1, 2, 101] (by exact .p (by exact op_store_p1 tyOne3 rfl rfl rfl (Nat.le_of_ble_eq_true rfl) rfl)) (by exact rfl)⟩, trivial⟩, ⟨by kernel_rfl, ⟨trivial, trivial, trivial, trivial, trivial, trivial, trivial, trivial, trivial, trivial, trivial, trivial, trivial, trivial, trivial⟩, trivial⟩⟩⟩) rfl rfl rfl [0, 3] [1, 2, 101] (s' := ⟨[(0, _), (3, _)], [(1, _), (2, _), (101, .box 42 [.i l0.Kind, .i n0r.Step, .i n0r.Me, .i l0.To, .sl 1 (l0.Sets.map (eL 1 eI)), .sl 1 (l0.Bodies.map eI), .sl 1 (l0.States.map eS)])]⟩) rfl ?_)))
 refine Tri.keepS ⟨[(0, _), (3, _)], [(1, _), (2, _), (101, _)]⟩ rfl ?_
 obtain ⟨x_1, e1, h⟩ := bnd h
 refine Tri.regionWF mixed [false, false, false, false, false, false, false, true, false, false, true] [Pt 1 0, Pt 1 0, Pt 1 0, Pt 1 10, .b (.row 2), .b (.agg [.i l0.Kind, .i n0r.Step, .i n0r.Me, .i l0.To, .sl 1 (l0.Sets.map (eL 1 eI)), .sl 1 (l0.Bodies.map eI), .sl 1 (l0.States.map eS)]), .b (.one (.sl 7 ([(⟨l0.Kind, n0r.Step, n0r.Me, l0.To, l0.Sets, l0.Bodies, l0.States⟩ : Notice)].map eNotice))), .b (.row 2), Pt 1 0, Pt 1 10, B true] [⟨[false, false, false, false, false, false, false, false, false, false, false], [(0, Pt 1 0), (3, Pt 101 0)], [(1, .xbox 95 [.one (.i n0r.Me), .one (.i n0r.Regions), .one (.i n0r.Step), .one (.sl 1 (n0r.Home.map eI)), .one (.sl 1 (n0r.Heard.map eB)), .one (.sl 1 (n0r.Sets.map (eL 1 eI))), .one (.sl 1 (n0r.States.map eS)), .one (.sl 3 (n0r.Tasks.map eTask)), .one (.sl 1 (n0r.Done.map eB)), .one (.sl 1 (n0r.Results.map eS)), .row 2]), (2, .row 42 7 (n0out.map eNotice)), (101, .box 42 [.i l0.Kind, .i n0r.Step, .i n0r.Me, .i l0.To, .sl 1 (l0.Sets.map (eL 1 eI)), .sl 1 (l0.Bodies.map eI), .sl 1 (l0.States.map eS)])], [true, true, true, true, true, true, true, true, true, true, true], [], [8, 9, 10]⟩, ⟨[false, false, false, false, false, false, false, true, false, false, false], [(0, Pt 1 0), (3, Pt 101 0)], [(1, .xbox 95 [.one (.i n0r.Me), .one (.i n0r.Regions), .one (.i n0r.Step), .one (.sl 1 (n0r.Home.map eI)), .one (.sl 1 (n0r.Heard.map eB)), .one (.sl 1 (n0r.Sets.map (eL 1 eI))), .one (.sl 1 (n0r.States.map eS)), .one (.sl 3 (n0r.Tasks.map eTask)), .one (.sl 1 (n0r.Done.map eB)), .one (.sl 1 (n0r.Results.map eS)), .one (.any)]), (2, .row 42 7 (x_1.map eNotice)), (101, .box 42 [.i l0.Kind, .i n0r.Step, .i n0r.Me, .i l0.To, .sl 1 (l0.Sets.map (eL 1 eI)), .sl 1 (l0.Bodies.map eI), .sl 1 (l0.States.map eS)])], [true, true, true, true, false, true, true, true, true, true, true], [1, 2, 3, 4, 5, 6, 7], []⟩, ⟨[false, false, false, false, false, false, false, true, false, false, true], [(0, Pt 1 0), (3, Pt 101 0)], [(1, .xbox 95 [.one (.i n0r.Me), .one (.i n0r.Regions), .one (.i n0r.Step), .one (.sl 1 (n0r.Home.map eI)), .one (.sl 1 (n0r.Heard.map eB)), .one (.sl 1 (n0r.Sets.map (eL 1 eI))), .one (.sl 1 (n0r.States.map eS)), .one (.sl 3 (n0r.Tasks.map eTask)), .one (.sl 1 (n0r.Done.map eB)), .one (.sl 1 (n0r.Results.map eS)), .row 2]), (2, .row 42 7 (x_1.map eNotice)), (101, .box 42 [.i l0.Kind, .i n0r.Step, .i n0r.Me, .i l0.To, .sl 1 (l0.Sets.map (eL 1 eI)), .sl 1 (l0.Bodies.map eI), .sl 1 (l0.States.map eS)])], [true, true, true, true, false, true, true, true, true, true, true], [0, 1, 2, 3, 4, 5, 6, 7, 8, 9, 10], []⟩] rfl (⟨by kernel_rfl, ⟨⟨Pt 1 0, fun _ => rfl, fun _ => .p (by exact op_move rfl)⟩, ⟨Pt 1 0, fun _ => rfl, fun _ => .p (by exact op_move rfl)⟩, ⟨Pt 1 0, fun _ => rfl, fun _ => .p (by exact op_nilCheck_p rfl)⟩, ⟨Pt 1 10, fun _ => rfl, fun _ => .p (by exact op_field_p tyFld95_1 rfl rfl)⟩, ⟨.b (.row 2), fun _ => rfl, fun _ => .p (by exact op_load_x1 tyOne32 rfl rfl rfl)⟩, ⟨.b (.agg [.i l0.Kind, .i n0r.Step, .i n0r.Me, .i l0.To, .sl 1 (l0.Sets.map (eL 1 eI)), .sl 1 (l0.Bodies.map eI), .sl 1 (l0.States.map eS)]), fun _ => rfl, fun _ => .p (by exact op_load_p tyAgg42 rfl rfl rfl rfl)⟩, ⟨.b (.one (.sl 7 ([(⟨l0.Kind, n0r.Step, n0r.Me, l0.To, l0.Sets, l0.Bodies, l0.States⟩ : Notice)].map eNotice))), fun _ => rfl, fun _ => .p (by exact op_buildSliceP (es := [(⟨l0.Kind, n0r.Step, n0r.Me, l0.To, l0.Sets, l0.Bodies, l0.States⟩ : Notice)].map eNotice) tySl32 rfl rfl (uni_map fun _ => rfl) rfl (by decide) (by decide))⟩, ⟨_, [2], .b (.row 2), rfl, fun _ => rfl, rfl, rfl, fun _ => .toO [1, 2, 101] (by exact .forget 1 10 rfl (.plain rfl (op_append tySl32 (app_b e1) (app_m e1) rfl rfl rfl (app_map e1) rfl))) (by exact rfl)⟩, trivial, trivial, trivial, trivial⟩, ⟨by kernel_rfl, ⟨⟨Pt 1 0, fun _ => rfl, fun _ => .p (by exact op_move rfl)⟩, trivial, trivial, trivial, trivial, trivial, trivial, trivial, ⟨Pt 1 0, fun _ => rfl, fun _ => .p (by exact op_nilCheck_p rfl)⟩, ⟨Pt 1 10, fun _ => rfl, fun _ => .p (by exact op_field_p tyFld95_1 rfl rfl)⟩, ⟨_, [], .b (.one .any), rfl, (fun e => by simp at e), rfl, rfl, fun _ => .toO [1, 2, 101] (by exact .p (by exact op_store_x1 tyOne32 rfl rfl rfl rfl (Nat.le_of_ble_eq_true rfl) rfl)) (by exact rfl)⟩, trivial⟩, ⟨by kernel_rfl, ⟨trivial, trivial, trivial, trivial, trivial, trivial, trivial, trivial, trivial, trivial, trivial, trivial⟩, trivial⟩⟩⟩) rfl rfl rfl [] [1, 2] (s' := ⟨[], [(1, .xbox 95 [.one (.i n0r.Me), .one (.i n0r.Regions), .one (.i n0r.Step), .one (.sl 1 (n0r.Home.map eI)), .one (.sl 1 (n0r.Heard.map eB)), .one (.sl 1 (n0r.Sets.map (eL 1 eI))), .one (.sl 1 (n0r.States.map eS)), .one (.sl 3 (n0r.Tasks.map eTask)), .one (.sl 1 (n0r.Done.map eB)), .one (.sl 1 (n0r.Results.map eS)), .row 2]), (2, .row 42 7 (x_1.map eNotice))]⟩) rfl ?_
 obtain rfl := Option.some.inj h
 refine Fin.keepS ⟨[], [(1, _), (2, _)]⟩ rfl ?_
 exact Fin.result [] (.inr rfl) rfl (.nil) ⟨rfl, rfl⟩
def slices_Index_S (F : Nat) (s0 : List Bool) (v0 : Bool) : Option Int :=
 Option.bind (iter F (fun x_1 => if (decide (x_1 < (s0.length : Int))) = true then ((idx? s0 x_1).bind fun x_2 => if (v0 == x_2) = true then (some (.inr (.inr x_1))) else (some (.inl (IntKind.i64.wrap (x_1 + 1))))) else (some (.inr (.inl ())))) 0) (alt2 (fun _ => some (-1)) (fun y => some y))
theorem slices_Index_spec {F : Nat} {s0 : List Bool} {v0 : Bool} {r : Int} (h : slices_Index_S F s0 v0 = some r) : Meets Try.prog [] 90 [] [.one (.sl 1 (s0.map eB)), .one (.bool v0)] (Is [] (.b (.one (.i r)))) := by
 unfold slices_Index_S at h
 refine Meets.intro 19 Try.func90 Try.ntmps90 rfl (by simp) fun E => ?_
 show Tri _ E ⟨19, [], [], []⟩ _ ⟨[(0, .b (.one (.sl 1 (s0.map eB)))), (1, B v0)], []⟩ _
 refine Tri.seq (Tri.regionL ?_)
 refine Oc oa (OpsL.nilS ⟨[(0, .b (.one (.sl 1 (s0.map eB)))), (1, B v0)], []⟩ rfl ?_)
 obtain ⟨v1, h2, h⟩ := bnd h
 refine Tri.seqJ (v := v1) (fun (_ : Unit) => ⟨[], []⟩) (fun z => .inl z) ?_ ?_
 ·refine Tri.seq (Tri.regionL ?_)
  refine Oc om (Oc (op_len_e' und28 rfl (List.length_map _)) (Oc om ?_))
  refine OpsL.nilS ⟨[(0, _), (1, _), (7, I (s0.length : Int)), (8, I 0)], []⟩ rfl (Tri.block (Tri.loopJ h2 (fun (x_1 : Int) => ⟨[(0, .b (.one (.sl 1 (s0.map eB)))), (1, B v0), (7, I (s0.length : Int)), (8, I x_1)], []⟩) [0, 1, 7, 8] [] rfl ?_))
  rintro x_1 o3 h4 hy5
  refine Tri.seq (Tri.regionL ?_)
  refine Oc (op_lss rfl rfl) (OpsL.nilS ⟨[(0, _), (1, _), (7, _), (8, _), (9, B (decide (x_1 < (s0.length : Int))))], []⟩ rfl (Tri.seq (Tri.ite h4 rfl (fun _ h4 => ?_) (fun _ h4 => ?_))))
  ·refine Tri.skip (Fin.keepS ⟨[(0, _), (1, _), (7, _), (8, _)], []⟩ rfl (Fin.then (Tri.seq (Tri.block (Tri.seq (Tri.regionL ?_))))))
   refine Oc om (Oc oa ?_)
   refine OpsL.nilS ⟨[(0, _), (1, _), (5, I x_1), (7, _), (8, _)], []⟩ rfl (Tri.seq (Tri.regionL ?_))
   refine Oc om (Oc om (Oc om ?_))
   obtain ⟨x_2, e6, h4⟩ := bnd h4
   refine Oc (op_index_e tySl28 (ix_lo e6) (ix_map (e := eB) e6) rfl rfl) (Oc (op_load_e1 tyOne4 rfl rfl) (Oc (op_eql_bool und4 rfl rfl) ?_))
   refine OpsL.nilS ⟨[(0, _), (1, _), (5, _), (7, _), (8, _), (16, B (v0 == x_2))], []⟩ rfl (Tri.ite h4 rfl (fun _ h4 => ?_) (fun _ h4 => ?_))
   ·refine Tri.seq (Tri.regionL ?_)
    refine Oc om (Oc oa ?_)
    refine OpsL.nilS ⟨[(4, I x_1)], []⟩ rfl (Tri.ret (Fin.block_ret (Fin.then_ret ?_)))
    obtain rfl := hy5 _ (Option.some.inj h4).symm
    refine Fin.then_ret (Fin.block_ret (Fin.then_ret ?_))
    obtain rfl := Option.some.inj h
    refine Fin.keepS ⟨[(4, _)], []⟩ rfl (Fin.result' [.one (.i x_1)] (.inl rfl) rfl (.cons (.tmp rfl) .nil) ⟨rfl, rfl⟩)
   ·refine Tri.skip (Fin.block_normal (Fin.keepS ⟨[(0, _), (1, _), (7, _), (8, _)], []⟩ rfl (Fin.then (Tri.regionL ?_))))
    refine Oc (op_add rfl rfl) (Oc om ?_)
    refine OpsL.nil ?_
    exact Fin.againJ [0, 1, 7, 8] [] (IntKind.i64.wrap (x_1 + 1)) (Option.some.inj h4) rfl
  ·refine Tri.exit (Fin.then_exit ?_)
   obtain rfl := hy5 _ (Option.some.inj h4).symm
   refine Fin.then_exit (Fin.block_exit ?_)
   exact Fin.join [] [] () rfl rfl
 ·rintro _ hv
  subst v1
  refine Tri.seq (Tri.regionL ?_)
  refine Oc oa (OpsL.nilS ⟨[(4, I (-1))], []⟩ rfl (Tri.ret ?_))
  obtain rfl := Option.some.inj h
  refine Fin.keepS ⟨[(4, _)], []⟩ rfl (Fin.result' [.one (.i (-1))] (.inl rfl) rfl (.cons (.tmp rfl) .nil) ⟨rfl, rfl⟩)
def slices_Contains_S (F : Nat) (s0 : List Bool) (v0 : Bool) : Option Bool :=
 (slices_Index_S F s0 v0).bind fun x_1 => some (decide (0 ≤ x_1))
theorem slices_Contains_spec {F : Nat} {s0 : List Bool} {v0 : Bool} {r : Bool} (h : slices_Contains_S F s0 v0 = some r) : Meets Try.prog [] 68 [] [.one (.sl 1 (s0.map eB)), .one (.bool v0)] (Is [] (.b (.one (.bool r)))) := by
 unfold slices_Contains_S at h
 refine Meets.intro 9 Try.func68 Try.ntmps68 rfl (by simp) fun E => ?_
 show Tri _ E ⟨9, [], [], []⟩ _ ⟨[(0, .b (.one (.sl 1 (s0.map eB)))), (1, B v0)], []⟩ _
 refine Tri.seq (Tri.regionL ?_)
 refine Oc oa (OpsL.nilS ⟨[(0, .b (.one (.sl 1 (s0.map eB)))), (1, B v0)], []⟩ rfl (Tri.seq (Tri.regionL ?_)))
 refine Oc om (Oc om ?_)
 obtain ⟨x_1, e1, h⟩ := bnd h
 refine Oc (op_call0 (slices_Index_spec e1) goes90 rfl rfl) (Oc (op_geq rfl rfl) (Oc oa ?_))
 refine OpsL.nilS ⟨[(4, B (decide (0 ≤ x_1)))], []⟩ rfl (Tri.ret ?_)
 obtain rfl := Option.some.inj h
 refine Fin.keepS ⟨[(4, _)], []⟩ rfl (Fin.result' [.one (.bool (decide (0 ≤ x_1)))] (.inl rfl) rfl (.cons (.tmp rfl) .nil) ⟨rfl, rfl⟩)
def owner_node_of_S (F : Nat) (bodies0 : List Int) (region0 : Int) (n0r : Round) (n0out : List Notice) : Option (List Int) :=
 Option.bind (iter F (un2 fun out_2 x_3 => if (decide (x_3 < (bodies0.length : Int))) = true then (Option.bind ((idx? bodies0 x_3).bind fun x_6 => (idx? n0r.Home x_6).bind fun x_7 => if (decide (x_7 = region0)) = true then ((app? out_2 [x_6]).bind fun x_8 => some x_8) else (some out_2)) (fun out_5 => some (.inl (out_5, IntKind.i64.wrap (x_3 + 1))))) else (some (.inr out_2))) ([], 0)) (fun out_1 => some out_1)
theorem owner_node_of_spec {F : Nat} {bodies0 : List Int} {region0 : Int} {n0r : Round} {n0out : List Notice} {r : (List Int)} (h : owner_node_of_S F bodies0 region0 n0r n0out = some r) : Meets Try.prog [] 55 [(1, .xbox 95 [.one (.i n0r.Me), .one (.i n0r.Regions), .one (.i n0r.Step), .one (.sl 1 (n0r.Home.map eI)), .one (.sl 1 (n0r.Heard.map eB)), .one (.sl 1 (n0r.Sets.map (eL 1 eI))), .one (.sl 1 (n0r.States.map eS)), .one (.sl 3 (n0r.Tasks.map eTask)), .one (.sl 1 (n0r.Done.map eB)), .one (.sl 1 (n0r.Results.map eS)), .row 2]), (2, .row 42 7 (n0out.map eNotice))] [.ptr 1 0, .one (.sl 1 (bodies0.map eI)), .one (.i region0)] (Is [(1, .xbox 95 [.one (.i n0r.Me), .one (.i n0r.Regions), .one (.i n0r.Step), .one (.sl 1 (n0r.Home.map eI)), .one (.sl 1 (n0r.Heard.map eB)), .one (.sl 1 (n0r.Sets.map (eL 1 eI))), .one (.sl 1 (n0r.States.map eS)), .one (.sl 3 (n0r.Tasks.map eTask)), .one (.sl 1 (n0r.Done.map eB)), .one (.sl 1 (n0r.Results.map eS)), .row 2]), (2, .row 42 7 (n0out.map eNotice)), (51, .row 3 1 (r.map eI))] (.b (.row 51))) := by
 unfold owner_node_of_S at h
 refine Meets.intro 32 Try.func55 Try.ntmps55 rfl (by simp) fun E => ?_
 show Tri _ E ⟨32, [1], [1, 2], []⟩ _ ⟨[(0, Pt 1 0), (1, .b (.one (.sl 1 (bodies0.map eI)))), (2, I region0)], [(1, .xbox 95 [.one (.i n0r.Me), .one (.i n0r.Regions), .one (.i n0r.Step), .one (.sl 1 (n0r.Home.map eI)), .one (.sl 1 (n0r.Heard.map eB)), .one (.sl 1 (n0r.Sets.map (eL 1 eI))), .one (.sl 1 (n0r.States.map eS)), .one (.sl 3 (n0r.Tasks.map eTask)), .one (.sl 1 (n0r.Done.map eB)), .one (.sl 1 (n0r.Results.map eS)), .row 2]), (2, .row 42 7 (n0out.map eNotice))]⟩ _
 refine Tri.seq (Tri.regionL ?_)
 refine Oc oa (OpsL.nilS ⟨[(0, Pt 1 0), (1, .b (.one (.sl 1 (bodies0.map eI)))), (2, I region0)], [(1, .xbox 95 [.one (.i n0r.Me), .one (.i n0r.Regions), .one (.i n0r.Step), .one (.sl 1 (n0r.Home.map eI)), .one (.sl 1 (n0r.Heard.map eB)), .one (.sl 1 (n0r.Sets.map (eL 1 eI))), .one (.sl 1 (n0r.States.map eS)), .one (.sl 3 (n0r.Tasks.map eTask)), .one (.sl 1 (n0r.Done.map eB)), .one (.sl 1 (n0r.Results.map eS)), .row 2]), (2, .row 42 7 (n0out.map eNotice))]⟩ rfl (Tri.seq (Tri.regionL ?_)))
 refine Oc oa (OpsL.nilS ⟨[(0, _), (1, _), (2, _), (7, .b (.one (.nil)))], [(1, _), (2, _)]⟩ rfl ?_)
 obtain ⟨v1, h2, h⟩ := bnd h
 refine Tri.seqJ (v := v1) (fun (out_1 : List Int) => ⟨[(7, .b (.row 102))], [(1, .xbox 95 [.one (.i n0r.Me), .one (.i n0r.Regions), .one (.i n0r.Step), .one (.sl 1 (n0r.Home.map eI)), .one (.sl 1 (n0r.Heard.map eB)), .one (.sl 1 (n0r.Sets.map (eL 1 eI))), .one (.sl 1 (n0r.States.map eS)), .one (.sl 3 (n0r.Tasks.map eTask)), .one (.sl 1 (n0r.Done.map eB)), .one (.sl 1 (n0r.Results.map eS)), .row 2]), (2, .row 42 7 (n0out.map eNotice)), (102, .row 3 1 (out_1.map eI))]⟩) (fun z => z) ?_ ?_
 ·refine Tri.seq (Tri.regionL ?_)
  refine Oc om (Oc (op_len_e' und22 rfl (List.length_map _)) (Oc om ?_))
  refine OpsL.nilS ⟨[(0, _), (2, _), (7, _), (10, .b (.one (.sl 1 (bodies0.map eI)))), (11, I (bodies0.length : Int)), (12, I 0)], [(1, _), (2, _)]⟩ rfl (Tri.block (Tri.nilrow 7 102 1 3 rfl (by decide) rfl (Tri.loopJ h2 (un2 fun (out_2 : List Int) (x_3 : Int) => ⟨[(0, Pt 1 0), (2, I region0), (7, .b (.row 102)), (10, .b (.one (.sl 1 (bodies0.map eI)))), (11, I (bodies0.length : Int)), (12, I x_3)], [(1, .xbox 95 [.one (.i n0r.Me), .one (.i n0r.Regions), .one (.i n0r.Step), .one (.sl 1 (n0r.Home.map eI)), .one (.sl 1 (n0r.Heard.map eB)), .one (.sl 1 (n0r.Sets.map (eL 1 eI))), .one (.sl 1 (n0r.States.map eS)), .one (.sl 3 (n0r.Tasks.map eTask)), .one (.sl 1 (n0r.Done.map eB)), .one (.sl 1 (n0r.Results.map eS)), .row 2]), (2, .row 42 7 (n0out.map eNotice)), (102, .row 3 1 (out_2.map eI))]⟩) [0, 2, 7, 10, 11, 12] [1, 2, 102] rfl ?_)))
  rintro ⟨out_2, x_3⟩ o3 h4 hy5
  refine Tri.seq (Tri.regionL ?_)
  refine Oc (op_lss rfl rfl) (OpsL.nilS ⟨[(0, _), (2, _), (7, _), (10, _), (11, _), (12, _), (13, B (decide (x_3 < (bodies0.length : Int))))], [(1, _), (2, _), (102, _)]⟩ rfl (Tri.seq (Tri.ite h4 rfl (fun _ h4 => ?_) (fun _ h4 => ?_))))
  ·refine Tri.skip (Fin.keepS ⟨[(0, _), (2, _), (7, _), (10, _), (11, _), (12, _)], [(1, _), (2, _), (102, _)]⟩ rfl (Fin.then ?_))
   obtain ⟨v6, h7, h4⟩ := bnd h4
   refine Tri.seqJ (v := v6) (fun (out_5 : List Int) => ⟨[(0, Pt 1 0), (2, I region0), (7, .b (.row 102)), (10, .b (.one (.sl 1 (bodies0.map eI)))), (11, I (bodies0.length : Int)), (12, I x_3)], [(1, .xbox 95 [.one (.i n0r.Me), .one (.i n0r.Regions), .one (.i n0r.Step), .one (.sl 1 (n0r.Home.map eI)), .one (.sl 1 (n0r.Heard.map eB)), .one (.sl 1 (n0r.Sets.map (eL 1 eI))), .one (.sl 1 (n0r.States.map eS)), .one (.sl 3 (n0r.Tasks.map eTask)), .one (.sl 1 (n0r.Done.map eB)), .one (.sl 1 (n0r.Results.map eS)), .row 2]), (2, .row 42 7 (n0out.map eNotice)), (102, .row 3 1 (out_5.map eI))]⟩) (fun z => z) ?_ ?_
   ·refine Tri.block (Tri.seq (Tri.regionL ?_))
    obtain ⟨x_6, e8, h7⟩ := bnd h7
    refine Oc (op_index_e tySl22 (ix_lo e8) (ix_map (e := eI) e8) rfl rfl) (Oc (op_load_e1 tyOne3 rfl rfl) (Oc oa ?_))
    refine OpsL.nilS ⟨[(0, _), (2, _), (7, _), (9, I x_6), (10, _), (11, _), (12, _)], [(1, _), (2, _), (102, _)]⟩ rfl (Tri.seq (Tri.regionL ?_))
    refine Oc om (Oc (op_nilCheck_p rfl) (Oc (op_field_p tyFld95_0 rfl rfl) (Oc (op_field_p tyFld31_3 rfl rfl) (Oc (op_load_x1 tyOne22 rfl rfl rfl) (Oc om ?_)))))
    obtain ⟨x_7, e9, h7⟩ := bnd h7
    refine Oc (op_index_e tySl22 (ix_lo e9) (ix_map (e := eI) e9) rfl rfl) (OpsL.keepS ⟨[(0, _), (2, _), (7, _), (9, _), (10, _), (11, _), (12, _), (22, .b (.eptr [.i x_7]))], [(1, _), (2, _), (102, _)]⟩ rfl (Oc (op_load_e1 tyOne3 rfl rfl) (Oc om (Oc (op_eql rfl rfl) ?_))))
    refine OpsL.nilS ⟨[(0, _), (2, _), (7, _), (9, _), (10, _), (11, _), (12, _), (25, B (decide (x_7 = region0)))], [(1, _), (2, _), (102, _)]⟩ rfl (Tri.ite h7 rfl (fun _ h7 => ?_) (fun _ h7 => ?_))
    ·refine Tri.regionL (Oc om (Oc om (Oc (op_buildSlice (k := 103) (es := [x_6].map eI) tySl22 rfl rfl (uni_map fun _ => rfl) rfl (by decide) (by decide) rfl) ?_)))
     obtain ⟨x_8, e10, h7⟩ := bnd h7
     refine Oc (op_append_r tySl22 (app_b e10) (app_m e10) rfl rfl rfl rfl (app_map e10) rfl) (Oc oa ?_)
     refine OpsL.nil (Fin.block_normal ?_)
     exact Fin.join [0, 2, 7, 10, 11, 12] [1, 2, 102] x_8 (Option.some.inj h7) rfl
    ·refine Tri.skip (Fin.block_normal ?_)
     exact Fin.join [0, 2, 7, 10, 11, 12] [1, 2, 102] out_2 (Option.some.inj h7) rfl
   ·rintro out_5 hv
    subst v6
    refine Tri.regionL (Oc (op_add rfl rfl) (Oc om ?_))
    refine OpsL.nil ?_
    exact Fin.againJ [0, 2, 7, 10, 11, 12] [1, 2, 102] (out_5, IntKind.i64.wrap (x_3 + 1)) (Option.some.inj h4) rfl
  ·refine Tri.exit (Fin.then_exit ?_)
   obtain rfl := hy5 _ (Option.some.inj h4).symm
   refine Fin.then_exit (Fin.block_exit ?_)
   exact Fin.join [7] [1, 2, 102] out_2 rfl rfl
 ·rintro out_1 hv
  subst v1
  refine Tri.seq (Tri.regionL ?_)
  refine Oc om (Oc oa ?_)
  refine OpsL.nilS ⟨[(6, .b (.row 102))], [(1, _), (2, _), (102, _)]⟩ rfl (Tri.ret ?_)
  obtain rfl := Option.some.inj h
  refine Fin.keepS ⟨[(6, .b (.row 102))], [(1, .xbox 95 [.one (.i n0r.Me), .one (.i n0r.Regions), .one (.i n0r.Step), .one (.sl 1 (n0r.Home.map eI)), .one (.sl 1 (n0r.Heard.map eB)), .one (.sl 1 (n0r.Sets.map (eL 1 eI))), .one (.sl 1 (n0r.States.map eS)), .one (.sl 3 (n0r.Tasks.map eTask)), .one (.sl 1 (n0r.Done.map eB)), .one (.sl 1 (n0r.Results.map eS)), .row 2]), (2, .row 42 7 (n0out.map eNotice)), (102, .row 3 1 (out_1.map eI))]⟩ rfl (Fin.rename 102 51 rfl (by decide) rfl (Fin.keepS ⟨[(6, .b (.row 51))], [(1, _), (2, _), (51, .row 3 1 (out_1.map eI))]⟩ rfl ?_))
  exact Fin.result [.row 51] (.inl rfl) rfl (.cons (.tmp rfl) .nil) ⟨rfl, rfl⟩
def owner_node_of_v_S (F : Nat) (bodies0 : List Int) (region0 : Int) (n0r : Round) (n0out : List Notice) : Option (List Int) :=
 Option.bind (iter F (un2 fun out_2 x_3 => if (decide (x_3 < (bodies0.length : Int))) = true then (Option.bind ((idx? bodies0 x_3).bind fun x_6 => (idx? n0r.Home x_6).bind fun x_7 => if (decide (x_7 = region0)) = true then ((app? out_2 [x_6]).bind fun x_8 => some x_8) else (some out_2)) (fun out_5 => some (.inl (out_5, IntKind.i64.wrap (x_3 + 1))))) else (some (.inr out_2))) ([], 0)) (fun out_1 => some out_1)
theorem owner_node_of_v_spec {F : Nat} {bodies0 : List Int} {region0 : Int} {n0r : Round} {n0out : List Notice} {r : (List Int)} (h : owner_node_of_v_S F bodies0 region0 n0r n0out = some r) : Meets Try.prog [] 55 [(1, .xbox 95 [.one (.i n0r.Me), .one (.i n0r.Regions), .one (.i n0r.Step), .one (.sl 1 (n0r.Home.map eI)), .one (.sl 1 (n0r.Heard.map eB)), .one (.sl 1 (n0r.Sets.map (eL 1 eI))), .one (.sl 1 (n0r.States.map eS)), .one (.sl 3 (n0r.Tasks.map eTask)), .row 3, .row 4, .row 2]), (2, .row 42 7 (n0out.map eNotice)), (3, .row 4 1 (n0r.Done.map eB)), (4, .row 9 1 (n0r.Results.map eS))] [.ptr 1 0, .one (.sl 1 (bodies0.map eI)), .one (.i region0)] (Is [(1, .xbox 95 [.one (.i n0r.Me), .one (.i n0r.Regions), .one (.i n0r.Step), .one (.sl 1 (n0r.Home.map eI)), .one (.sl 1 (n0r.Heard.map eB)), .one (.sl 1 (n0r.Sets.map (eL 1 eI))), .one (.sl 1 (n0r.States.map eS)), .one (.sl 3 (n0r.Tasks.map eTask)), .row 3, .row 4, .row 2]), (2, .row 42 7 (n0out.map eNotice)), (3, .row 4 1 (n0r.Done.map eB)), (4, .row 9 1 (n0r.Results.map eS)), (51, .row 3 1 (r.map eI))] (.b (.row 51))) := by
 unfold owner_node_of_v_S at h
 refine Meets.intro 32 Try.func55 Try.ntmps55 rfl (by simp) fun E => ?_
 show Tri _ E ⟨32, [1], [1, 2, 3, 4], []⟩ _ ⟨[(0, Pt 1 0), (1, .b (.one (.sl 1 (bodies0.map eI)))), (2, I region0)], [(1, .xbox 95 [.one (.i n0r.Me), .one (.i n0r.Regions), .one (.i n0r.Step), .one (.sl 1 (n0r.Home.map eI)), .one (.sl 1 (n0r.Heard.map eB)), .one (.sl 1 (n0r.Sets.map (eL 1 eI))), .one (.sl 1 (n0r.States.map eS)), .one (.sl 3 (n0r.Tasks.map eTask)), .row 3, .row 4, .row 2]), (2, .row 42 7 (n0out.map eNotice)), (3, .row 4 1 (n0r.Done.map eB)), (4, .row 9 1 (n0r.Results.map eS))]⟩ _
 refine Tri.seq (Tri.regionL ?_)
 refine Oc oa (OpsL.nilS ⟨[(0, Pt 1 0), (1, .b (.one (.sl 1 (bodies0.map eI)))), (2, I region0)], [(1, .xbox 95 [.one (.i n0r.Me), .one (.i n0r.Regions), .one (.i n0r.Step), .one (.sl 1 (n0r.Home.map eI)), .one (.sl 1 (n0r.Heard.map eB)), .one (.sl 1 (n0r.Sets.map (eL 1 eI))), .one (.sl 1 (n0r.States.map eS)), .one (.sl 3 (n0r.Tasks.map eTask)), .row 3, .row 4, .row 2]), (2, .row 42 7 (n0out.map eNotice)), (3, .row 4 1 (n0r.Done.map eB)), (4, .row 9 1 (n0r.Results.map eS))]⟩ rfl (Tri.seq (Tri.regionL ?_)))
 refine Oc oa (OpsL.nilS ⟨[(0, _), (1, _), (2, _), (7, .b (.one (.nil)))], [(1, _), (2, _), (3, _), (4, _)]⟩ rfl ?_)
 obtain ⟨v1, h2, h⟩ := bnd h
 refine Tri.seqJ (v := v1) (fun (out_1 : List Int) => ⟨[(7, .b (.row 102))], [(1, .xbox 95 [.one (.i n0r.Me), .one (.i n0r.Regions), .one (.i n0r.Step), .one (.sl 1 (n0r.Home.map eI)), .one (.sl 1 (n0r.Heard.map eB)), .one (.sl 1 (n0r.Sets.map (eL 1 eI))), .one (.sl 1 (n0r.States.map eS)), .one (.sl 3 (n0r.Tasks.map eTask)), .row 3, .row 4, .row 2]), (2, .row 42 7 (n0out.map eNotice)), (3, .row 4 1 (n0r.Done.map eB)), (4, .row 9 1 (n0r.Results.map eS)), (102, .row 3 1 (out_1.map eI))]⟩) (fun z => z) ?_ ?_
 ·refine Tri.seq (Tri.regionL ?_)
  refine Oc om (Oc (op_len_e' und22 rfl (List.length_map _)) (Oc om ?_))
  refine OpsL.nilS ⟨[(0, _), (2, _), (7, _), (10, .b (.one (.sl 1 (bodies0.map eI)))), (11, I (bodies0.length : Int)), (12, I 0)], [(1, _), (2, _), (3, _), (4, _)]⟩ rfl (Tri.block (Tri.nilrow 7 102 1 3 rfl (by decide) rfl (Tri.loopJ h2 (un2 fun (out_2 : List Int) (x_3 : Int) => ⟨[(0, Pt 1 0), (2, I region0), (7, .b (.row 102)), (10, .b (.one (.sl 1 (bodies0.map eI)))), (11, I (bodies0.length : Int)), (12, I x_3)], [(1, .xbox 95 [.one (.i n0r.Me), .one (.i n0r.Regions), .one (.i n0r.Step), .one (.sl 1 (n0r.Home.map eI)), .one (.sl 1 (n0r.Heard.map eB)), .one (.sl 1 (n0r.Sets.map (eL 1 eI))), .one (.sl 1 (n0r.States.map eS)), .one (.sl 3 (n0r.Tasks.map eTask)), .row 3, .row 4, .row 2]), (2, .row 42 7 (n0out.map eNotice)), (3, .row 4 1 (n0r.Done.map eB)), (4, .row 9 1 (n0r.Results.map eS)), (102, .row 3 1 (out_2.map eI))]⟩) [0, 2, 7, 10, 11, 12] [1, 2, 3, 4, 102] rfl ?_)))
  rintro ⟨out_2, x_3⟩ o3 h4 hy5
  refine Tri.seq (Tri.regionL ?_)
  refine Oc (op_lss rfl rfl) (OpsL.nilS ⟨[(0, _), (2, _), (7, _), (10, _), (11, _), (12, _), (13, B (decide (x_3 < (bodies0.length : Int))))], [(1, _), (2, _), (3, _), (4, _), (102, _)]⟩ rfl (Tri.seq (Tri.ite h4 rfl (fun _ h4 => ?_) (fun _ h4 => ?_))))
  ·refine Tri.skip (Fin.keepS ⟨[(0, _), (2, _), (7, _), (10, _), (11, _), (12, _)], [(1, _), (2, _), (3, _), (4, _), (102, _)]⟩ rfl (Fin.then ?_))
   obtain ⟨v6, h7, h4⟩ := bnd h4
   refine Tri.seqJ (v := v6) (fun (out_5 : List Int) => ⟨[(0, Pt 1 0), (2, I region0), (7, .b (.row 102)), (10, .b (.one (.sl 1 (bodies0.map eI)))), (11, I (bodies0.length : Int)), (12, I x_3)], [(1, .xbox 95 [.one (.i n0r.Me), .one (.i n0r.Regions), .one (.i n0r.Step), .one (.sl 1 (n0r.Home.map eI)), .one (.sl 1 (n0r.Heard.map eB)), .one (.sl 1 (n0r.Sets.map (eL 1 eI))), .one (.sl 1 (n0r.States.map eS)), .one (.sl 3 (n0r.Tasks.map eTask)), .row 3, .row 4, .row 2]), (2, .row 42 7 (n0out.map eNotice)), (3, .row 4 1 (n0r.Done.map eB)), (4, .row 9 1 (n0r.Results.map eS)), (102, .row 3 1 (out_5.map eI))]⟩) (fun z => z) ?_ ?_
   ·refine Tri.block (Tri.seq (Tri.regionL ?_))
    obtain ⟨x_6, e8, h7⟩ := bnd h7
    refine Oc (op_index_e tySl22 (ix_lo e8) (ix_map (e := eI) e8) rfl rfl) (Oc (op_load_e1 tyOne3 rfl rfl) (Oc oa ?_))
    refine OpsL.nilS ⟨[(0, _), (2, _), (7, _), (9, I x_6), (10, _), (11, _), (12, _)], [(1, _), (2, _), (3, _), (4, _), (102, _)]⟩ rfl (Tri.seq (Tri.regionL ?_))
    refine Oc om (Oc (op_nilCheck_p rfl) (Oc (op_field_p tyFld95_0 rfl rfl) (Oc (op_field_p tyFld31_3 rfl rfl) (Oc (op_load_x1 tyOne22 rfl rfl rfl) (Oc om ?_)))))
    obtain ⟨x_7, e9, h7⟩ := bnd h7
    refine Oc (op_index_e tySl22 (ix_lo e9) (ix_map (e := eI) e9) rfl rfl) (OpsL.keepS ⟨[(0, _), (2, _), (7, _), (9, _), (10, _), (11, _), (12, _), (22, .b (.eptr [.i x_7]))], [(1, _), (2, _), (3, _), (4, _), (102, _)]⟩ rfl (Oc (op_load_e1 tyOne3 rfl rfl) (Oc om (Oc (op_eql rfl rfl) ?_))))
    refine OpsL.nilS ⟨[(0, _), (2, _), (7, _), (9, _), (10, _), (11, _), (12, _), (25, B (decide (x_7 = region0)))], [(1, _), (2, _), (3, _), (4, _), (102, _)]⟩ rfl (Tri.ite h7 rfl (fun _ h7 => ?_) (fun _ h7 => ?_))
    ·refine Tri.regionL (Oc om (Oc om (Oc (op_buildSlice (k := 103) (es := [x_6].map eI) tySl22 rfl rfl (uni_map fun _ => rfl) rfl (by decide) (by decide) rfl) ?_)))
     obtain ⟨x_8, e10, h7⟩ := bnd h7
     refine Oc (op_append_r tySl22 (app_b e10) (app_m e10) rfl rfl rfl rfl (app_map e10) rfl) (Oc oa ?_)
     refine OpsL.nil (Fin.block_normal ?_)
     exact Fin.join [0, 2, 7, 10, 11, 12] [1, 2, 3, 4, 102] x_8 (Option.some.inj h7) rfl
    ·refine Tri.skip (Fin.block_normal ?_)
     exact Fin.join [0, 2, 7, 10, 11, 12] [1, 2, 3, 4, 102] out_2 (Option.some.inj h7) rfl
   ·rintro out_5 hv
    subst v6
    refine Tri.regionL (Oc (op_add rfl rfl) (Oc om ?_))
    refine OpsL.nil ?_
    exact Fin.againJ [0, 2, 7, 10, 11, 12] [1, 2, 3, 4, 102] (out_5, IntKind.i64.wrap (x_3 + 1)) (Option.some.inj h4) rfl
  ·refine Tri.exit (Fin.then_exit ?_)
   obtain rfl := hy5 _ (Option.some.inj h4).symm
   refine Fin.then_exit (Fin.block_exit ?_)
   exact Fin.join [7] [1, 2, 3, 4, 102] out_2 rfl rfl
 ·rintro out_1 hv
  subst v1
  refine Tri.seq (Tri.regionL ?_)
  refine Oc om (Oc oa ?_)
  refine OpsL.nilS ⟨[(6, .b (.row 102))], [(1, _), (2, _), (3, _), (4, _), (102, _)]⟩ rfl (Tri.ret ?_)
  obtain rfl := Option.some.inj h
  refine Fin.keepS ⟨[(6, .b (.row 102))], [(1, .xbox 95 [.one (.i n0r.Me), .one (.i n0r.Regions), .one (.i n0r.Step), .one (.sl 1 (n0r.Home.map eI)), .one (.sl 1 (n0r.Heard.map eB)), .one (.sl 1 (n0r.Sets.map (eL 1 eI))), .one (.sl 1 (n0r.States.map eS)), .one (.sl 3 (n0r.Tasks.map eTask)), .row 3, .row 4, .row 2]), (2, .row 42 7 (n0out.map eNotice)), (3, .row 4 1 (n0r.Done.map eB)), (4, .row 9 1 (n0r.Results.map eS)), (102, .row 3 1 (out_1.map eI))]⟩ rfl (Fin.rename 102 51 rfl (by decide) rfl (Fin.keepS ⟨[(6, .b (.row 51))], [(1, _), (2, _), (3, _), (4, _), (51, .row 3 1 (out_1.map eI))]⟩ rfl ?_))
  exact Fin.result [.row 51] (.inl rfl) rfl (.cons (.tmp rfl) .nil) ⟨rfl, rfl⟩
def owner_texts_S (F : Nat) (all0 : List Str) (bodies0 : List Int) : Option (List Str) :=
 Option.bind (iter F (un2 fun out_2 x_3 => if (decide (x_3 < (bodies0.length : Int))) = true then ((idx? bodies0 x_3).bind fun x_5 => (idx? all0 x_5).bind fun x_6 => (app? out_2 [x_6]).bind fun x_7 => some (.inl (x_7, IntKind.i64.wrap (x_3 + 1)))) else (some (.inr out_2))) ([], 0)) (fun out_1 => some out_1)
theorem owner_texts_spec (kr0 : Nat) {F : Nat} {all0 : List Str} {bodies0 : List Int} {r : (List Str)} (h : owner_texts_S F all0 bodies0 = some r) : Meets Try.prog [] 56 [] [.one (.sl 1 (all0.map eS)), .one (.sl 1 (bodies0.map eI))] (Is [(kr0, .row 9 1 (r.map eS))] (.b (.row kr0))) := by
 unfold owner_texts_S at h
 refine Meets.intro 23 Try.func56 Try.ntmps56 rfl (by simp) fun E => ?_
 show Tri _ E ⟨23, [], [], []⟩ _ ⟨[(0, .b (.one (.sl 1 (all0.map eS)))), (1, .b (.one (.sl 1 (bodies0.map eI))))], []⟩ _
 refine Tri.seq (Tri.regionL ?_)
 refine Oc oa (OpsL.nilS ⟨[(0, .b (.one (.sl 1 (all0.map eS)))), (1, .b (.one (.sl 1 (bodies0.map eI))))], []⟩ rfl (Tri.seq (Tri.regionL ?_)))
 refine Oc oa (OpsL.nilS ⟨[(0, _), (1, _), (5, .b (.one (.nil)))], []⟩ rfl ?_)
 obtain ⟨v1, h2, h⟩ := bnd h
 refine Tri.seqJ (v := v1) (fun (out_1 : List Str) => ⟨[(5, .b (.row 102))], [(102, .row 9 1 (out_1.map eS))]⟩) (fun z => z) ?_ ?_
 ·refine Tri.seq (Tri.regionL ?_)
  refine Oc om (Oc (op_len_e' und22 rfl (List.length_map _)) (Oc om ?_))
  refine OpsL.nilS ⟨[(0, _), (5, _), (8, .b (.one (.sl 1 (bodies0.map eI)))), (9, I (bodies0.length : Int)), (10, I 0)], []⟩ rfl (Tri.block (Tri.nilrow 5 102 1 9 rfl (by decide) rfl (Tri.loopJ h2 (un2 fun (out_2 : List Str) (x_3 : Int) => ⟨[(0, .b (.one (.sl 1 (all0.map eS)))), (5, .b (.row 102)), (8, .b (.one (.sl 1 (bodies0.map eI)))), (9, I (bodies0.length : Int)), (10, I x_3)], [(102, .row 9 1 (out_2.map eS))]⟩) [0, 5, 8, 9, 10] [102] rfl ?_)))
  rintro ⟨out_2, x_3⟩ o3 h4 hy5
  refine Tri.seq (Tri.regionL ?_)
  refine Oc (op_lss rfl rfl) (OpsL.nilS ⟨[(0, _), (5, _), (8, _), (9, _), (10, _), (11, B (decide (x_3 < (bodies0.length : Int))))], [(102, _)]⟩ rfl (Tri.seq (Tri.ite h4 rfl (fun _ h4 => ?_) (fun _ h4 => ?_))))
  ·refine Tri.skip (Fin.keepS ⟨[(0, _), (5, _), (8, _), (9, _), (10, _)], [(102, _)]⟩ rfl (Fin.then (Tri.seq (Tri.block (Tri.seq (Tri.regionL ?_))))))
   obtain ⟨x_5, e6, h4⟩ := bnd h4
   refine Oc (op_index_e tySl22 (ix_lo e6) (ix_map (e := eI) e6) rfl rfl) (Oc (op_load_e1 tyOne3 rfl rfl) (Oc oa ?_))
   refine OpsL.nilS ⟨[(0, _), (5, _), (7, I x_5), (8, _), (9, _), (10, _)], [(102, _)]⟩ rfl (Tri.regionL (Oc om (Oc om (Oc om ?_))))
   obtain ⟨x_6, e7, h4⟩ := bnd h4
   refine Oc (op_index_e tySl24 (ix_lo e7) (ix_map (e := eS) e7) rfl rfl) (Oc (op_load_e1 tyOne9 rfl rfl) (Oc (op_buildSlice (k := 103) (es := [x_6].map eS) tySl24 rfl rfl (uni_map fun _ => rfl) rfl (by decide) (by decide) rfl) ?_))
   obtain ⟨x_7, e8, h4⟩ := bnd h4
   refine Oc (op_append_r tySl24 (app_b e8) (app_m e8) rfl rfl rfl rfl (app_map e8) rfl) (Oc oa ?_)
   refine OpsL.nil (Fin.block_normal (Fin.keepS ⟨[(0, _), (5, _), (8, _), (9, _), (10, _)], [(102, .row 9 1 (x_7.map eS))]⟩ rfl (Fin.then (Tri.regionL ?_))))
   refine Oc (op_add rfl rfl) (Oc om ?_)
   refine OpsL.nil ?_
   exact Fin.againJ [0, 5, 8, 9, 10] [102] (x_7, IntKind.i64.wrap (x_3 + 1)) (Option.some.inj h4) rfl
  ·refine Tri.exit (Fin.then_exit ?_)
   obtain rfl := hy5 _ (Option.some.inj h4).symm
   refine Fin.then_exit (Fin.block_exit ?_)
   exact Fin.join [5] [102] out_2 rfl rfl
 ·rintro out_1 hv
  subst v1
  refine Tri.seq (Tri.regionL ?_)
  refine Oc om (Oc oa ?_)
  refine OpsL.nilS ⟨[(4, .b (.row 102))], [(102, _)]⟩ rfl (Tri.ret ?_)
  obtain rfl := Option.some.inj h
  refine Fin.keepS ⟨[(4, _)], [(102, _)]⟩ rfl (Fin.resultK 102 kr0 [.row 102] (.inl rfl) rfl (.cons (.tmp rfl) .nil) rfl rfl rfl rfl ⟨rfl, rfl⟩)
def owner_node_plan_S (F : Nat) (n0r : Round) (n0out : List Notice) : Option (Round × (List Notice)) :=
 (slices_Contains_S F n0r.Heard false).bind fun x_1 => if x_1 = true then (some (n0r, n0out)) else ((owner_tasks_S F n0r.Home n0r.Sets).bind fun x_2 => Option.bind (mk? (false : Bool) (x_2.length : Int) (x_2.length : Int)) (fun x_3 => Option.bind (iter F (un2 fun out_4 x_5 => if (decide (x_5 < (x_2.length : Int))) = true then (Option.bind ((idx? x_2 x_5).bind fun x_8 => (owner_node_of_S F x_8.Bodies n0r.Me (⟨n0r.Me, n0r.Regions, n0r.Step, n0r.Home, n0r.Heard, n0r.Sets, n0r.States, x_2, x_3, n0r.Results⟩ : Round) out_4).bind fun x_9 => if ((decide (x_8.Owner ≠ n0r.Me)) && (decide (0 < (x_9.length : Int)))) = true then ((owner_texts_S F n0r.States x_9).bind fun x_10 => (owner_node_send_S F (⟨2, 0, 0, x_8.Owner, [], x_9, x_10⟩ : Notice) (⟨n0r.Me, n0r.Regions, n0r.Step, n0r.Home, n0r.Heard, n0r.Sets, n0r.States, x_2, x_3, n0r.Results⟩ : Round) out_4).bind fun x_11 => some x_11) else (some out_4)) (fun out_7 => some (.inl (out_7, IntKind.i64.wrap (x_5 + 1))))) else (some (.inr out_4))) (n0out, 0)) (fun out_6 => some ((⟨n0r.Me, n0r.Regions, n0r.Step, n0r.Home, n0r.Heard, n0r.Sets, n0r.States, x_2, x_3, n0r.Results⟩ : Round), out_6))))
theorem owner_node_plan_spec {F : Nat} {n0r : Round} {n0out : List Notice} {r : Round × (List Notice)} (h : owner_node_plan_S F n0r n0out = some r) : Meets Try.prog [] 44 [(1, .xbox 95 [.one (.i n0r.Me), .one (.i n0r.Regions), .one (.i n0r.Step), .one (.sl 1 (n0r.Home.map eI)), .one (.sl 1 (n0r.Heard.map eB)), .one (.sl 1 (n0r.Sets.map (eL 1 eI))), .one (.sl 1 (n0r.States.map eS)), .one (.sl 3 (n0r.Tasks.map eTask)), .one (.sl 1 (n0r.Done.map eB)), .one (.sl 1 (n0r.Results.map eS)), .row 2]), (2, .row 42 7 (n0out.map eNotice))] [.ptr 1 0] (Is [(1, .xbox 95 [.one (.i r.1.Me), .one (.i r.1.Regions), .one (.i r.1.Step), .one (.sl 1 (r.1.Home.map eI)), .one (.sl 1 (r.1.Heard.map eB)), .one (.sl 1 (r.1.Sets.map (eL 1 eI))), .one (.sl 1 (r.1.States.map eS)), .one (.sl 3 (r.1.Tasks.map eTask)), .one (.sl 1 (r.1.Done.map eB)), .one (.sl 1 (r.1.Results.map eS)), .row 2]), (2, .row 42 7 (r.2.map eNotice))] (.tup [])) := by
 unfold owner_node_plan_S at h
 refine Meets.intro 83 Try.func44 Try.ntmps44 rfl (by simp) fun E => ?_
 show Tri _ E ⟨83, [1], [1, 2], []⟩ _ ⟨[(0, Pt 1 0)], [(1, .xbox 95 [.one (.i n0r.Me), .one (.i n0r.Regions), .one (.i n0r.Step), .one (.sl 1 (n0r.Home.map eI)), .one (.sl 1 (n0r.Heard.map eB)), .one (.sl 1 (n0r.Sets.map (eL 1 eI))), .one (.sl 1 (n0r.States.map eS)), .one (.sl 3 (n0r.Tasks.map eTask)), .one (.sl 1 (n0r.Done.map eB)), .one (.sl 1 (n0r.Results.map eS)), .row 2]), (2, .row 42 7 (n0out.map eNotice))]⟩ _
 refine Tri.seq (Tri.seq (Tri.regionL ?_))
 refine Oc om (Oc (op_nilCheck_p rfl) (Oc (op_field_p tyFld95_0 rfl rfl) (Oc (op_field_p tyFld31_4 rfl rfl) (Oc (op_load_x1 tyOne28 rfl rfl rfl) ?_))))
 obtain ⟨x_1, e1, h⟩ := bnd h
 refine Oc (op_call0 (slices_Contains_spec e1) goes68 rfl rfl) (OpsL.nilS ⟨[(0, Pt 1 0), (10, B x_1)], [(1, .xbox 95 [.one (.i n0r.Me), .one (.i n0r.Regions), .one (.i n0r.Step), .one (.sl 1 (n0r.Home.map eI)), .one (.sl 1 (n0r.Heard.map eB)), .one (.sl 1 (n0r.Sets.map (eL 1 eI))), .one (.sl 1 (n0r.States.map eS)), .one (.sl 3 (n0r.Tasks.map eTask)), .one (.sl 1 (n0r.Done.map eB)), .one (.sl 1 (n0r.Results.map eS)), .row 2]), (2, .row 42 7 (n0out.map eNotice))]⟩ rfl (Tri.ite h rfl (fun _ h => ?_) (fun _ h => ?_)))
 ·refine Tri.ret (Fin.then_ret ?_)
  obtain rfl := Option.some.inj h
  refine Fin.keepS ⟨[], [(1, _), (2, _)]⟩ rfl ?_
  exact Fin.result [] (.inl rfl) rfl (.nil) ⟨rfl, rfl⟩
 ·refine Tri.skip (Fin.keepS ⟨[(0, _)], [(1, _), (2, _)]⟩ rfl (Fin.then (Tri.seq ?_)))
  refine Tri.keepS ⟨[(0, _)], [(1, _), (2, _)]⟩ rfl ?_
  obtain ⟨x_2, e2, h⟩ := bnd h
  refine Tri.regionY mixed 15 [Pt 1 0, Pt 1 0, Pt 1 0, Pt 1 0, Pt 1 3, .b (.one (.sl 1 (n0r.Home.map eI))), Pt 1 0, Pt 1 0, Pt 1 0, Pt 1 5, .b (.one (.sl 1 (n0r.Sets.map (eL 1 eI)))), .b (.one (.sl 3 (x_2.map eTask))), Pt 1 0, Pt 1 0, Pt 1 7] [0] [1, 2] (s' := ⟨[(0, _)], [(1, .xbox 95 [.one (.i n0r.Me), .one (.i n0r.Regions), .one (.i n0r.Step), .one (.sl 1 (n0r.Home.map eI)), .one (.sl 1 (n0r.Heard.map eB)), .one (.sl 1 (n0r.Sets.map (eL 1 eI))), .one (.sl 1 (n0r.States.map eS)), .one (.sl 3 (x_2.map eTask)), .one (.sl 1 (n0r.Done.map eB)), .one (.sl 1 (n0r.Results.map eS)), .row 2]), (2, _)]⟩) rfl ⟨fun _ => .p om, fun _ => .p om, fun _ => .p (op_nilCheck_p rfl), fun _ => .p (op_field_p tyFld95_0 rfl rfl), fun _ => .p (op_field_p tyFld31_3 rfl rfl), fun _ => .p (op_load_x1 tyOne22 rfl rfl rfl), fun _ => .p om, fun _ => .p (op_nilCheck_p rfl), fun _ => .p (op_field_p tyFld95_0 rfl rfl), fun _ => .p (op_field_p tyFld31_5 rfl rfl), fun _ => .p (op_load_x1 tyOne23 rfl rfl rfl), fun _ => .p (op_call0 (owner_tasks_spec 0 e2).persG goes70 rfl rfl), fun _ => .p (op_nilCheck_p rfl), fun _ => .p (op_field_p tyFld95_0 rfl rfl), fun _ => .p (op_field_p tyFld31_7 rfl rfl), trivial⟩ ⟨_, by exact .p (op_store_x1 tyOne29 rfl rfl rfl rfl (Nat.le_of_ble_eq_true rfl) rfl), rfl⟩ rfl (Tri.seq (Tri.regionL ?_))
  refine Oc om (Oc om (Oc (op_nilCheck_p rfl) (Oc (op_field_p tyFld95_0 rfl rfl) (Oc (op_field_p tyFld31_7 rfl rfl) (Oc (op_load_x1 tyOne29 rfl rfl rfl) ?_)))))
  refine OpsL.keepS ⟨[(0, _), (26, Pt 1 0), (31, .b (.one (.sl 3 (x_2.map eTask))))], [(1, _), (2, _)]⟩ rfl (Oc (op_len_e' und29 rfl (List.length_map _)) ?_)
  obtain ⟨x_3, e3, h⟩ := bnd h
  refine Oc (op_makeSlice (k := 102) (enc := eB) tySl28 e3 (by decide) (.cons .refl .nil) rfl rfl rfl) (Oc (op_nilCheck_p rfl) (Oc (op_field_p tyFld95_0 rfl rfl) (Oc (op_field_p tyFld31_8 rfl rfl) ?_)))
  refine OpsL.persist 102 rfl (Oc (op_store_x1 tyOne28 rfl rfl rfl rfl (Nat.le_of_ble_eq_true rfl) rfl) (OpsL.nilS ⟨[(0, Pt 1 0)], [(1, .xbox 95 [.one (.i n0r.Me), .one (.i n0r.Regions), .one (.i n0r.Step), .one (.sl 1 (n0r.Home.map eI)), .one (.sl 1 (n0r.Heard.map eB)), .one (.sl 1 (n0r.Sets.map (eL 1 eI))), .one (.sl 1 (n0r.States.map eS)), .one (.sl 3 (x_2.map eTask)), .one (.sl 1 (x_3.map eB)), .one (.sl 1 (n0r.Results.map eS)), .row 2]), (2, .row 42 7 (n0out.map eNotice))]⟩ rfl (Tri.seq (Tri.regionL ?_))))
  refine Oc om (Oc (op_nilCheck_p rfl) (Oc (op_field_p tyFld95_0 rfl rfl) (Oc (op_field_p tyFld31_7 rfl rfl) (Oc (op_load_x1 tyOne29 rfl rfl rfl) (Oc (op_len_e' und29 rfl (List.length_map _)) ?_)))))
  refine Oc om (OpsL.nilS ⟨[(0, _), (41, .b (.one (.sl 3 (x_2.map eTask)))), (42, I (x_2.length : Int)), (43, I 0)], [(1, _), (2, _)]⟩ rfl (Tri.block ?_))
  obtain ⟨v4, h5, h⟩ := bnd h
  refine Tri.loopJ h5 (un2 fun (out_4 : List Notice) (x_5 : Int) => ⟨[(0, Pt 1 0), (41, .b (.one (.sl 3 (x_2.map eTask)))), (42, I (x_2.length : Int)), (43, I x_5)], [(1, .xbox 95 [.one (.i n0r.Me), .one (.i n0r.Regions), .one (.i n0r.Step), .one (.sl 1 (n0r.Home.map eI)), .one (.sl 1 (n0r.Heard.map eB)), .one (.sl 1 (n0r.Sets.map (eL 1 eI))), .one (.sl 1 (n0r.States.map eS)), .one (.sl 3 (x_2.map eTask)), .one (.sl 1 (x_3.map eB)), .one (.sl 1 (n0r.Results.map eS)), .row 2]), (2, .row 42 7 (out_4.map eNotice))]⟩) [0, 41, 42, 43] [1, 2] rfl ?_
  rintro ⟨out_4, x_5⟩ o6 h7 hy8
  refine Tri.seq (Tri.regionL ?_)
  refine Oc (op_lss rfl rfl) (OpsL.nilS ⟨[(0, _), (41, _), (42, _), (43, _), (44, B (decide (x_5 < (x_2.length : Int))))], [(1, _), (2, _)]⟩ rfl (Tri.seq (Tri.ite h7 rfl (fun _ h7 => ?_) (fun _ h7 => ?_))))
  ·refine Tri.skip (Fin.keepS ⟨[(0, _), (41, _), (42, _), (43, _)], [(1, _), (2, _)]⟩ rfl (Fin.then ?_))
   obtain ⟨v9, h10, h7⟩ := bnd h7
   refine Tri.seqJ (v := v9) (fun (out_7 : List Notice) => ⟨[(0, Pt 1 0), (41, .b (.one (.sl 3 (x_2.map eTask)))), (42, I (x_2.length : Int)), (43, I x_5)], [(1, .xbox 95 [.one (.i n0r.Me), .one (.i n0r.Regions), .one (.i n0r.Step), .one (.sl 1 (n0r.Home.map eI)), .one (.sl 1 (n0r.Heard.map eB)), .one (.sl 1 (n0r.Sets.map (eL 1 eI))), .one (.sl 1 (n0r.States.map eS)), .one (.sl 3 (x_2.map eTask)), .one (.sl 1 (x_3.map eB)), .one (.sl 1 (n0r.Results.map eS)), .row 2]), (2, .row 42 7 (out_7.map eNotice))]⟩) (fun z => z) ?_ ?_
   ·refine Tri.block (Tri.seq (Tri.regionL ?_))
    obtain ⟨x_8, e11, h10⟩ := bnd h10
    refine Oc (op_index_e tySl29 (ix_lo e11) (ix_map (e := eTask) e11) rfl rfl) (Oc (op_load_e tyAgg59 rfl rfl rfl) (Oc (op_alloc (k := 103) tyZero59 rfl) (Oc (op_store_p tyAgg59 rfl rfl rfl rfl (Nat.le_of_ble_eq_true rfl) rfl) ?_)))
    refine OpsL.nilS ⟨[(0, _), (3, Pt 103 0), (41, _), (42, _), (43, _)], [(1, _), (2, _), (103, .box 59 (eTask x_8))]⟩ rfl (Tri.seq ?_)
    obtain ⟨x_9, e12, h10⟩ := bnd h10
    refine Tri.regionY mixed 8 [Pt 1 0, Pt 103 1, .b (.one (.sl 1 (x_8.Bodies.map eI))), Pt 1 0, Pt 1 0, Pt 1 0, Pt 1 0, I n0r.Me] [0, 3, 4, 41, 42, 43] [1, 2, 103, 104] (s' := ⟨[(0, _), (3, _), (4, .b (.row 104)), (41, _), (42, _), (43, _)], [(1, _), (2, _), (103, _), (104, .row 3 1 (x_9.map eI))]⟩) rfl ⟨fun _ => .p om, fun _ => .p (op_field_p tyFld59_1 rfl rfl), fun _ => .p (op_load_p1 tyOne22 rfl rfl rfl), fun _ => .p om, fun _ => .p (op_nilCheck_p rfl), fun _ => .p (op_field_p tyFld95_0 rfl rfl), fun _ => .p (op_field_p tyFld31_0 rfl rfl), fun _ => .p (op_load_x1 tyOne3 rfl rfl rfl), trivial⟩ ⟨_, by exact .p (op_call (own_a := [(1, _), (2, _)]) ((owner_node_of_spec e12).sw 51 104) goes55 rfl ⟨rfl, rfl, trivial⟩ rfl rfl), ⟨_, by exact .p oa, rfl⟩⟩ rfl (Tri.seq (Tri.keepS ⟨[(0, _), (3, _), (4, _), (41, _), (42, _), (43, _)], [(1, _), (2, _), (103, _), (104, _)]⟩ rfl (Tri.regionY mixed 13 [Pt 103 0, I x_8.Owner, Pt 1 0, Pt 1 0, Pt 1 0, Pt 1 0, I n0r.Me, B (decide (x_8.Owner ≠ n0r.Me)), B (decide (x_8.Owner ≠ n0r.Me)), .opt (decide (x_8.Owner ≠ n0r.Me)) (.row 104), .opt (decide (x_8.Owner ≠ n0r.Me)) (.one (.i (x_9.length : Int))), .opt (decide (x_8.Owner ≠ n0r.Me)) (.one (.bool (decide (0 < (x_9.length : Int))))), B ((decide (x_8.Owner ≠ n0r.Me)) && (decide (0 < (x_9.length : Int))))] [0, 3, 4, 41, 42, 43, 68] [1, 2, 103, 104] (s' := ⟨[(0, _), (3, _), (4, _), (41, _), (42, _), (43, _), (68, B ((decide (x_8.Owner ≠ n0r.Me)) && (decide (0 < (x_9.length : Int)))))], [(1, _), (2, _), (103, _), (104, _)]⟩) rfl ⟨fun _ => .p (op_field_p tyFld59_0 rfl rfl), fun _ => .p (op_load_p1 tyOne3 rfl rfl rfl), fun _ => .p om, fun _ => .p (op_nilCheck_p rfl), fun _ => .p (op_field_p tyFld95_0 rfl rfl), fun _ => .p (op_field_p tyFld31_0 rfl rfl), fun _ => .p (op_load_x1 tyOne3 rfl rfl rfl), fun _ => .p (op_neq rfl rfl), fun _ => .p om, fun _ => by exact .guard (decide (x_8.Owner ≠ n0r.Me)) 1 [] (.plain rfl) (eq_t _) rfl rfl (fun g13 => trivial) (fun g13 => om), fun _ => by exact .guard (decide (x_8.Owner ≠ n0r.Me)) 2 [65] (.plain rfl) (eq_t _) rfl rfl (fun g14 => ⟨g14, trivial⟩) (fun g14 => op_len_r' und22 rfl rfl (List.length_map _)), fun _ => by exact .guard (decide (x_8.Owner ≠ n0r.Me)) 2 [66] (.plain rfl) (eq_t _) rfl rfl (fun g15 => ⟨g15, trivial⟩) (fun g15 => op_gtr rfl rfl), fun _ => .p (op_pick_and (fun e => e) rfl rfl rfl rfl), trivial⟩ rfl rfl ?_)))
    refine Tri.ite h10 rfl (fun _ h10 => ?_) (fun _ h10 => ?_)
    ·refine Tri.persist 104 rfl (Tri.keepS ⟨[(0, Pt 1 0), (3, Pt 103 0), (4, .b (.one (.sl 1 (x_9.map eI)))), (41, .b (.one (.sl 3 (x_2.map eTask)))), (42, I (x_2.length : Int)), (43, I x_5)], [(1, .xbox 95 [.one (.i n0r.Me), .one (.i n0r.Regions), .one (.i n0r.Step), .one (.sl 1 (n0r.Home.map eI)), .one (.sl 1 (n0r.Heard.map eB)), .one (.sl 1 (n0r.Sets.map (eL 1 eI))), .one (.sl 1 (n0r.States.map eS)), .one (.sl 3 (x_2.map eTask)), .one (.sl 1 (x_3.map eB)), .one (.sl 1 (n0r.Results.map eS)), .row 2]), (2, .row 42 7 (out_4.map eNotice)), (103, .box 59 (eTask x_8))]⟩ rfl ?_)
     obtain ⟨x_10, e16, h10⟩ := bnd h10
     obtain ⟨x_11, e17, h10⟩ := bnd h10
     refine Tri.regionYF mixed 12 [Pt 1 0, Pt 103 0, I x_8.Owner, .b (.one (.sl 1 (x_9.map eI))), Pt 1 0, Pt 1 0, Pt 1 0, Pt 1 6, .b (.one (.sl 1 (n0r.States.map eS))), .b (.one (.sl 1 (x_9.map eI))), .b (.one (.sl 1 (x_10.map eS))), .b (.agg [.i 2, .i 0, .i 0, .i x_8.Owner, .sl 1 ([].map (eL 1 eI)), .sl 1 (x_9.map eI), .sl 1 (x_10.map eS)])] [0, 41, 42, 43] [1, 2] (s' := ⟨[(0, _), (41, _), (42, _), (43, _)], [(1, _), (2, .row 42 7 (x_11.map eNotice))]⟩) rfl ⟨fun _ => .p om, fun _ => .p (op_field_p tyFld59_0 rfl rfl), fun _ => .p (op_load_p1 tyOne3 rfl rfl rfl), fun _ => .p om, fun _ => .p om, fun _ => .p (op_nilCheck_p rfl), fun _ => .p (op_field_p tyFld95_0 rfl rfl), fun _ => .p (op_field_p tyFld31_6 rfl rfl), fun _ => .p (op_load_x1 tyOne24 rfl rfl rfl), fun _ => .p om, fun _ => .p (op_call0 (owner_texts_spec 0 e16).persG goes56 rfl rfl), fun _ => .p (Op1.nilA (.same (.same (.same (.same (.sl (size := 1) (by decide) (.same (.same (.nil)))))))) (op_build tyBuild42 rfl rfl)), trivial⟩ ⟨_, by exact .p (op_call (own_a := [(1, _), (2, _)]) (owner_node_send_spec e17) goes43 rfl ⟨rfl, rfl, trivial⟩ rfl rfl), rfl⟩ rfl (Fin.block_normal ?_)
     exact Fin.join [0, 41, 42, 43] [1, 2] x_11 (Option.some.inj h10) rfl
    ·refine Tri.skip (Fin.block_normal ?_)
     exact Fin.join [0, 41, 42, 43] [1, 2] out_4 (Option.some.inj h10) rfl
   ·rintro out_7 hv
    subst v9
    refine Tri.regionL (Oc (op_add rfl rfl) (Oc om ?_))
    refine OpsL.nil ?_
    exact Fin.againJ [0, 41, 42, 43] [1, 2] (out_7, IntKind.i64.wrap (x_5 + 1)) (Option.some.inj h7) rfl
  ·refine Tri.exit (Fin.then_exit ?_)
   obtain rfl := hy8 _ (Option.some.inj h7).symm
   refine Fin.then_exit (Fin.block_exit ?_)
   obtain rfl := Option.some.inj h
   refine Fin.keepS ⟨[], [(1, _), (2, _)]⟩ rfl ?_
   exact Fin.result [] (.inr rfl) rfl (.nil) ⟨rfl, rfl⟩
def owner_Begin_S (F : Nat) (me0 : Int) (regions0 : Int) (step0 : Int) (home0 : List Int) (sets0 : List (List Int)) (states0 : List Str) : Option (Round × (List Notice) × Int) :=
 letN (((decide (regions0 < 1)) || (decide (16 < regions0))) || (decide (me0 < 0))) fun x_1 => (gcall (!((x_1 || (decide (regions0 ≤ me0))) || (decide (step0 < 0)))) (owner_isHome_S F home0 regions0)).bind fun x_2 => letN (((x_1 || (decide (regions0 ≤ me0))) || (decide (step0 < 0))) || (!x_2)) fun x_3 => (gcall (!x_3) (owner_isHoused_S F home0 sets0)).bind fun x_4 => letN ((x_3 || (!x_4)) || (decide ((states0.length : Int) ≠ (home0.length : Int)))) fun x_5 => if x_5 = true then (some ((⟨0, 0, 0, [], [], [], [], [], [], []⟩ : Round), [], 1)) else (Option.bind (iter F (fun x_6 => if (decide (x_6 < (home0.length : Int))) = true then ((idx? home0 x_6).bind fun x_7 => (idx? states0 x_6).bind fun x_8 => if ((decide (x_8 ≠ [])) != (decide (x_7 = me0))) = true then (some (.inr (.inr ((⟨0, 0, 0, [], [], [], [], [], [], []⟩ : Round), [], 1)))) else (some (.inl (IntKind.i64.wrap (x_6 + 1))))) else (some (.inr (.inl ())))) 0) (alt2 (fun _ => Option.bind (mk? (false : Bool) regions0 regions0) (fun x_9 => (island_Merge_S F [sets0]).bind fun x_10 => Option.bind (mk? ([] : Str) (home0.length : Int) (home0.length : Int)) (fun x_11 => (idx? x_9 me0).bind fun x_12 => Option.bind (iter F (un4 fun nf4_16 nf9_17 out_18 x_19 => if (decide (x_19 < regions0)) = true then (Option.bind (if (decide (x_19 ≠ me0)) = true then ((owner_node_send_S F (⟨1, 0, 0, x_19, x_10, [], []⟩ : Notice) (⟨me0, regions0, step0, home0, nf4_16, x_10, states0, [], [], nf9_17⟩ : Round) out_18).bind fun x_24 => some x_24) else (some out_18)) (fun out_23 => some (.inl (nf4_16, nf9_17, out_23, IntKind.i64.wrap (x_19 + 1))))) else (some (.inr (nf4_16, nf9_17, out_18)))) (x_9.set (me0 : Int).toNat true, x_11, [], 0)) (un3 fun nf4_13 nf9_14 out_15 => Option.bind (owner_node_plan_S F (⟨me0, regions0, step0, home0, nf4_13, x_10, states0, [], [], nf9_14⟩ : Round) out_15) (un2 fun x_25 x_26 => some (x_25, x_26, 0)))))) (fun y => some y)))
theorem owner_Begin_spec (kr0 : Nat) {F : Nat} {me0 : Int} {regions0 : Int} {step0 : Int} {home0 : List Int} {sets0 : List (List Int)} {states0 : List Str} {r : Round × (List Notice) × Int} (h : owner_Begin_S F me0 regions0 step0 home0 sets0 states0 = some r) : Meets Try.prog [] 11 [] [.one (.i me0), .one (.i regions0), .one (.i step0), .one (.sl 1 (home0.map eI)), .one (.sl 1 (sets0.map (eL 1 eI))), .one (.sl 1 (states0.map eS))] (Is [(kr0, .row 42 7 (r.2.1.map eNotice))] (.tup [.agg (eRound r.1), .row kr0, .one (.i r.2.2)])) := by
 unfold owner_Begin_S at h
 refine Meets.intro 126 Try.func11 Try.ntmps11 rfl (by simp) fun E => ?_
 show Tri _ E ⟨126, [], [], []⟩ _ ⟨[(0, I me0), (1, I regions0), (2, I step0), (3, .b (.one (.sl 1 (home0.map eI)))), (4, .b (.one (.sl 1 (sets0.map (eL 1 eI))))), (5, .b (.one (.sl 1 (states0.map eS))))], []⟩ _
 refine Tri.seq (Tri.regionL ?_)
 refine Oc (op_alloc (k := 101) tyZero31 rfl) (Oc oa (Oc oa ?_))
 refine OpsL.nilS ⟨[(0, I me0), (1, I regions0), (2, I step0), (3, .b (.one (.sl 1 (home0.map eI)))), (4, .b (.one (.sl 1 (sets0.map (eL 1 eI))))), (5, .b (.one (.sl 1 (states0.map eS)))), (12, Pt 101 0)], [(101, .box 31 [.i 0, .i 0, .i 0, .nil, .nil, .nil, .nil, .nil, .nil, .nil])]⟩ rfl (Tri.seq (Tri.seq (Tri.regionL ?_)))
 refine Oc om (Oc (op_lss rfl rfl) (Oc om ?_))
 refine CgF (!(decide (regions0 < 1))) [] (fun g1 => trivial) (fun g1 => om) (CgF (!(decide (regions0 < 1))) [22] (fun g2 => by exact ⟨g2, trivial⟩) (fun g2 => op_gtr rfl rfl) (Oc (op_pick_or (fun e => by first | (rw [e]; rfl) | (simp only at e; rw [e]; rfl)) rfl rfl rfl rfl) (Oc om ?_)))
 refine OpsL.keepS ⟨[(0, _), (1, _), (2, _), (3, _), (4, _), (5, _), (12, _), (25, B ((decide (regions0 < 1)) || (decide (16 < regions0))))], [(101, _)]⟩ rfl (CgF (!((decide (regions0 < 1)) || (decide (16 < regions0)))) [] (fun g3 => trivial) (fun g3 => om) (CgF (!((decide (regions0 < 1)) || (decide (16 < regions0)))) [26] (fun g4 => by exact ⟨g4, trivial⟩) (fun g4 => op_lss rfl rfl) (OpsL.consB h rfl (op_pick_or (fun e => by first | (rw [e]; rfl) | (simp only at e; rw [e]; rfl)) rfl rfl rfl rfl) (fun x_1 h => ?_))))
 refine Oc om (CgF (!x_1) [] (fun g5 => by exact trivial) (fun g5 => om) (CgF (!x_1) [] (fun g6 => by exact trivial) (fun g6 => om) (CgF (!x_1) [30, 31] (fun g7 => by exact ⟨g7, g7, trivial⟩) (fun g7 => op_geq rfl rfl) (Oc (op_pick_or (fun e => by first | (rw [e]; rfl) | (simp only at e; rw [e]; rfl)) rfl rfl rfl rfl) (OpsL.keepS ⟨[(0, _), (1, _), (2, _), (3, _), (4, _), (5, _), (12, _), (33, B (x_1 || (decide (regions0 ≤ me0))))], [(101, _)]⟩ rfl ?_)))))
 refine Oc om (CgF (!(x_1 || (decide (regions0 ≤ me0)))) [] (fun g8 => by exact trivial) (fun g8 => om) (CgF (!(x_1 || (decide (regions0 ≤ me0)))) [35] (fun g9 => by exact ⟨g9, trivial⟩) (fun g9 => op_lss rfl rfl) (Oc (op_pick_or (fun e => by first | (rw [e]; rfl) | (simp only at e; rw [e]; rfl)) rfl rfl rfl rfl) (Oc om ?_))))
 refine CgF (!((x_1 || (decide (regions0 ≤ me0))) || (decide (step0 < 0)))) [] (fun g10 => trivial) (fun g10 => om) (CgF (!((x_1 || (decide (regions0 ≤ me0))) || (decide (step0 < 0)))) [] (fun g11 => by exact trivial) (fun g11 => om) (OpsL.keepS ⟨[(0, _), (1, _), (2, _), (3, _), (4, _), (5, _), (12, _), (38, B ((x_1 || (decide (regions0 ≤ me0))) || (decide (step0 < 0)))), (39, .opt (!((x_1 || (decide (regions0 ≤ me0))) || (decide (step0 < 0)))) (.one (.sl 1 (home0.map eI)))), (40, .opt (!((x_1 || (decide (regions0 ≤ me0))) || (decide (step0 < 0)))) (.one (.i regions0)))], [(101, _)]⟩ rfl ?_))
 obtain ⟨x_2, e13, h⟩ := bnd h
 refine CgF (!((x_1 || (decide (regions0 ≤ me0))) || (decide (step0 < 0)))) [39, 40] (fun g12 => ⟨g12, g12, trivial⟩) (fun g12 => op_call0 (owner_isHome_spec (gc e13 g12)) goes41 rfl rfl) (CgF (!((x_1 || (decide (regions0 ≤ me0))) || (decide (step0 < 0)))) [41] (fun g14 => ⟨g14, trivial⟩) (fun g14 => op_not rfl) (OpsL.consB h rfl (op_pick_or (fun e => by first | (rw [e]; rfl) | (simp only at e; rw [e]; rfl)) rfl rfl rfl rfl) (fun x_3 h => ?_)))
 refine Oc om (CgF (!x_3) [] (fun g15 => by exact trivial) (fun g15 => om) (CgF (!x_3) [] (fun g16 => by exact trivial) (fun g16 => om) (OpsL.keepS ⟨[(0, _), (1, _), (2, _), (3, _), (4, _), (5, _), (12, _), (44, B x_3), (45, .opt (!x_3) (.one (.sl 1 (home0.map eI)))), (46, .opt (!x_3) (.one (.sl 1 (sets0.map (eL 1 eI)))))], [(101, _)]⟩ rfl ?_)))
 obtain ⟨x_4, e18, h⟩ := bnd h
 refine CgF (!x_3) [45, 46] (fun g17 => ⟨g17, g17, trivial⟩) (fun g17 => op_call0 (owner_isHoused_spec (gc e18 g17)) goes42 rfl rfl) (CgF (!x_3) [47] (fun g19 => ⟨g19, trivial⟩) (fun g19 => op_not rfl) (Oc (op_pick_or (fun e => by first | (rw [e]; rfl) | (simp only at e; rw [e]; rfl)) rfl rfl rfl rfl) (Oc om ?_)))
 refine CgF (!(x_3 || (!x_4))) [] (fun g20 => trivial) (fun g20 => om) (CgF (!(x_3 || (!x_4))) [51] (fun g21 => by exact ⟨g21, trivial⟩) (fun g21 => op_len_e' und24 rfl (List.length_map _)) (CgF (!(x_3 || (!x_4))) [] (fun g22 => by exact trivial) (fun g22 => om) (OpsL.keepS ⟨[(0, _), (1, _), (2, _), (3, _), (4, _), (5, _), (12, _), (50, B (x_3 || (!x_4))), (52, .opt (!(x_3 || (!x_4))) (.one (.i (states0.length : Int)))), (53, .opt (!(x_3 || (!x_4))) (.one (.sl 1 (home0.map eI))))], [(101, _)]⟩ rfl (CgF (!(x_3 || (!x_4))) [53] (fun g23 => by exact ⟨g23, trivial⟩) (fun g23 => op_len_e' und22 rfl (List.length_map _)) (CgF (!(x_3 || (!x_4))) [52, 54] (fun g24 => by exact ⟨g24, g24, trivial⟩) (fun g24 => op_neq rfl rfl) ?_)))))
 refine OpsL.consB h rfl (op_pick_or (fun e => by first | (rw [e]; rfl) | (simp only at e; rw [e]; rfl)) rfl rfl rfl rfl) (fun x_5 h => ?_)
 refine OpsL.nilS ⟨[(0, _), (1, _), (2, _), (3, _), (4, _), (5, _), (12, _), (56, B x_5)], [(101, _)]⟩ rfl (Tri.ite h rfl (fun _ h => ?_) (fun _ h => ?_))
 ·refine Tri.seq (Tri.regionL ?_)
  refine Oc (Op1.nilA (.same (.same (.same (.sl (size := 1) (by decide) (.same (.sl (size := 1) (by decide) (.sl (size := 1) (by decide) (.sl (size := 3) (by decide) (.sl (size := 1) (by decide) (.same (.nil))))))))))) (op_build tyBuild31 rfl rfl)) (Oc (op_store_p tyAgg31 rfl rfl rfl rfl (Nat.le_of_ble_eq_true rfl) rfl) (Oc oa (Oc oa ?_)))
  refine OpsL.nilS ⟨[(12, _), (13, .b (.one (.nil))), (14, I 1)], [(101, .box 31 [.i 0, .i 0, .i 0, .sl 1 ([].map eI), .nil, .sl 1 ([].map (eL 1 eI)), .sl 1 ([].map eS), .sl 3 ([].map eTask), .sl 1 ([].map eB), .nil])]⟩ rfl (Tri.ret (Fin.then_ret ?_))
  obtain rfl := Option.some.inj h
  refine Fin.keepS ⟨[(12, _), (13, _), (14, _)], [(101, _)]⟩ rfl (Fin.nilbox 101 4 1 rfl rfl (by decide) (Fin.nilbox 101 9 1 rfl rfl (by decide) (Fin.nilrow 13 102 7 42 rfl (by decide) rfl (Fin.resultK 102 kr0 [.agg [.i 0, .i 0, .i 0, .sl 1 ([].map eI), .sl 1 ([].map eB), .sl 1 ([].map (eL 1 eI)), .sl 1 ([].map eS), .sl 3 ([].map eTask), .sl 1 ([].map eB), .sl 1 ([].map eS)], .row 102, .one (.i 1)] (.inl rfl) rfl (.cons (.agg tyAgg31 rfl rfl rfl rfl) (.cons (.tmp rfl) (.cons (.tmp rfl) .nil))) rfl rfl rfl rfl ⟨rfl, rfl⟩))))
 ·refine Tri.skip (Fin.keepS ⟨[(0, _), (1, _), (2, _), (3, _), (4, _), (5, _), (12, _)], [(101, _)]⟩ rfl (Fin.then ?_))
  obtain ⟨v25, h26, h⟩ := bnd h
  refine Tri.seqJ (v := v25) (fun (_ : Unit) => ⟨[(0, I me0), (1, I regions0), (2, I step0), (3, .b (.one (.sl 1 (home0.map eI)))), (4, .b (.one (.sl 1 (sets0.map (eL 1 eI))))), (5, .b (.one (.sl 1 (states0.map eS)))), (12, Pt 101 0)], [(101, .box 31 [.i 0, .i 0, .i 0, .nil, .nil, .nil, .nil, .nil, .nil, .nil])]⟩) (fun z => .inl z) ?_ ?_
  ·refine Tri.seq (Tri.regionL ?_)
   refine Oc om (Oc (op_len_e' und22 rfl (List.length_map _)) (Oc om ?_))
   refine OpsL.nilS ⟨[(0, _), (1, _), (2, _), (3, _), (4, _), (5, _), (12, _), (58, .b (.one (.sl 1 (home0.map eI)))), (59, I (home0.length : Int)), (60, I 0)], [(101, _)]⟩ rfl (Tri.block (Tri.loopJ h26 (fun (x_6 : Int) => ⟨[(0, I me0), (1, I regions0), (2, I step0), (3, .b (.one (.sl 1 (home0.map eI)))), (4, .b (.one (.sl 1 (sets0.map (eL 1 eI))))), (5, .b (.one (.sl 1 (states0.map eS)))), (12, Pt 101 0), (58, .b (.one (.sl 1 (home0.map eI)))), (59, I (home0.length : Int)), (60, I x_6)], [(101, .box 31 [.i 0, .i 0, .i 0, .nil, .nil, .nil, .nil, .nil, .nil, .nil])]⟩) [0, 1, 2, 3, 4, 5, 12, 58, 59, 60] [101] rfl ?_))
   rintro x_6 o27 h28 hy29
   refine Tri.seq (Tri.regionL ?_)
   refine Oc (op_lss rfl rfl) (OpsL.nilS ⟨[(0, _), (1, _), (2, _), (3, _), (4, _), (5, _), (12, _), (58, _), (59, _), (60, _), (61, B (decide (x_6 < (home0.length : Int))))], [(101, _)]⟩ rfl (Tri.seq (Tri.ite h28 rfl (fun _ h28 => ?_) (fun _ h28 => ?_))))
   ·refine Tri.skip (Fin.keepS ⟨[(0, _), (1, _), (2, _), (3, _), (4, _), (5, _), (12, _), (58, _), (59, _), (60, _)], [(101, _)]⟩ rfl (Fin.then (Tri.seq (Tri.block (Tri.seq (Tri.regionL ?_))))))
    refine Oc om ?_
    obtain ⟨x_7, e30, h28⟩ := bnd h28
    refine Oc (op_index_e tySl22 (ix_lo e30) (ix_map (e := eI) e30) rfl rfl) (Oc (op_load_e1 tyOne3 rfl rfl) (Oc oa (Oc oa ?_)))
    refine OpsL.nilS ⟨[(0, _), (1, _), (2, _), (3, _), (4, _), (5, _), (12, _), (15, I x_6), (16, I x_7), (58, _), (59, _), (60, _)], [(101, _)]⟩ rfl (Tri.seq (Tri.regionL ?_))
    refine Oc om (Oc om ?_)
    obtain ⟨x_8, e31, h28⟩ := bnd h28
    refine Oc (op_index_e tySl24 (ix_lo e31) (ix_map (e := eS) e31) rfl rfl) (Oc (op_load_e1 tyOne9 rfl rfl) (Oc (op_neq_str rfl rfl) (Oc om (Oc om (Oc (op_eql rfl rfl) ?_)))))
    refine Oc (op_neq_bool und4 rfl rfl) (OpsL.nilS ⟨[(0, _), (1, _), (2, _), (3, _), (4, _), (5, _), (12, _), (58, _), (59, _), (60, _), (73, B ((decide (x_8 ≠ [])) != (decide (x_7 = me0))))], [(101, _)]⟩ rfl (Tri.ite h28 rfl (fun _ h28 => ?_) (fun _ h28 => ?_)))
    ·refine Tri.seq (Tri.regionL ?_)
     refine Oc (Op1.nilA (.same (.same (.same (.sl (size := 1) (by decide) (.same (.sl (size := 1) (by decide) (.sl (size := 1) (by decide) (.sl (size := 3) (by decide) (.sl (size := 1) (by decide) (.same (.nil))))))))))) (op_build tyBuild31 rfl rfl)) (Oc (op_store_p tyAgg31 rfl rfl rfl rfl (Nat.le_of_ble_eq_true rfl) rfl) (Oc oa (Oc oa ?_)))
     refine OpsL.nilS ⟨[(12, _), (13, .b (.one (.nil))), (14, I 1)], [(101, .box 31 [.i 0, .i 0, .i 0, .sl 1 ([].map eI), .nil, .sl 1 ([].map (eL 1 eI)), .sl 1 ([].map eS), .sl 3 ([].map eTask), .sl 1 ([].map eB), .nil])]⟩ rfl (Tri.ret (Fin.block_ret (Fin.then_ret ?_)))
     obtain rfl := hy29 _ (Option.some.inj h28).symm
     refine Fin.then_ret (Fin.block_ret (Fin.then_ret ?_))
     obtain rfl := Option.some.inj h
     refine Fin.keepS ⟨[(12, _), (13, _), (14, _)], [(101, _)]⟩ rfl (Fin.nilbox 101 4 1 rfl rfl (by decide) (Fin.nilbox 101 9 1 rfl rfl (by decide) (Fin.nilrow 13 103 7 42 rfl (by decide) rfl (Fin.resultK 103 kr0 [.agg [.i 0, .i 0, .i 0, .sl 1 ([].map eI), .sl 1 ([].map eB), .sl 1 ([].map (eL 1 eI)), .sl 1 ([].map eS), .sl 3 ([].map eTask), .sl 1 ([].map eB), .sl 1 ([].map eS)], .row 103, .one (.i 1)] (.inl rfl) rfl (.cons (.agg tyAgg31 rfl rfl rfl rfl) (.cons (.tmp rfl) (.cons (.tmp rfl) .nil))) rfl rfl rfl rfl ⟨rfl, rfl⟩))))
    ·refine Tri.skip (Fin.block_normal (Fin.keepS ⟨[(0, _), (1, _), (2, _), (3, _), (4, _), (5, _), (12, _), (58, _), (59, _), (60, _)], [(101, _)]⟩ rfl (Fin.then (Tri.regionL ?_))))
     refine Oc (op_add rfl rfl) (Oc om ?_)
     refine OpsL.nil ?_
     exact Fin.againJ [0, 1, 2, 3, 4, 5, 12, 58, 59, 60] [101] (IntKind.i64.wrap (x_6 + 1)) (Option.some.inj h28) rfl
   ·refine Tri.exit (Fin.then_exit ?_)
    obtain rfl := hy29 _ (Option.some.inj h28).symm
    refine Fin.then_exit (Fin.block_exit ?_)
    exact Fin.join [0, 1, 2, 3, 4, 5, 12] [101] () rfl rfl
  ·rintro _ hv
   subst v25
   refine Tri.seq (Tri.keepS ⟨[(0, _), (1, _), (2, _), (3, _), (4, _), (5, _), (12, _)], [(101, _)]⟩ rfl ?_)
   obtain ⟨x_9, e32, h⟩ := bnd h
   obtain ⟨x_10, e33, h⟩ := bnd h
   obtain ⟨x_11, e34, h⟩ := bnd h
   refine Tri.regionW mixed [false, false, false, false, false, true, false, false, false, false, false, false, true, false, false, true, false] [I me0, I regions0, I step0, .b (.one (.sl 1 (home0.map eI))), I regions0, .b (.row 103), .b (.one (.sl 1 (sets0.map (eL 1 eI)))), .b (.one (.sl 1 ([sets0].map (eL 1 (eL 1 eI))))), .b (.one (.sl 1 (x_10.map (eL 1 eI)))), .b (.one (.sl 1 (states0.map eS))), .b (.one (.sl 1 (home0.map eI))), I (home0.length : Int), .b (.row 105), .xagg [.one (.i me0), .one (.i regions0), .one (.i step0), .one (.sl 1 (home0.map eI)), .row 103, .one (.sl 1 (x_10.map (eL 1 eI))), .one (.sl 1 (states0.map eS)), .one (.sl 3 ([].map eTask)), .one (.sl 1 ([].map eB)), .row 105], .xagg [.one (.i me0), .one (.i regions0), .one (.i step0), .one (.sl 1 (home0.map eI)), .row 103, .one (.sl 1 (x_10.map (eL 1 eI))), .one (.sl 1 (states0.map eS)), .one (.sl 3 ([].map eTask)), .one (.sl 1 ([].map eB)), .row 105, .one (.nil)], Pt 106 0, Pt 106 0] [⟨[false, false, false, false, false, false, false, false, false, false, false, false, false, false, false, false, false], [(0, I me0), (1, I regions0), (2, I step0), (3, .b (.one (.sl 1 (home0.map eI)))), (4, .b (.one (.sl 1 (sets0.map (eL 1 eI))))), (5, .b (.one (.sl 1 (states0.map eS)))), (12, Pt 101 0)], [(101, .box 31 [.i 0, .i 0, .i 0, .nil, .nil, .nil, .nil, .nil, .nil, .nil])], [true, true, true, true, true, true, true, true, true, true, true, true, true, true, true, true, true], [], [13, 14, 15, 16]⟩, ⟨[false, false, false, false, false, true, false, false, false, false, false, false, false, false, false, false, false], [(0, I me0), (1, I regions0), (2, I step0), (3, .b (.one (.sl 1 (home0.map eI)))), (4, .b (.one (.sl 1 (sets0.map (eL 1 eI))))), (5, .b (.one (.sl 1 (states0.map eS)))), (12, Pt 101 0)], [(101, .box 31 [.i 0, .i 0, .i 0, .nil, .nil, .nil, .nil, .nil, .nil, .nil]), (103, .row 4 1 (x_9.map eB))], [true, true, true, true, true, true, true, true, true, true, true, true, true, true, true, true, true], [4, 5], [13, 14, 15, 16]⟩, ⟨[false, false, false, false, false, false, false, false, false, false, false, false, true, false, false, false, false], [(0, I me0), (1, I regions0), (2, I step0), (3, .b (.one (.sl 1 (home0.map eI)))), (4, .b (.one (.sl 1 (sets0.map (eL 1 eI))))), (5, .b (.one (.sl 1 (states0.map eS)))), (12, Pt 101 0)], [(101, .box 31 [.i 0, .i 0, .i 0, .nil, .nil, .nil, .nil, .nil, .nil, .nil]), (105, .row 9 1 (x_11.map eS))], [true, true, true, true, true, true, true, true, true, true, true, true, true, true, true, true, true], [10, 11, 12], [13, 14, 15, 16]⟩, ⟨[false, false, false, false, false, true, false, false, false, false, false, false, true, false, false, false, false], [(0, I me0), (1, I regions0), (2, I step0), (3, .b (.one (.sl 1 (home0.map eI)))), (4, .b (.one (.sl 1 (sets0.map (eL 1 eI))))), (5, .b (.one (.sl 1 (states0.map eS)))), (12, Pt 101 0)], [(101, .box 31 [.i 0, .i 0, .i 0, .nil, .nil, .nil, .nil, .nil, .nil, .nil]), (103, .row 4 1 (x_9.map eB)), (105, .row 9 1 (x_11.map eS))], [true, true, true, true, true, true, true, true, true, true, true, true, true, true, true, true, true], [4, 5, 10, 11, 12], [16]⟩, ⟨[false, false, false, false, false, true, false, false, false, false, false, false, true, false, false, true, false], [(0, I me0), (1, I regions0), (2, I step0), (3, .b (.one (.sl 1 (home0.map eI)))), (4, .b (.one (.sl 1 (sets0.map (eL 1 eI))))), (5, .b (.one (.sl 1 (states0.map eS)))), (12, Pt 101 0)], [(101, .box 31 [.i 0, .i 0, .i 0, .nil, .nil, .nil, .nil, .nil, .nil, .nil]), (103, .row 4 1 (x_9.map eB)), (105, .row 9 1 (x_11.map eS)), (106, .xbox 95 [.one (.i me0), .one (.i regions0), .one (.i step0), .one (.sl 1 (home0.map eI)), .row 103, .one (.sl 1 (x_10.map (eL 1 eI))), .one (.sl 1 (states0.map eS)), .one (.sl 3 ([].map eTask)), .one (.sl 1 ([].map eB)), .row 105, .one (.nil)])], [true, true, true, true, true, true, true, true, true, true, true, true, true, true, true, true, true], [0, 1, 2, 3, 4, 5, 6, 7, 8, 9, 10, 11, 12, 13, 14, 15], []⟩] rfl (⟨by kernel_rfl, ⟨⟨I me0, fun _ => rfl, fun _ => .p (by exact op_move rfl)⟩, ⟨I regions0, fun _ => rfl, fun _ => .p (by exact op_move rfl)⟩, ⟨I step0, fun _ => rfl, fun _ => .p (by exact op_move rfl)⟩, ⟨.b (.one (.sl 1 (home0.map eI))), fun _ => rfl, fun _ => .p (by exact op_move rfl)⟩, ⟨I regions0, fun _ => rfl, fun _ => .p (by exact op_move rfl)⟩, ⟨_, [103], .b (.row 103), rfl, fun _ => rfl, rfl, rfl, fun _ => .toO [101, 103] (by exact .p (by exact op_makeSlice (k := 103) (enc := eB) tySl28 e32 (by decide) (.cons .refl .nil) rfl rfl rfl)) (by exact rfl)⟩, ⟨.b (.one (.sl 1 (sets0.map (eL 1 eI)))), fun _ => rfl, fun _ => .p (by exact op_move rfl)⟩, ⟨.b (.one (.sl 1 ([sets0].map (eL 1 (eL 1 eI))))), fun _ => rfl, fun _ => .p (by exact op_buildSliceP (es := [sets0].map (eL 1 (eL 1 eI))) tySl60 rfl rfl (uni_map fun _ => rfl) rfl (by decide) (by decide))⟩, ⟨.b (.one (.sl 1 (x_10.map (eL 1 eI)))), fun _ => rfl, fun _ => .p (by exact op_call0 (island_Merge_spec e33) goes31 rfl rfl)⟩, ⟨.b (.one (.sl 1 (states0.map eS))), fun _ => rfl, fun _ => .p (by exact op_move rfl)⟩, ⟨.b (.one (.sl 1 (home0.map eI))), fun _ => rfl, fun _ => .p (by exact op_move rfl)⟩, ⟨I (home0.length : Int), fun _ => rfl, fun _ => .p (by exact op_len_e' und22 rfl (List.length_map _))⟩, ⟨_, [105], .b (.row 105), rfl, fun _ => rfl, rfl, rfl, fun _ => .toO [101, 105] (by exact .p (by exact op_makeSlice (k := 105) (enc := eS) tySl24 e34 (by decide) (.cons .refl .nil) rfl rfl rfl)) (by exact rfl)⟩, trivial, trivial, trivial, trivial, trivial⟩, ⟨by kernel_rfl, ⟨⟨I me0, fun _ => rfl, fun _ => .p (by exact op_move rfl)⟩, ⟨I regions0, fun _ => rfl, fun _ => .p (by exact op_move rfl)⟩, ⟨I step0, fun _ => rfl, fun _ => .p (by exact op_move rfl)⟩, ⟨.b (.one (.sl 1 (home0.map eI))), fun _ => rfl, fun _ => .p (by exact op_move rfl)⟩, trivial, trivial, ⟨.b (.one (.sl 1 (sets0.map (eL 1 eI)))), fun _ => rfl, fun _ => .p (by exact op_move rfl)⟩, ⟨.b (.one (.sl 1 ([sets0].map (eL 1 (eL 1 eI))))), fun _ => rfl, fun _ => .p (by exact op_buildSliceP (es := [sets0].map (eL 1 (eL 1 eI))) tySl60 rfl rfl (uni_map fun _ => rfl) rfl (by decide) (by decide))⟩, ⟨.b (.one (.sl 1 (x_10.map (eL 1 eI)))), fun _ => rfl, fun _ => .p (by exact op_call0 (island_Merge_spec e33) goes31 rfl rfl)⟩, ⟨.b (.one (.sl 1 (states0.map eS))), fun _ => rfl, fun _ => .p (by exact op_move rfl)⟩, ⟨.b (.one (.sl 1 (home0.map eI))), fun _ => rfl, fun _ => .p (by exact op_move rfl)⟩, ⟨I (home0.length : Int), fun _ => rfl, fun _ => .p (by exact op_len_e' und22 rfl (List.length_map _))⟩, ⟨_, [105], .b (.row 105), rfl, fun _ => rfl, rfl, rfl, fun _ => .toO [101, 103, 105] (by exact .p (by exact op_makeSlice (k := 105) (enc := eS) tySl24 e34 (by decide) (.cons .refl .nil) rfl rfl rfl)) (by exact rfl)⟩, trivial, trivial, trivial, trivial, trivial⟩, ⟨by kernel_rfl, ⟨⟨I me0, fun _ => rfl, fun _ => .p (by exact op_move rfl)⟩, ⟨I regions0, fun _ => rfl, fun _ => .p (by exact op_move rfl)⟩, ⟨I step0, fun _ => rfl, fun _ => .p (by exact op_move rfl)⟩, ⟨.b (.one (.sl 1 (home0.map eI))), fun _ => rfl, fun _ => .p (by exact op_move rfl)⟩, ⟨I regions0, fun _ => rfl, fun _ => .p (by exact op_move rfl)⟩, ⟨_, [103], .b (.row 103), rfl, fun _ => rfl, rfl, rfl, fun _ => .toO [101, 103, 105] (by exact .p (by exact op_makeSlice (k := 103) (enc := eB) tySl28 e32 (by decide) (.cons .refl .nil) rfl rfl rfl)) (by exact rfl)⟩, ⟨.b (.one (.sl 1 (sets0.map (eL 1 eI)))), fun _ => rfl, fun _ => .p (by exact op_move rfl)⟩, ⟨.b (.one (.sl 1 ([sets0].map (eL 1 (eL 1 eI))))), fun _ => rfl, fun _ => .p (by exact op_buildSliceP (es := [sets0].map (eL 1 (eL 1 eI))) tySl60 rfl rfl (uni_map fun _ => rfl) rfl (by decide) (by decide))⟩, ⟨.b (.one (.sl 1 (x_10.map (eL 1 eI)))), fun _ => rfl, fun _ => .p (by exact op_call0 (island_Merge_spec e33) goes31 rfl rfl)⟩, ⟨.b (.one (.sl 1 (states0.map eS))), fun _ => rfl, fun _ => .p (by exact op_move rfl)⟩, trivial, trivial, trivial, trivial, trivial, trivial, trivial, trivial⟩, ⟨by kernel_rfl, ⟨⟨I me0, fun _ => rfl, fun _ => .p (by exact op_move rfl)⟩, ⟨I regions0, fun _ => rfl, fun _ => .p (by exact op_move rfl)⟩, ⟨I step0, fun _ => rfl, fun _ => .p (by exact op_move rfl)⟩, ⟨.b (.one (.sl 1 (home0.map eI))), fun _ => rfl, fun _ => .p (by exact op_move rfl)⟩, trivial, trivial, ⟨.b (.one (.sl 1 (sets0.map (eL 1 eI)))), fun _ => rfl, fun _ => .p (by exact op_move rfl)⟩, ⟨.b (.one (.sl 1 ([sets0].map (eL 1 (eL 1 eI))))), fun _ => rfl, fun _ => .p (by exact op_buildSliceP (es := [sets0].map (eL 1 (eL 1 eI))) tySl60 rfl rfl (uni_map fun _ => rfl) rfl (by decide) (by decide))⟩, ⟨.b (.one (.sl 1 (x_10.map (eL 1 eI)))), fun _ => rfl, fun _ => .p (by exact op_call0 (island_Merge_spec e33) goes31 rfl rfl)⟩, ⟨.b (.one (.sl 1 (states0.map eS))), fun _ => rfl, fun _ => .p (by exact op_move rfl)⟩, trivial, trivial, trivial, ⟨.xagg [.one (.i me0), .one (.i regions0), .one (.i step0), .one (.sl 1 (home0.map eI)), .row 103, .one (.sl 1 (x_10.map (eL 1 eI))), .one (.sl 1 (states0.map eS)), .one (.sl 3 ([].map eTask)), .one (.sl 1 ([].map eB)), .row 105], fun _ => rfl, fun _ => .p (by exact Op1.nilX (.same (.same (.same (.same (.same (.same (.same (.sl (size := 3) (by decide) (.sl (size := 1) (by decide) (.same (.nil))))))))))) (op_build_x tyBuild31 rfl rfl))⟩, ⟨.xagg [.one (.i me0), .one (.i regions0), .one (.i step0), .one (.sl 1 (home0.map eI)), .row 103, .one (.sl 1 (x_10.map (eL 1 eI))), .one (.sl 1 (states0.map eS)), .one (.sl 3 ([].map eTask)), .one (.sl 1 ([].map eB)), .row 105, .one (.nil)], fun _ => rfl, fun _ => .p (by exact op_build_x tyBuild95 rfl rfl)⟩, ⟨_, [106], Pt 106 0, rfl, fun _ => rfl, rfl, rfl, fun _ => .toO [101, 103, 105, 106] (by exact .p (by exact op_box_x (k := 106) rfl rfl rfl)) (by exact rfl)⟩, trivial, trivial⟩, ⟨by kernel_rfl, ⟨trivial, trivial, trivial, trivial, trivial, trivial, trivial, trivial, trivial, trivial, trivial, trivial, trivial, trivial, trivial, trivial, ⟨Pt 106 0, fun _ => rfl, fun _ => .p (by exact op_assign rfl)⟩, trivial⟩, trivial⟩⟩⟩⟩⟩) rfl rfl rfl [0, 1, 12, 17] [101, 103, 105, 106] (s' := ⟨[(0, _), (1, _), (12, _), (17, Pt 106 0)], [(101, _), (103, .row 4 1 (x_9.map eB)), (105, .row 9 1 (x_11.map eS)), (106, .xbox 95 [.one (.i me0), .one (.i regions0), .one (.i step0), .one (.sl 1 (home0.map eI)), .row 103, .one (.sl 1 (x_10.map (eL 1 eI))), .one (.sl 1 (states0.map eS)), .one (.sl 3 ([].map eTask)), .one (.sl 1 ([].map eB)), .row 105, .one (.nil)])]⟩) rfl ?_
   refine Tri.seq (Tri.regionL ?_)
   refine Oc om (Oc (op_nilCheck_p rfl) (Oc (op_field_p tyFld95_0 rfl rfl) (Oc (op_field_p tyFld31_4 rfl rfl) (Oc (op_load_x1 tyOne28 rfl rfl rfl) (Oc om ?_)))))
   obtain ⟨x_12, e35, h⟩ := bnd h
   refine Oc (op_index_r tySl28 (ix_lo e35) (ix_lt' e35) rfl rfl rfl rfl) (Oc (op_store_r1 (i := (me0 : Int).toNat) tyOne4 rfl rfl rfl rfl (ix_lt e35) (map_set _ _ _ _)) ?_)
   refine OpsL.nilS ⟨[(0, _), (1, _), (12, _), (17, _)], [(101, _), (103, .row 4 1 ((x_9.set (me0 : Int).toNat true).map eB)), (105, _), (106, _)]⟩ rfl ?_
   obtain ⟨v36, h37, h⟩ := bnd h
   refine Tri.seqJ (v := v36) (un3 fun (nf4_13 : List Bool) (nf9_14 : List Str) (out_15 : List Notice) => ⟨[(12, Pt 101 0), (17, Pt 106 0)], [(101, .box 31 [.i 0, .i 0, .i 0, .nil, .nil, .nil, .nil, .nil, .nil, .nil]), (106, .xbox 95 [.one (.i me0), .one (.i regions0), .one (.i step0), .one (.sl 1 (home0.map eI)), .one (.sl 1 (nf4_13.map eB)), .one (.sl 1 (x_10.map (eL 1 eI))), .one (.sl 1 (states0.map eS)), .one (.sl 3 ([].map eTask)), .one (.sl 1 ([].map eB)), .one (.sl 1 (nf9_14.map eS)), .row 107]), (107, .row 42 7 (out_15.map eNotice))]⟩) (fun z => z) ?_ ?_
   ·refine Tri.seq (Tri.regionL ?_)
    refine Oc om (Oc om ?_)
    refine OpsL.nilS ⟨[(0, I me0), (12, Pt 101 0), (17, Pt 106 0), (99, I regions0), (100, I 0)], [(101, .box 31 [.i 0, .i 0, .i 0, .nil, .nil, .nil, .nil, .nil, .nil, .nil]), (103, .row 4 1 ((x_9.set (me0 : Int).toNat true).map eB)), (105, .row 9 1 (x_11.map eS)), (106, .xbox 95 [.one (.i me0), .one (.i regions0), .one (.i step0), .one (.sl 1 (home0.map eI)), .row 103, .one (.sl 1 (x_10.map (eL 1 eI))), .one (.sl 1 (states0.map eS)), .one (.sl 3 ([].map eTask)), .one (.sl 1 ([].map eB)), .row 105, .one (.nil)])]⟩ rfl (Tri.block (Tri.persist 103 rfl (Tri.persist 105 rfl (Tri.nilrowX 106 10 107 7 42 rfl rfl (by decide) (by decide) rfl (Tri.loopJ h37 (un4 fun (nf4_16 : List Bool) (nf9_17 : List Str) (out_18 : List Notice) (x_19 : Int) => ⟨[(0, I me0), (12, Pt 101 0), (17, Pt 106 0), (99, I regions0), (100, I x_19)], [(101, .box 31 [.i 0, .i 0, .i 0, .nil, .nil, .nil, .nil, .nil, .nil, .nil]), (106, .xbox 95 [.one (.i me0), .one (.i regions0), .one (.i step0), .one (.sl 1 (home0.map eI)), .one (.sl 1 (nf4_16.map eB)), .one (.sl 1 (x_10.map (eL 1 eI))), .one (.sl 1 (states0.map eS)), .one (.sl 3 ([].map eTask)), .one (.sl 1 ([].map eB)), .one (.sl 1 (nf9_17.map eS)), .row 107]), (107, .row 42 7 (out_18.map eNotice))]⟩) [0, 12, 17, 99, 100] [101, 106, 107] rfl ?_)))))
    rintro ⟨nf4_16, nf9_17, out_18, x_19⟩ o38 h39 hy40
    refine Tri.seq (Tri.regionL ?_)
    refine Oc (op_lss rfl rfl) (OpsL.nilS ⟨[(0, _), (12, _), (17, _), (99, _), (100, _), (101, B (decide (x_19 < regions0)))], [(101, _), (106, _), (107, _)]⟩ rfl (Tri.seq (Tri.ite h39 rfl (fun _ h39 => ?_) (fun _ h39 => ?_))))
    ·refine Tri.skip (Fin.keepS ⟨[(0, _), (12, _), (17, _), (99, _), (100, _)], [(101, _), (106, _), (107, _)]⟩ rfl (Fin.then ?_))
     obtain ⟨v41, h42, h39⟩ := bnd h39
     refine Tri.seqJ (v := v41) (fun (out_23 : List Notice) => ⟨[(0, I me0), (12, Pt 101 0), (17, Pt 106 0), (99, I regions0), (100, I x_19)], [(101, .box 31 [.i 0, .i 0, .i 0, .nil, .nil, .nil, .nil, .nil, .nil, .nil]), (106, .xbox 95 [.one (.i me0), .one (.i regions0), .one (.i step0), .one (.sl 1 (home0.map eI)), .one (.sl 1 (nf4_16.map eB)), .one (.sl 1 (x_10.map (eL 1 eI))), .one (.sl 1 (states0.map eS)), .one (.sl 3 ([].map eTask)), .one (.sl 1 ([].map eB)), .one (.sl 1 (nf9_17.map eS)), .row 107]), (107, .row 42 7 (out_23.map eNotice))]⟩) (fun z => z) ?_ ?_
     ·refine Tri.block (Tri.seq (Tri.regionL ?_))
      refine Oc om (Oc oa ?_)
      refine OpsL.nilS ⟨[(0, _), (12, _), (17, _), (18, I x_19), (99, _), (100, _)], [(101, _), (106, _), (107, _)]⟩ rfl (Tri.seq (Tri.regionL ?_))
      refine Oc om (Oc om (Oc (op_neq rfl rfl) ?_))
      refine OpsL.nilS ⟨[(0, _), (12, _), (17, _), (18, _), (99, _), (100, _), (105, B (decide (x_19 ≠ me0)))], [(101, _), (106, _), (107, _)]⟩ rfl (Tri.ite h42 rfl (fun _ h42 => ?_) (fun _ h42 => ?_))
      ·refine Tri.regionL (Oc om (Oc om (Oc om (Oc (op_nilCheck_p rfl) (Oc (op_field_p tyFld95_0 rfl rfl) (Oc (op_field_p tyFld31_5 rfl rfl) ?_))))))
       refine Oc (op_load_x1 tyOne23 rfl rfl rfl) (Oc (Op1.nilA (.same (.same (.same (.same (.same (.sl (size := 1) (by decide) (.sl (size := 1) (by decide) (.nil)))))))) (op_build tyBuild42 rfl rfl)) ?_)
       obtain ⟨x_24, e43, h42⟩ := bnd h42
       refine Oc (op_call (own_a := [(106, _), (107, _)]) (((owner_node_send_spec e43).sw 1 106).sw 2 107) goes43 rfl ⟨rfl, rfl, trivial⟩ rfl rfl) (OpsL.nil (Fin.block_normal ?_))
       exact Fin.join [0, 12, 17, 99, 100] [101, 106, 107] x_24 (Option.some.inj h42) rfl
      ·refine Tri.skip (Fin.block_normal ?_)
       exact Fin.join [0, 12, 17, 99, 100] [101, 106, 107] out_18 (Option.some.inj h42) rfl
     ·rintro out_23 hv
      subst v41
      refine Tri.regionL (Oc (op_add rfl rfl) (Oc om ?_))
      refine OpsL.nil ?_
      exact Fin.againJ [0, 12, 17, 99, 100] [101, 106, 107] (nf4_16, nf9_17, out_23, IntKind.i64.wrap (x_19 + 1)) (Option.some.inj h39) rfl
    ·refine Tri.exit (Fin.then_exit ?_)
     obtain rfl := hy40 _ (Option.some.inj h39).symm
     refine Fin.then_exit (Fin.block_exit ?_)
     exact Fin.join [12, 17] [101, 106, 107] (nf4_16, nf9_17, out_18) rfl rfl
   ·rintro ⟨nf4_13, nf9_14, out_15⟩ hv
    subst v36
    refine Tri.seq (Tri.regionL ?_)
    refine Oc om ?_
    obtain ⟨⟨x_25, x_26⟩, e44, h⟩ := bnd h
    refine Oc (op_call (own_a := [(106, _), (107, _)]) (((owner_node_plan_spec e44).sw 1 106).sw 2 107) goes44 rfl ⟨rfl, rfl, trivial⟩ rfl rfl) (OpsL.nilS ⟨[(12, _), (17, _)], [(101, _), (106, .xbox 95 [.one (.i x_25.Me), .one (.i x_25.Regions), .one (.i x_25.Step), .one (.sl 1 (x_25.Home.map eI)), .one (.sl 1 (x_25.Heard.map eB)), .one (.sl 1 (x_25.Sets.map (eL 1 eI))), .one (.sl 1 (x_25.States.map eS)), .one (.sl 3 (x_25.Tasks.map eTask)), .one (.sl 1 (x_25.Done.map eB)), .one (.sl 1 (x_25.Results.map eS)), .row 107]), (107, .row 42 7 (x_26.map eNotice))]⟩ rfl (Tri.seq (Tri.regionW mixed [false, false, false, false, false, false, false, false, true, false, false] [Pt 106 0, Pt 106 0, Pt 106 0, .b (.agg (eRound x_25)), Pt 106 0, Pt 106 0, Pt 106 10, .b (.row 107), B true, .b (.row 107), I 0] [⟨[false, false, false, false, false, false, false, false, false, false, false], [(12, Pt 101 0), (17, Pt 106 0)], [(101, .box 31 [.i 0, .i 0, .i 0, .nil, .nil, .nil, .nil, .nil, .nil, .nil]), (106, .xbox 95 [.one (.i x_25.Me), .one (.i x_25.Regions), .one (.i x_25.Step), .one (.sl 1 (x_25.Home.map eI)), .one (.sl 1 (x_25.Heard.map eB)), .one (.sl 1 (x_25.Sets.map (eL 1 eI))), .one (.sl 1 (x_25.States.map eS)), .one (.sl 3 (x_25.Tasks.map eTask)), .one (.sl 1 (x_25.Done.map eB)), .one (.sl 1 (x_25.Results.map eS)), .row 107]), (107, .row 42 7 (x_26.map eNotice))], [true, true, true, true, true, true, true, true, true, true, true], [], [9, 10]⟩, ⟨[false, false, false, false, false, false, false, false, true, false, false], [(12, Pt 101 0), (17, Pt 106 0)], [(101, .box 31 (eRound x_25)), (106, .xbox 95 [.one (.i x_25.Me), .one (.i x_25.Regions), .one (.i x_25.Step), .one (.sl 1 (x_25.Home.map eI)), .one (.sl 1 (x_25.Heard.map eB)), .one (.sl 1 (x_25.Sets.map (eL 1 eI))), .one (.sl 1 (x_25.States.map eS)), .one (.sl 3 (x_25.Tasks.map eTask)), .one (.sl 1 (x_25.Done.map eB)), .one (.sl 1 (x_25.Results.map eS)), .row 107]), (107, .row 42 7 (x_26.map eNotice))], [true, true, true, true, true, true, true, true, true, true, true], [0, 1, 2, 3, 8], []⟩] rfl (⟨by kernel_rfl, ⟨⟨Pt 106 0, fun _ => rfl, fun _ => .p (by exact op_move rfl)⟩, ⟨Pt 106 0, fun _ => rfl, fun _ => .p (by exact op_nilCheck_p rfl)⟩, ⟨Pt 106 0, fun _ => rfl, fun _ => .p (by exact op_field_p tyFld95_0 rfl rfl)⟩, ⟨.b (.agg (eRound x_25)), fun _ => rfl, fun _ => .p (by exact op_load_xp tyAgg31 rfl rfl rfl rfl)⟩, ⟨Pt 106 0, fun _ => rfl, fun _ => .p (by exact op_move rfl)⟩, ⟨Pt 106 0, fun _ => rfl, fun _ => .p (by exact op_nilCheck_p rfl)⟩, ⟨Pt 106 10, fun _ => rfl, fun _ => .p (by exact op_field_p tyFld95_1 rfl rfl)⟩, ⟨.b (.row 107), fun _ => rfl, fun _ => .p (by exact op_load_x1 tyOne32 rfl rfl rfl)⟩, ⟨_, [], .b (.one .any), rfl, (fun e => by simp at e), rfl, rfl, fun _ => .toO [101, 106, 107] (by exact .p (by exact op_store_p tyAgg31 rfl rfl rfl rfl (Nat.le_of_ble_eq_true rfl) rfl)) (by exact rfl)⟩, trivial, trivial, trivial⟩, ⟨by kernel_rfl, ⟨trivial, trivial, trivial, trivial, ⟨Pt 106 0, fun _ => rfl, fun _ => .p (by exact op_move rfl)⟩, ⟨Pt 106 0, fun _ => rfl, fun _ => .p (by exact op_nilCheck_p rfl)⟩, ⟨Pt 106 10, fun _ => rfl, fun _ => .p (by exact op_field_p tyFld95_1 rfl rfl)⟩, ⟨.b (.row 107), fun _ => rfl, fun _ => .p (by exact op_load_x1 tyOne32 rfl rfl rfl)⟩, trivial, ⟨.b (.row 107), fun _ => rfl, fun _ => .p (by exact op_assign rfl)⟩, ⟨I 0, fun _ => rfl, fun _ => .p (by exact op_assign rfl)⟩, trivial⟩, trivial⟩⟩) rfl rfl rfl [12, 13, 14] [101, 107] (s' := ⟨[(12, _), (13, .b (.row 107)), (14, I 0)], [(101, .box 31 (eRound x_25)), (107, _)]⟩) rfl ?_)))
    refine Tri.ret ?_
    obtain rfl := Option.some.inj h
    refine Fin.keepS ⟨[(12, _), (13, _), (14, _)], [(101, _), (107, _)]⟩ rfl (Fin.resultK 107 kr0 [.agg (eRound x_25), .row 107, .one (.i 0)] (.inl rfl) rfl (.cons (.agg tyAgg31 rfl rfl rfl rfl) (.cons (.tmp rfl) (.cons (.tmp rfl) .nil))) rfl rfl rfl rfl ⟨rfl, rfl⟩)
def slices_Clone_S (F : Nat) (s0 : List Bool) : Option (List Bool) :=
 (app? [] s0).bind fun x_2 => some x_2
theorem slices_Clone_spec (kr0 : Nat) {F : Nat} {s0 : List Bool} {r : (List Bool)} (h : slices_Clone_S F s0 = some r) : Meets Try.prog [] 52 [] [.one (.sl 1 (s0.map eB))] (Is [(kr0, .row 4 1 (r.map eB))] (.b (.row kr0))) := by
 unfold slices_Clone_S at h
 refine Meets.intro 8 Try.func52 Try.ntmps52 rfl (by simp) fun E => ?_
 show Tri _ E ⟨8, [], [], []⟩ _ ⟨[(0, .b (.one (.sl 1 (s0.map eB))))], []⟩ _
 refine Tri.seq (Tri.regionL ?_)
 refine Oc oa (OpsL.nilS ⟨[(0, .b (.one (.sl 1 (s0.map eB))))], []⟩ rfl (Tri.seq (Tri.seq (Tri.regionL ?_))))
 refine Oc om (OpsL.eqnil_e und28 rfl (fun nb_1 hnb1 => ?_))
 refine OpsL.nilS ⟨[(0, _), (4, B nb_1)], []⟩ rfl (Tri.cond rfl (fun hc2 => ?_) (fun _ => ?_))
 ·
  obtain rfl : s0 = [] := by simpa using hnb1 hc2
  refine Tri.seq (Tri.regionL ?_)
  refine Oc oa (OpsL.nilS ⟨[(2, .b (.one (.nil)))], []⟩ rfl (Tri.ret (Fin.then_ret ?_)))
  obtain rfl : [] = r := by first | (simp [app?] at h; exact h) | (simp [app?] at h; exact h.symm)
  refine Fin.keepS ⟨[(2, _)], []⟩ rfl (Fin.nilrow 2 101 1 4 rfl (by decide) rfl (Fin.resultK 101 kr0 [.row 101] (.inl rfl) rfl (.cons (.tmp rfl) .nil) rfl rfl rfl rfl ⟨rfl, rfl⟩))
 ·refine Tri.skip (Fin.keepS ⟨[(0, _)], []⟩ rfl (Fin.then (Tri.seq (Tri.regionL ?_))))
  refine Oc (op_build0 (k := 101) tySl28 rfl) (Oc om ?_)
  obtain ⟨x_2, e3, h⟩ := bnd h
  refine Oc (op_append tySl28 (app_b e3) (app_m e3) rfl rfl rfl (app_map e3) rfl) (Oc oa ?_)
  refine OpsL.nilS ⟨[(2, .b (.row 101))], [(101, .row 4 1 (x_2.map eB))]⟩ rfl (Tri.ret ?_)
  obtain rfl := Option.some.inj h
  refine Fin.keepS ⟨[(2, _)], [(101, _)]⟩ rfl (Fin.resultK 101 kr0 [.row 101] (.inl rfl) rfl (.cons (.tmp rfl) .nil) rfl rfl rfl rfl ⟨rfl, rfl⟩)
def owner_node_sets_S (F : Nat) (l0 : Notice) (n0r : Round) (n0out : List Notice) : Option (Round × (List Notice)) :=
 (idx? n0r.Heard l0.From).bind fun x_1 => (gcall (!(x_1 || (decide (0 < (IntKind.i64.wrap ((l0.Bodies.length : Int) + (l0.States.length : Int))))))) (owner_isHoused_S F n0r.Home l0.Sets)).bind fun x_2 => if ((x_1 || (decide (0 < (IntKind.i64.wrap ((l0.Bodies.length : Int) + (l0.States.length : Int)))))) || (!x_2)) = true then (some (n0r, n0out)) else ((slices_Clone_S F n0r.Heard).bind fun x_3 => (idx? x_3 l0.From).bind fun x_4 => (island_Merge_S F [n0r.Sets, l0.Sets]).bind fun x_5 => Option.bind (owner_node_plan_S F (⟨n0r.Me, n0r.Regions, n0r.Step, n0r.Home, x_3.set (l0.From : Int).toNat true, x_5, n0r.States, n0r.Tasks, n0r.Done, n0r.Results⟩ : Round) n0out) (un2 fun x_6 x_7 => some (x_6, x_7)))
theorem owner_node_sets_spec {F : Nat} {l0 : Notice} {n0r : Round} {n0out : List Notice} {r : Round × (List Notice)} (h : owner_node_sets_S F l0 n0r n0out = some r) : Meets Try.prog [] 62 [(1, .xbox 95 [.one (.i n0r.Me), .one (.i n0r.Regions), .one (.i n0r.Step), .one (.sl 1 (n0r.Home.map eI)), .one (.sl 1 (n0r.Heard.map eB)), .one (.sl 1 (n0r.Sets.map (eL 1 eI))), .one (.sl 1 (n0r.States.map eS)), .one (.sl 3 (n0r.Tasks.map eTask)), .one (.sl 1 (n0r.Done.map eB)), .one (.sl 1 (n0r.Results.map eS)), .row 2]), (2, .row 42 7 (n0out.map eNotice))] [.ptr 1 0, .agg (eNotice l0)] (Is [(1, .xbox 95 [.one (.i r.1.Me), .one (.i r.1.Regions), .one (.i r.1.Step), .one (.sl 1 (r.1.Home.map eI)), .one (.sl 1 (r.1.Heard.map eB)), .one (.sl 1 (r.1.Sets.map (eL 1 eI))), .one (.sl 1 (r.1.States.map eS)), .one (.sl 3 (r.1.Tasks.map eTask)), .one (.sl 1 (r.1.Done.map eB)), .one (.sl 1 (r.1.Results.map eS)), .row 2]), (2, .row 42 7 (r.2.map eNotice))] (.tup [])) := by
 unfold owner_node_sets_S at h
 refine Meets.intro 67 Try.func62 Try.ntmps62 rfl (by simp) fun E => ?_
 show Tri _ E ⟨67, [1], [1, 2], []⟩ _ ⟨[(0, Pt 1 0), (1, .b (.agg (eNotice l0)))], [(1, .xbox 95 [.one (.i n0r.Me), .one (.i n0r.Regions), .one (.i n0r.Step), .one (.sl 1 (n0r.Home.map eI)), .one (.sl 1 (n0r.Heard.map eB)), .one (.sl 1 (n0r.Sets.map (eL 1 eI))), .one (.sl 1 (n0r.States.map eS)), .one (.sl 3 (n0r.Tasks.map eTask)), .one (.sl 1 (n0r.Done.map eB)), .one (.sl 1 (n0r.Results.map eS)), .row 2]), (2, .row 42 7 (n0out.map eNotice))]⟩ _
 refine Tri.seq (Tri.regionL ?_)
 refine Oc (op_box (k := 101) rfl rfl) (OpsL.nilS ⟨[(0, Pt 1 0), (3, Pt 101 0)], [(1, .xbox 95 [.one (.i n0r.Me), .one (.i n0r.Regions), .one (.i n0r.Step), .one (.sl 1 (n0r.Home.map eI)), .one (.sl 1 (n0r.Heard.map eB)), .one (.sl 1 (n0r.Sets.map (eL 1 eI))), .one (.sl 1 (n0r.States.map eS)), .one (.sl 3 (n0r.Tasks.map eTask)), .one (.sl 1 (n0r.Done.map eB)), .one (.sl 1 (n0r.Results.map eS)), .row 2]), (2, .row 42 7 (n0out.map eNotice)), (101, .box 42 (eNotice l0))]⟩ rfl (Tri.seq (Tri.seq ?_)))
 refine Tri.keepS ⟨[(0, _), (3, _)], [(1, _), (2, _), (101, _)]⟩ rfl ?_
 obtain ⟨x_1, e1, h⟩ := bnd h
 obtain ⟨x_2, e18, h⟩ := bnd h
 refine Tri.regionY mixed 30 [Pt 1 0, Pt 1 0, Pt 1 0, Pt 1 4, .b (.one (.sl 1 (n0r.Heard.map eB))), Pt 101 2, I l0.From, .b (.eptr [.bool x_1]), B x_1, B x_1, .opt (!x_1) (.ptr 101 5), .opt (!x_1) (.one (.sl 1 (l0.Bodies.map eI))), .opt (!x_1) (.one (.i (l0.Bodies.length : Int))), .opt (!x_1) (.ptr 101 6), .opt (!x_1) (.one (.sl 1 (l0.States.map eS))), .opt (!x_1) (.one (.i (l0.States.length : Int))), .opt (!x_1) (.one (.i (IntKind.i64.wrap ((l0.Bodies.length : Int) + (l0.States.length : Int))))), .opt (!x_1) (.one (.bool (decide (0 < (IntKind.i64.wrap ((l0.Bodies.length : Int) + (l0.States.length : Int))))))), B (x_1 || (decide (0 < (IntKind.i64.wrap ((l0.Bodies.length : Int) + (l0.States.length : Int)))))), B (x_1 || (decide (0 < (IntKind.i64.wrap ((l0.Bodies.length : Int) + (l0.States.length : Int)))))), .opt (!(x_1 || (decide (0 < (IntKind.i64.wrap ((l0.Bodies.length : Int) + (l0.States.length : Int))))))) (.ptr 1 0), .opt (!(x_1 || (decide (0 < (IntKind.i64.wrap ((l0.Bodies.length : Int) + (l0.States.length : Int))))))) (.ptr 1 0), .opt (!(x_1 || (decide (0 < (IntKind.i64.wrap ((l0.Bodies.length : Int) + (l0.States.length : Int))))))) (.ptr 1 0), .opt (!(x_1 || (decide (0 < (IntKind.i64.wrap ((l0.Bodies.length : Int) + (l0.States.length : Int))))))) (.ptr 1 3), .opt (!(x_1 || (decide (0 < (IntKind.i64.wrap ((l0.Bodies.length : Int) + (l0.States.length : Int))))))) (.one (.sl 1 (n0r.Home.map eI))), .opt (!(x_1 || (decide (0 < (IntKind.i64.wrap ((l0.Bodies.length : Int) + (l0.States.length : Int))))))) (.ptr 101 4), .opt (!(x_1 || (decide (0 < (IntKind.i64.wrap ((l0.Bodies.length : Int) + (l0.States.length : Int))))))) (.one (.sl 1 (l0.Sets.map (eL 1 eI)))), .opt (!(x_1 || (decide (0 < (IntKind.i64.wrap ((l0.Bodies.length : Int) + (l0.States.length : Int))))))) (.one (.bool x_2)), .opt (!(x_1 || (decide (0 < (IntKind.i64.wrap ((l0.Bodies.length : Int) + (l0.States.length : Int))))))) (.one (.bool (!x_2))), B ((x_1 || (decide (0 < (IntKind.i64.wrap ((l0.Bodies.length : Int) + (l0.States.length : Int)))))) || (!x_2))] [0, 3, 33] [1, 2, 101] (s' := ⟨[(0, _), (3, _), (33, B ((x_1 || (decide (0 < (IntKind.i64.wrap ((l0.Bodies.length : Int) + (l0.States.length : Int)))))) || (!x_2)))], [(1, _), (2, _), (101, _)]⟩) rfl ⟨fun _ => .p om, fun _ => .p (op_nilCheck_p rfl), fun _ => .p (op_field_p tyFld95_0 rfl rfl), fun _ => .p (op_field_p tyFld31_4 rfl rfl), fun _ => .p (op_load_x1 tyOne28 rfl rfl rfl), fun _ => .p (op_field_p tyFld42_2 rfl rfl), fun _ => .p (op_load_p1 tyOne3 rfl rfl rfl), fun _ => .p (op_index_e tySl28 (ix_lo e1) (ix_map (e := eB) e1) rfl rfl), fun _ => .p (op_load_e1 tyOne4 rfl rfl), fun _ => .p om, fun _ => by exact .guard (!x_1) 1 [] (.plain rfl) (eq_f _) rfl rfl (fun g2 => trivial) (fun g2 => op_field_p tyFld42_5 rfl rfl), fun _ => by exact .guard (!x_1) 2 [14] (.plain rfl) (eq_f _) rfl rfl (fun g3 => ⟨g3, trivial⟩) (fun g3 => op_load_p1 tyOne22 rfl rfl rfl), fun _ => by exact .guard (!x_1) 2 [15] (.plain rfl) (eq_f _) rfl rfl (fun g4 => ⟨g4, trivial⟩) (fun g4 => op_len_e' und22 rfl (List.length_map _)), fun _ => by exact .guard (!x_1) 1 [] (.plain rfl) (eq_f _) rfl rfl (fun g5 => trivial) (fun g5 => op_field_p tyFld42_6 rfl rfl), fun _ => by exact .guard (!x_1) 2 [17] (.plain rfl) (eq_f _) rfl rfl (fun g6 => ⟨g6, trivial⟩) (fun g6 => op_load_p1 tyOne24 rfl rfl rfl), fun _ => by exact .guard (!x_1) 2 [18] (.plain rfl) (eq_f _) rfl rfl (fun g7 => ⟨g7, trivial⟩) (fun g7 => op_len_e' und24 rfl (List.length_map _)), fun _ => by exact .guard (!x_1) 3 [16, 19] (.plain rfl) (eq_f _) rfl rfl (fun g8 => ⟨g8, g8, trivial⟩) (fun g8 => op_add rfl rfl), fun _ => by exact .guard (!x_1) 2 [20] (.plain rfl) (eq_f _) rfl rfl (fun g9 => ⟨g9, trivial⟩) (fun g9 => op_gtr rfl rfl), fun _ => .p (op_pick_or (fun e => by first | (rw [e]; rfl) | (simp only at e; rw [e]; rfl)) rfl rfl rfl rfl), fun _ => .p om, fun _ => by exact .guard (!(x_1 || (decide (0 < (IntKind.i64.wrap ((l0.Bodies.length : Int) + (l0.States.length : Int))))))) 1 [] (.plain rfl) (eq_f _) rfl rfl (fun g10 => trivial) (fun g10 => om), fun _ => by exact .guard (!(x_1 || (decide (0 < (IntKind.i64.wrap ((l0.Bodies.length : Int) + (l0.States.length : Int))))))) 2 [24] (.plain rfl) (eq_f _) rfl rfl (fun g11 => ⟨g11, trivial⟩) (fun g11 => op_nilCheck_p rfl), fun _ => by exact .guard (!(x_1 || (decide (0 < (IntKind.i64.wrap ((l0.Bodies.length : Int) + (l0.States.length : Int))))))) 2 [25] (.plain rfl) (eq_f _) rfl rfl (fun g12 => ⟨g12, trivial⟩) (fun g12 => op_field_p tyFld95_0 rfl rfl), fun _ => by exact .guard (!(x_1 || (decide (0 < (IntKind.i64.wrap ((l0.Bodies.length : Int) + (l0.States.length : Int))))))) 2 [26] (.plain rfl) (eq_f _) rfl rfl (fun g13 => ⟨g13, trivial⟩) (fun g13 => op_field_p tyFld31_3 rfl rfl), fun _ => by exact .guard (!(x_1 || (decide (0 < (IntKind.i64.wrap ((l0.Bodies.length : Int) + (l0.States.length : Int))))))) 2 [27] (.plain rfl) (eq_f _) rfl rfl (fun g14 => ⟨g14, trivial⟩) (fun g14 => op_load_x1 tyOne22 rfl rfl rfl), fun _ => by exact .guard (!(x_1 || (decide (0 < (IntKind.i64.wrap ((l0.Bodies.length : Int) + (l0.States.length : Int))))))) 1 [] (.plain rfl) (eq_f _) rfl rfl (fun g15 => trivial) (fun g15 => op_field_p tyFld42_4 rfl rfl), fun _ => by exact .guard (!(x_1 || (decide (0 < (IntKind.i64.wrap ((l0.Bodies.length : Int) + (l0.States.length : Int))))))) 2 [29] (.plain rfl) (eq_f _) rfl rfl (fun g16 => ⟨g16, trivial⟩) (fun g16 => op_load_p1 tyOne23 rfl rfl rfl), fun _ => by exact .guard (!(x_1 || (decide (0 < (IntKind.i64.wrap ((l0.Bodies.length : Int) + (l0.States.length : Int))))))) 4 [28, 30] (.plain rfl) (eq_f _) rfl rfl (fun g17 => ⟨g17, g17, trivial⟩) (fun g17 => op_call0 (owner_isHoused_spec (gc e18 g17)) goes42 rfl rfl), fun _ => by exact .guard (!(x_1 || (decide (0 < (IntKind.i64.wrap ((l0.Bodies.length : Int) + (l0.States.length : Int))))))) 2 [31] (.plain rfl) (eq_f _) rfl rfl (fun g19 => ⟨g19, trivial⟩) (fun g19 => op_not rfl), fun _ => .p (op_pick_or (fun e => by first | (rw [e]; rfl) | (simp only at e; rw [e]; rfl)) rfl rfl rfl rfl), trivial⟩ rfl rfl ?_
 refine Tri.ite h rfl (fun _ h => ?_) (fun _ h => ?_)
 ·refine Tri.ret (Fin.then_ret ?_)
  obtain rfl := Option.some.inj h
  refine Fin.keepS ⟨[], [(1, _), (2, _)]⟩ rfl ?_
  exact Fin.result [] (.inl rfl) rfl (.nil) ⟨rfl, rfl⟩
 ·refine Tri.skip (Fin.keepS ⟨[(0, _), (3, _)], [(1, _), (2, _), (101, _)]⟩ rfl (Fin.then (Tri.seq (Tri.regionL ?_))))
  refine Oc om (Oc om (Oc (op_nilCheck_p rfl) (Oc (op_field_p tyFld95_0 rfl rfl) (Oc (op_field_p tyFld31_4 rfl rfl) (Oc (op_load_x1 tyOne28 rfl rfl rfl) ?_)))))
  refine OpsL.keepS ⟨[(0, _), (3, _), (34, Pt 1 0), (39, .b (.one (.sl 1 (n0r.Heard.map eB))))], [(1, _), (2, _), (101, _)]⟩ rfl ?_
  obtain ⟨x_3, e20, h⟩ := bnd h
  refine Oc (op_call (slices_Clone_spec 102 e20) goes52 rfl trivial rfl rfl) (Oc (op_nilCheck_p rfl) (Oc (op_field_p tyFld95_0 rfl rfl) (Oc (op_field_p tyFld31_4 rfl rfl) (Oc (op_store_x1 tyOne28 rfl rfl rfl rfl (Nat.le_of_ble_eq_true rfl) rfl) ?_))))
  refine OpsL.nilS ⟨[(0, _), (3, _)], [(1, .xbox 95 [.one (.i n0r.Me), .one (.i n0r.Regions), .one (.i n0r.Step), .one (.sl 1 (n0r.Home.map eI)), .row 102, .one (.sl 1 (n0r.Sets.map (eL 1 eI))), .one (.sl 1 (n0r.States.map eS)), .one (.sl 3 (n0r.Tasks.map eTask)), .one (.sl 1 (n0r.Done.map eB)), .one (.sl 1 (n0r.Results.map eS)), .row 2]), (2, _), (101, _), (102, .row 4 1 (x_3.map eB))]⟩ rfl (Tri.seq ?_)
  obtain ⟨x_4, e21, h⟩ := bnd h
  refine Tri.regionY mixed 8 [Pt 1 0, Pt 1 0, Pt 1 0, Pt 1 4, .b (.row 102), Pt 101 2, I l0.From, .b (.rptr 102 ((l0.From : Int).toNat * 1))] [0, 3] [1, 2, 101, 102] (s' := ⟨[(0, _), (3, _)], [(1, _), (2, _), (101, _), (102, .row 4 1 ((x_3.set (l0.From : Int).toNat true).map eB))]⟩) rfl ⟨fun _ => .p om, fun _ => .p (op_nilCheck_p rfl), fun _ => .p (op_field_p tyFld95_0 rfl rfl), fun _ => .p (op_field_p tyFld31_4 rfl rfl), fun _ => .p (op_load_x1 tyOne28 rfl rfl rfl), fun _ => .p (op_field_p tyFld42_2 rfl rfl), fun _ => .p (op_load_p1 tyOne3 rfl rfl rfl), fun _ => .p (op_index_r tySl28 (ix_lo e21) (ix_lt' e21) rfl rfl rfl rfl), trivial⟩ ⟨_, by exact .p (op_store_r1 (i := (l0.From : Int).toNat) tyOne4 rfl rfl rfl rfl (ix_lt e21) (map_set _ _ _ _)), rfl⟩ rfl (Tri.seq (Tri.keepS ⟨[(0, _), (3, _)], [(1, _), (2, _), (101, _), (102, _)]⟩ rfl ?_))
  obtain ⟨x_5, e22, h⟩ := bnd h
  refine Tri.regionY mixed 13 [Pt 1 0, Pt 1 0, Pt 1 0, Pt 1 0, Pt 1 5, .b (.one (.sl 1 (n0r.Sets.map (eL 1 eI)))), Pt 101 4, .b (.one (.sl 1 (l0.Sets.map (eL 1 eI)))), .b (.one (.sl 1 ([n0r.Sets, l0.Sets].map (eL 1 (eL 1 eI))))), .b (.one (.sl 1 (x_5.map (eL 1 eI)))), Pt 1 0, Pt 1 0, Pt 1 5] [0] [1, 2, 102] (s' := ⟨[(0, Pt 1 0)], [(1, .xbox 95 [.one (.i n0r.Me), .one (.i n0r.Regions), .one (.i n0r.Step), .one (.sl 1 (n0r.Home.map eI)), .row 102, .one (.sl 1 (x_5.map (eL 1 eI))), .one (.sl 1 (n0r.States.map eS)), .one (.sl 3 (n0r.Tasks.map eTask)), .one (.sl 1 (n0r.Done.map eB)), .one (.sl 1 (n0r.Results.map eS)), .row 2]), (2, .row 42 7 (n0out.map eNotice)), (102, .row 4 1 ((x_3.set (l0.From : Int).toNat true).map eB))]⟩) rfl ⟨fun _ => .p om, fun _ => .p om, fun _ => .p (op_nilCheck_p rfl), fun _ => .p (op_field_p tyFld95_0 rfl rfl), fun _ => .p (op_field_p tyFld31_5 rfl rfl), fun _ => .p (op_load_x1 tyOne23 rfl rfl rfl), fun _ => .p (op_field_p tyFld42_4 rfl rfl), fun _ => .p (op_load_p1 tyOne23 rfl rfl rfl), fun _ => .p (op_buildSliceP (es := [n0r.Sets, l0.Sets].map (eL 1 (eL 1 eI))) tySl60 rfl rfl (uni_map fun _ => rfl) rfl (by decide) (by decide)), fun _ => .p (op_call0 (island_Merge_spec e22) goes31 rfl rfl), fun _ => .p (op_nilCheck_p rfl), fun _ => .p (op_field_p tyFld95_0 rfl rfl), fun _ => .p (op_field_p tyFld31_5 rfl rfl), trivial⟩ ⟨_, by exact .p (op_store_x1 tyOne23 rfl rfl rfl rfl (Nat.le_of_ble_eq_true rfl) rfl), rfl⟩ rfl (Tri.regionL (Oc om (OpsL.persist 102 rfl ?_)))
  obtain ⟨⟨x_6, x_7⟩, e23, h⟩ := bnd h
  refine Oc (op_call (own_a := [(1, _), (2, _)]) (owner_node_plan_spec e23) goes44 rfl ⟨rfl, rfl, trivial⟩ rfl rfl) (OpsL.nil ?_)
  obtain rfl := Option.some.inj h
  refine Fin.keepS ⟨[], [(1, .xbox 95 [.one (.i x_6.Me), .one (.i x_6.Regions), .one (.i x_6.Step), .one (.sl 1 (x_6.Home.map eI)), .one (.sl 1 (x_6.Heard.map eB)), .one (.sl 1 (x_6.Sets.map (eL 1 eI))), .one (.sl 1 (x_6.States.map eS)), .one (.sl 3 (x_6.Tasks.map eTask)), .one (.sl 1 (x_6.Done.map eB)), .one (.sl 1 (x_6.Results.map eS)), .row 2]), (2, .row 42 7 (x_7.map eNotice))]⟩ rfl ?_
  exact Fin.result [] (.inr rfl) rfl (.nil) ⟨rfl, rfl⟩
def slices_Index85_S (F : Nat) (s0 : List Str) (v0 : Str) : Option Int :=
 Option.bind (iter F (fun x_1 => if (decide (x_1 < (s0.length : Int))) = true then ((idx? s0 x_1).bind fun x_2 => if (decide (v0 = x_2)) = true then (some (.inr (.inr x_1))) else (some (.inl (IntKind.i64.wrap (x_1 + 1))))) else (some (.inr (.inl ())))) 0) (alt2 (fun _ => some (-1)) (fun y => some y))
theorem slices_Index85_spec {F : Nat} {s0 : List Str} {v0 : Str} {r : Int} (h : slices_Index85_S F s0 v0 = some r) : Meets Try.prog [] 85 [] [.one (.sl 1 (s0.map eS)), .one (.str v0)] (Is [] (.b (.one (.i r)))) := by
 unfold slices_Index85_S at h
 refine Meets.intro 19 Try.func85 Try.ntmps85 rfl (by simp) fun E => ?_
 show Tri _ E ⟨19, [], [], []⟩ _ ⟨[(0, .b (.one (.sl 1 (s0.map eS)))), (1, .b (.one (.str v0)))], []⟩ _
 refine Tri.seq (Tri.regionL ?_)
 refine Oc oa (OpsL.nilS ⟨[(0, .b (.one (.sl 1 (s0.map eS)))), (1, .b (.one (.str v0)))], []⟩ rfl ?_)
 obtain ⟨v1, h2, h⟩ := bnd h
 refine Tri.seqJ (v := v1) (fun (_ : Unit) => ⟨[], []⟩) (fun z => .inl z) ?_ ?_
 ·refine Tri.seq (Tri.regionL ?_)
  refine Oc om (Oc (op_len_e' und24 rfl (List.length_map _)) (Oc om ?_))
  refine OpsL.nilS ⟨[(0, _), (1, _), (7, I (s0.length : Int)), (8, I 0)], []⟩ rfl (Tri.block (Tri.loopJ h2 (fun (x_1 : Int) => ⟨[(0, .b (.one (.sl 1 (s0.map eS)))), (1, .b (.one (.str v0))), (7, I (s0.length : Int)), (8, I x_1)], []⟩) [0, 1, 7, 8] [] rfl ?_))
  rintro x_1 o3 h4 hy5
  refine Tri.seq (Tri.regionL ?_)
  refine Oc (op_lss rfl rfl) (OpsL.nilS ⟨[(0, _), (1, _), (7, _), (8, _), (9, B (decide (x_1 < (s0.length : Int))))], []⟩ rfl (Tri.seq (Tri.ite h4 rfl (fun _ h4 => ?_) (fun _ h4 => ?_))))
  ·refine Tri.skip (Fin.keepS ⟨[(0, _), (1, _), (7, _), (8, _)], []⟩ rfl (Fin.then (Tri.seq (Tri.block (Tri.seq (Tri.regionL ?_))))))
   refine Oc om (Oc oa ?_)
   refine OpsL.nilS ⟨[(0, _), (1, _), (5, I x_1), (7, _), (8, _)], []⟩ rfl (Tri.seq (Tri.regionL ?_))
   refine Oc om (Oc om (Oc om ?_))
   obtain ⟨x_2, e6, h4⟩ := bnd h4
   refine Oc (op_index_e tySl24 (ix_lo e6) (ix_map (e := eS) e6) rfl rfl) (Oc (op_load_e1 tyOne9 rfl rfl) (Oc (op_eql_str rfl rfl) ?_))
   refine OpsL.nilS ⟨[(0, _), (1, _), (5, _), (7, _), (8, _), (16, B (decide (v0 = x_2)))], []⟩ rfl (Tri.ite h4 rfl (fun _ h4 => ?_) (fun _ h4 => ?_))
   ·refine Tri.seq (Tri.regionL ?_)
    refine Oc om (Oc oa ?_)
    refine OpsL.nilS ⟨[(4, I x_1)], []⟩ rfl (Tri.ret (Fin.block_ret (Fin.then_ret ?_)))
    obtain rfl := hy5 _ (Option.some.inj h4).symm
    refine Fin.then_ret (Fin.block_ret (Fin.then_ret ?_))
    obtain rfl := Option.some.inj h
    refine Fin.keepS ⟨[(4, _)], []⟩ rfl (Fin.result' [.one (.i x_1)] (.inl rfl) rfl (.cons (.tmp rfl) .nil) ⟨rfl, rfl⟩)
   ·refine Tri.skip (Fin.block_normal (Fin.keepS ⟨[(0, _), (1, _), (7, _), (8, _)], []⟩ rfl (Fin.then (Tri.regionL ?_))))
    refine Oc (op_add rfl rfl) (Oc om ?_)
    refine OpsL.nil ?_
    exact Fin.againJ [0, 1, 7, 8] [] (IntKind.i64.wrap (x_1 + 1)) (Option.some.inj h4) rfl
  ·refine Tri.exit (Fin.then_exit ?_)
   obtain rfl := hy5 _ (Option.some.inj h4).symm
   refine Fin.then_exit (Fin.block_exit ?_)
   exact Fin.join [] [] () rfl rfl
 ·rintro _ hv
  subst v1
  refine Tri.seq (Tri.regionL ?_)
  refine Oc oa (OpsL.nilS ⟨[(4, I (-1))], []⟩ rfl (Tri.ret ?_))
  obtain rfl := Option.some.inj h
  refine Fin.keepS ⟨[(4, _)], []⟩ rfl (Fin.result' [.one (.i (-1))] (.inl rfl) rfl (.cons (.tmp rfl) .nil) ⟨rfl, rfl⟩)
def slices_Contains51_S (F : Nat) (s0 : List Str) (v0 : Str) : Option Bool :=
 (slices_Index85_S F s0 v0).bind fun x_1 => some (decide (0 ≤ x_1))
theorem slices_Contains51_spec {F : Nat} {s0 : List Str} {v0 : Str} {r : Bool} (h : slices_Contains51_S F s0 v0 = some r) : Meets Try.prog [] 51 [] [.one (.sl 1 (s0.map eS)), .one (.str v0)] (Is [] (.b (.one (.bool r)))) := by
 unfold slices_Contains51_S at h
 refine Meets.intro 9 Try.func51 Try.ntmps51 rfl (by simp) fun E => ?_
 show Tri _ E ⟨9, [], [], []⟩ _ ⟨[(0, .b (.one (.sl 1 (s0.map eS)))), (1, .b (.one (.str v0)))], []⟩ _
 refine Tri.seq (Tri.regionL ?_)
 refine Oc oa (OpsL.nilS ⟨[(0, .b (.one (.sl 1 (s0.map eS)))), (1, .b (.one (.str v0)))], []⟩ rfl (Tri.seq (Tri.regionL ?_)))
 refine Oc om (Oc om ?_)
 obtain ⟨x_1, e1, h⟩ := bnd h
 refine Oc (op_call0 (slices_Index85_spec e1) goes85 rfl rfl) (Oc (op_geq rfl rfl) (Oc oa ?_))
 refine OpsL.nilS ⟨[(4, B (decide (0 ≤ x_1)))], []⟩ rfl (Tri.ret ?_)
 obtain rfl := Option.some.inj h
 refine Fin.keepS ⟨[(4, _)], []⟩ rfl (Fin.result' [.one (.bool (decide (0 ≤ x_1)))] (.inl rfl) rfl (.cons (.tmp rfl) .nil) ⟨rfl, rfl⟩)
end Go.Proofs.Ytnpddoaeoefcnaa

