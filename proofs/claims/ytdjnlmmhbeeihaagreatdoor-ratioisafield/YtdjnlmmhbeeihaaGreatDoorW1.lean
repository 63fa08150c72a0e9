/- printed walks -/
import Derived.Test.YtdjnlmmhbeeihaaGreatDoorT1
namespace Go.Proofs.YtdjnlmmhbeeihaaGreatDoor
open Go.Sk
set_option maxHeartbeats 1000000
set_option maxRecDepth 4000
set_option linter.unusedSimpArgs false
set_option linter.unusedVariables false
variable {mx : Int}
/-- the tables (mx: what internal/bytealg.MaxLen holds, whatever it is) -/
def tabs (mx : Int) : Tabs := [(1, Lib.deBruijn32tab.map fun z : Nat => Value.int .u8 (z : Int)), (2, Lib.pow10Tab.map fun z : Int => Value.int .u64 z), (0, [Value.int .i64 mx])]
theorem tyFld25_2 : TyField Tryz.prog 25 2 2 23 := ⟨⟨_, _, Tryz.t23, Tryz.underlying25, rfl, rfl, rfl, by kernel_rfl, by decide⟩⟩
theorem tyArr23 : TyArr Tryz.prog 23 22 16 1 := ⟨Tryz.underlying23, ⟨Tryz.t22, by kernel_rfl, by kernel_rfl⟩⟩
theorem tyOne22 : TyOne Tryz.prog 22 := ⟨⟨_, Tryz.underlying22, rfl⟩, ⟨Tryz.t22, by kernel_rfl, by kernel_rfl⟩⟩
theorem tyFld25_0 : TyField Tryz.prog 25 0 0 4 := ⟨⟨_, _, Tryz.t4, Tryz.underlying25, rfl, rfl, rfl, by kernel_rfl, by decide⟩⟩
theorem tyOne4 : TyOne Tryz.prog 4 := ⟨⟨_, Tryz.underlying4, rfl⟩, ⟨Tryz.t4, by kernel_rfl, by kernel_rfl⟩⟩
theorem tyFld25_1 : TyField Tryz.prog 25 1 1 4 := ⟨⟨_, _, Tryz.t4, Tryz.underlying25, rfl, rfl, rfl, by kernel_rfl, by decide⟩⟩
theorem tyAgg25 : TyAgg Tryz.prog 25 18 := ⟨⟨_, Tryz.underlying25, rfl⟩, ⟨Tryz.t25, by kernel_rfl, by kernel_rfl⟩⟩
theorem goes86 : Goes Tryz.prog 86 := ⟨Tryz.call86⟩
theorem und70 : Tryz.prog.underlying 70 = some (.slice 3) := Tryz.underlying70
theorem tySl70 : TySl Tryz.prog 70 3 1 8 [.i 0] := ⟨Tryz.underlying70, ⟨Tryz.t3, _, by kernel_rfl, rfl, rfl, rfl, rfl, by decide, rfl⟩⟩
theorem tyOne3 : TyOne Tryz.prog 3 := ⟨⟨_, Tryz.underlying3, rfl⟩, ⟨Tryz.t3, by kernel_rfl, by kernel_rfl⟩⟩
theorem undi22 : Tryz.prog.underlying 22 = some (.int .u32) := Tryz.underlying22
theorem undi3 : Tryz.prog.underlying 3 = some (.int .i64) := Tryz.underlying3
theorem mixed : Tryz.prog.follows .mixedOrders = true := by kernel_rfl
theorem goes119 : Goes Tryz.prog 119 := ⟨Tryz.call119⟩
theorem goes15 : Goes Tryz.prog 15 := ⟨Tryz.call15⟩
theorem goes85 : Goes Tryz.prog 85 := ⟨Tryz.call85⟩
theorem tyZero25 : TyZero Tryz.prog 25 zBig := ⟨⟨Tryz.t25, _, by kernel_rfl, rfl, rfl⟩⟩
theorem tyBuild25 : TyBuild Tryz.prog 25 [(0, 1), (1, 1), (2, 16)] zBig := ⟨⟨Tryz.t25, _, _, by kernel_rfl, rfl, rfl, Tryz.underlying25, by kernel_rfl⟩⟩
theorem goes83 : Goes Tryz.prog 83 := ⟨Tryz.call83⟩
theorem goes120 : Goes Tryz.prog 120 := ⟨Tryz.call120⟩
theorem goes76 : Goes Tryz.prog 76 := ⟨Tryz.call76⟩
theorem goes77 : Goes Tryz.prog 77 := ⟨Tryz.call77⟩
theorem goes144 : Goes Tryz.prog 144 := ⟨Tryz.call144⟩
theorem goes84 : Goes Tryz.prog 84 := ⟨Tryz.call84⟩
theorem goes131 : Goes Tryz.prog 131 := ⟨Tryz.call131⟩
theorem goes130 : Goes Tryz.prog 130 := ⟨Tryz.call130⟩
theorem goes81 : Goes Tryz.prog 81 := ⟨Tryz.call81⟩
theorem goes12 : Goes Tryz.prog 12 := ⟨Tryz.call12⟩
theorem goes111 : Goes Tryz.prog 111 := ⟨Tryz.call111⟩
theorem goes121 : Goes Tryz.prog 121 := ⟨Tryz.call121⟩
theorem tyFld27_0 : TyField Tryz.prog 27 0 0 25 := ⟨⟨_, _, Tryz.t25, Tryz.underlying27, rfl, rfl, rfl, by kernel_rfl, by decide⟩⟩
theorem tyFld27_1 : TyField Tryz.prog 27 1 18 25 := ⟨⟨_, _, Tryz.t25, Tryz.underlying27, rfl, rfl, rfl, by kernel_rfl, by decide⟩⟩
theorem goes78 : Goes Tryz.prog 78 := ⟨Tryz.call78⟩
theorem goes79 : Goes Tryz.prog 79 := ⟨Tryz.call79⟩
theorem goes80 : Goes Tryz.prog 80 := ⟨Tryz.call80⟩
theorem tyAgg23 : TyAgg Tryz.prog 23 16 := ⟨⟨_, Tryz.underlying23, rfl⟩, ⟨Tryz.t23, by kernel_rfl, by kernel_rfl⟩⟩
theorem eqPart23 (x y : A16) {d : Nat} : EqPart Tryz.prog (d + 2) 23 16 (eW x) (eW y) (decide (x = y)) :=
 (EqPart.arr (l := x.l) (l' := y.l) tyAgg23 Tryz.underlying23 tyOne22 Tryz.underlying22).cast (by rw [Bool.eq_iff_iff]; simp [A16.l_inj])
theorem eqPart25 (x y : Big) {d : Nat} : EqPart Tryz.prog (d + 3) 25 18 (eBig x) (eBig y) (decide (x = y)) :=
 (EqPart.struct (d := d + 2) (rs := [x.Bad == y.Bad, x.Neg == y.Neg, decide (x.W = y.W)]) tyAgg25 Tryz.stoodInHeld25 Tryz.underlying25 (⟨by decide, ⟨_, [.bool x.Bad], [.bool y.Bad], rfl, rfl, rfl, rfl, (.bool tyOne4 Tryz.underlying4)⟩, ⟨by decide, ⟨_, [.bool x.Neg], [.bool y.Neg], rfl, rfl, rfl, rfl, (.bool tyOne4 Tryz.underlying4)⟩, ⟨by decide, ⟨_, (eW x.W), (eW y.W), rfl, rfl, rfl, rfl, eqPart23 _ _⟩, trivial⟩⟩⟩) rfl).cast
  (by cases x; cases y; rw [Bool.eq_iff_iff]; simp [Big.mk.injEq])
theorem eqAgg25 (x y : Big) : EqAgg Tryz.prog 25 (eBig x) (eBig y) (decide (x = y)) := EqAgg.ofPart (by kernel_rfl) tyAgg25 (eqPart25 x y (d := 9997)) rfl rfl
theorem tyBuild23 : TyBuildA Tryz.prog 23 1 (eW A16.zero) := ⟨⟨Tryz.t23, _, _, _, Tryz.t22, by kernel_rfl, rfl, rfl, Tryz.underlying23, by kernel_rfl, by kernel_rfl⟩⟩
theorem eqAgg23 (x y : A16) : EqAgg Tryz.prog 23 (eW x) (eW y) (decide (x = y)) := EqAgg.ofPart (by kernel_rfl) tyAgg23 (eqPart23 x y (d := 9998)) rfl rfl
theorem undi79 : Tryz.prog.underlying 79 = some (.int .u64) := Tryz.underlying79
theorem goes115 : Goes Tryz.prog 115 := ⟨Tryz.call115⟩
theorem goes112 : Goes Tryz.prog 112 := ⟨Tryz.call112⟩
theorem und117 : Tryz.prog.underlying 117 = some (.slice 25) := Tryz.underlying117
theorem tySl117 : TySl Tryz.prog 117 25 18 68 zBig := ⟨Tryz.underlying117, ⟨Tryz.t25, _, by kernel_rfl, rfl, rfl, rfl, rfl, by decide, rfl⟩⟩
theorem goes113 : Goes Tryz.prog 113 := ⟨Tryz.call113⟩
theorem goes91 : Goes Tryz.prog 91 := ⟨Tryz.call91⟩
theorem tyZero27 : TyZero Tryz.prog 27 zFrc := ⟨⟨Tryz.t27, _, by kernel_rfl, rfl, rfl⟩⟩
theorem goes92 : Goes Tryz.prog 92 := ⟨Tryz.call92⟩
theorem goes90 : Goes Tryz.prog 90 := ⟨Tryz.call90⟩
theorem tyBuild27 : TyBuild Tryz.prog 27 [(0, 18), (18, 18)] zFrc := ⟨⟨Tryz.t27, _, _, by kernel_rfl, rfl, rfl, Tryz.underlying27, by kernel_rfl⟩⟩
theorem tyAgg27 : TyAgg Tryz.prog 27 36 := ⟨⟨_, Tryz.underlying27, rfl⟩, ⟨Tryz.t27, by kernel_rfl, by kernel_rfl⟩⟩
theorem goes156 : Goes Tryz.prog 156 := ⟨Tryz.call156⟩
theorem goes147 : Goes Tryz.prog 147 := ⟨Tryz.call147⟩
theorem tyZero23 : TyZero Tryz.prog 23 (eW A16.zero) := ⟨⟨Tryz.t23, _, by kernel_rfl, rfl, rfl⟩⟩
theorem undi5 : Tryz.prog.underlying 5 = some (.int .u8) := Tryz.underlying5
theorem und9 : Tryz.prog.underlying 9 = some .string := Tryz.underlying9
theorem goes145 : Goes Tryz.prog 145 := ⟨Tryz.call145⟩
theorem tyArr119 : TyArr Tryz.prog 119 22 17 1 := ⟨Tryz.underlying119, ⟨Tryz.t22, by kernel_rfl, by kernel_rfl⟩⟩
theorem goes114 : Goes Tryz.prog 114 := ⟨Tryz.call114⟩
theorem goes127 : Goes Tryz.prog 127 := ⟨Tryz.call127⟩
theorem goes134 : Goes Tryz.prog 134 := ⟨Tryz.call134⟩
theorem goes139 : Goes Tryz.prog 139 := ⟨Tryz.call139⟩
theorem goes125 : Goes Tryz.prog 125 := ⟨Tryz.call125⟩
theorem tyZero119 : TyZero Tryz.prog 119 ((eA17 .u32) A17.zero) := ⟨⟨Tryz.t119, _, by kernel_rfl, rfl, rfl⟩⟩
theorem tySl100 : TySl Tryz.prog 100 22 1 4 [.int .u32 0] := ⟨Tryz.underlying100, ⟨Tryz.t22, _, by kernel_rfl, rfl, rfl, rfl, rfl, by decide, rfl⟩⟩
theorem goes140 : Goes Tryz.prog 140 := ⟨Tryz.call140⟩
theorem goes141 : Goes Tryz.prog 141 := ⟨Tryz.call141⟩
theorem goes142 : Goes Tryz.prog 142 := ⟨Tryz.call142⟩
theorem goes126 : Goes Tryz.prog 126 := ⟨Tryz.call126⟩
theorem goes116 : Goes Tryz.prog 116 := ⟨Tryz.call116⟩
theorem goes73 : Goes Tryz.prog 73 := ⟨Tryz.call73⟩
theorem goes117 : Goes Tryz.prog 117 := ⟨Tryz.call117⟩
theorem goes123 : Goes Tryz.prog 123 := ⟨Tryz.call123⟩
theorem und4 : Tryz.prog.underlying 4 = some .bool := Tryz.underlying4
theorem goes128 : Goes Tryz.prog 128 := ⟨Tryz.call128⟩
theorem goes129 : Goes Tryz.prog 129 := ⟨Tryz.call129⟩
theorem goes74 : Goes Tryz.prog 74 := ⟨Tryz.call74⟩
theorem goes97 : Goes Tryz.prog 97 := ⟨Tryz.call97⟩
theorem goes72 : Goes Tryz.prog 72 := ⟨Tryz.call72⟩
theorem goes143 : Goes Tryz.prog 143 := ⟨Tryz.call143⟩
theorem goes96 : Goes Tryz.prog 96 := ⟨Tryz.call96⟩
theorem goes118 : Goes Tryz.prog 118 := ⟨Tryz.call118⟩
theorem goes71 : Goes Tryz.prog 71 := ⟨Tryz.call71⟩
theorem goes27 : Goes Tryz.prog 27 := ⟨Tryz.call27⟩
theorem goes75 : Goes Tryz.prog 75 := ⟨Tryz.call75⟩
theorem goes11 : Goes Tryz.prog 11 := ⟨Tryz.call11⟩
theorem und111 : Tryz.prog.underlying 111 = some (.slice 9) := Tryz.underlying111
theorem tySl111 : TySl Tryz.prog 111 9 1 16 [.str []] := ⟨Tryz.underlying111, ⟨Tryz.t9, _, by kernel_rfl, rfl, rfl, rfl, rfl, by decide, rfl⟩⟩
theorem tyOne9 : TyOne Tryz.prog 9 := ⟨⟨_, Tryz.underlying9, rfl⟩, ⟨Tryz.t9, by kernel_rfl, by kernel_rfl⟩⟩
theorem goes135 : Goes Tryz.prog 135 := ⟨Tryz.call135⟩
theorem goes136 : Goes Tryz.prog 136 := ⟨Tryz.call136⟩
theorem goes137 : Goes Tryz.prog 137 := ⟨Tryz.call137⟩
theorem goes138 : Goes Tryz.prog 138 := ⟨Tryz.call138⟩
theorem goes26 : Goes Tryz.prog 26 := ⟨Tryz.call26⟩
theorem goes109 : Goes Tryz.prog 109 := ⟨Tryz.call109⟩
theorem goes54 : Goes Tryz.prog 54 := ⟨Tryz.call54⟩
theorem tyZero109 : TyZero Tryz.prog 109 ((eA32 .u32) A32.zero) := ⟨⟨Tryz.t109, _, by kernel_rfl, rfl, rfl⟩⟩
theorem tyArr109 : TyArr Tryz.prog 109 22 32 1 := ⟨Tryz.underlying109, ⟨Tryz.t22, by kernel_rfl, by kernel_rfl⟩⟩
theorem goes102 : Goes Tryz.prog 102 := ⟨Tryz.call102⟩
theorem goes45 : Goes Tryz.prog 45 := ⟨Tryz.call45⟩
theorem goes43 : Goes Tryz.prog 43 := ⟨Tryz.call43⟩
theorem goes31 : Goes Tryz.prog 31 := ⟨Tryz.call31⟩
theorem goes94 : Goes Tryz.prog 94 := ⟨Tryz.call94⟩
theorem goes95 : Goes Tryz.prog 95 := ⟨Tryz.call95⟩
theorem goes155 : Goes Tryz.prog 155 := ⟨Tryz.call155⟩
theorem goes146 : Goes Tryz.prog 146 := ⟨Tryz.call146⟩
theorem goes124 : Goes Tryz.prog 124 := ⟨Tryz.call124⟩
theorem goes93 : Goes Tryz.prog 93 := ⟨Tryz.call93⟩
theorem goes18 : Goes Tryz.prog 18 := ⟨Tryz.call18⟩
theorem goes42 : Goes Tryz.prog 42 := ⟨Tryz.call42⟩
theorem goes39 : Goes Tryz.prog 39 := ⟨Tryz.call39⟩
theorem goes37 : Goes Tryz.prog 37 := ⟨Tryz.call37⟩
theorem goes20 : Goes Tryz.prog 20 := ⟨Tryz.call20⟩
theorem goes48 : Goes Tryz.prog 48 := ⟨Tryz.call48⟩
theorem goes33 : Goes Tryz.prog 33 := ⟨Tryz.call33⟩
theorem goes41 : Goes Tryz.prog 41 := ⟨Tryz.call41⟩
theorem goes46 : Goes Tryz.prog 46 := ⟨Tryz.call46⟩
theorem und110 : Tryz.prog.underlying 110 = some (.slice 5) := Tryz.underlying110
theorem tySl110 : TySl Tryz.prog 110 5 1 1 [.int .u8 0] := ⟨Tryz.underlying110, ⟨Tryz.t5, _, by kernel_rfl, rfl, rfl, rfl, rfl, by decide, rfl⟩⟩
theorem tyOne5 : TyOne Tryz.prog 5 := ⟨⟨_, Tryz.underlying5, rfl⟩, ⟨Tryz.t5, by kernel_rfl, by kernel_rfl⟩⟩
theorem goes105 : Goes Tryz.prog 105 := ⟨Tryz.call105⟩
theorem goes106 : Goes Tryz.prog 106 := ⟨Tryz.call106⟩
theorem goes107 : Goes Tryz.prog 107 := ⟨Tryz.call107⟩
theorem eqPart27 (x y : Frc) {d : Nat} : EqPart Tryz.prog (d + 4) 27 36 (eFrc x) (eFrc y) (decide (x = y)) :=
 (EqPart.struct (d := d + 3) (rs := [decide (x.N = y.N), decide (x.D = y.D)]) tyAgg27 Tryz.stoodInHeld27 Tryz.underlying27 (⟨by decide, ⟨_, (eBig x.N), (eBig y.N), rfl, rfl, rfl, rfl, eqPart25 _ _⟩, ⟨by decide, ⟨_, (eBig x.D), (eBig y.D), rfl, rfl, rfl, rfl, eqPart25 _ _⟩, trivial⟩⟩) rfl).cast
  (by cases x; cases y; rw [Bool.eq_iff_iff]; simp [Frc.mk.injEq])
theorem eqAgg27 (x y : Frc) : EqAgg Tryz.prog 27 (eFrc x) (eFrc y) (decide (x = y)) := EqAgg.ofPart (by kernel_rfl) tyAgg27 (eqPart27 x y (d := 9996)) rfl rfl
theorem goes22 : Goes Tryz.prog 22 := ⟨Tryz.call22⟩
theorem goes87 : Goes Tryz.prog 87 := ⟨Tryz.call87⟩
theorem goes35 : Goes Tryz.prog 35 := ⟨Tryz.call35⟩
theorem goes29 : Goes Tryz.prog 29 := ⟨Tryz.call29⟩
theorem goes52 : Goes Tryz.prog 52 := ⟨Tryz.call52⟩
theorem goes24 : Goes Tryz.prog 24 := ⟨Tryz.call24⟩
theorem goes13 : Goes Tryz.prog 13 := ⟨Tryz.call13⟩
theorem goes16 : Goes Tryz.prog 16 := ⟨Tryz.call16⟩
theorem goes44 : Goes Tryz.prog 44 := ⟨Tryz.call44⟩
def strconv_Itoa_S (F : Nat) (n0 : Int) : Option Str := itoa? n0
theorem strconv_Itoa_spec {F : Nat} {n0 : Int} {r : Str} (h : strconv_Itoa_S F n0 = some r) : Meets Tryz.prog (tabs mx) 135 [] [.one (.i n0)] (Is [] (.b (.one (.str r)))) := meets_Itoa Tryz.laysM171 (gb := 2) (by kernel_rfl) (by simp [tabs]) h
def strings_Repeat_S (F : Nat) (s0 : Str) (c0 : Int) : Option Str := repeat? s0 c0
theorem strings_Repeat_spec {F : Nat} {s0 : Str} {c0 : Int} {r : Str} (h : strings_Repeat_S F s0 c0 = some r) : Meets Tryz.prog (tabs mx) 136 [] [.one (.str s0), .one (.i c0)] (Is [] (.b (.one (.str r)))) := meets_Repeat Tryz.lays105 Tryz.Builder_Extra_105 h
def strings_Join_S (F : Nat) (l0 : List Str) (s0 : Str) : Option Str := join? l0 s0
theorem strings_Join_spec {F : Nat} {l0 : List Str} {s0 : Str} {r : Str} (h : strings_Join_S F l0 s0 = some r) : Meets Tryz.prog (tabs mx) 138 [] [.one (.sl 1 (l0.map eS)), .one (.str s0)] (Is [] (.b (.one (.str r)))) := meets_Join Tryz.lays156 Tryz.Builder_Extra_156 h
def bits_TZ32_S (F : Nat) (x0 : Int) : Option Int := some (ctz32 x0)
theorem bits_TZ32_spec {F : Nat} {x0 : Int} {r : Int} (h : bits_TZ32_S F x0 = some r) : Meets Tryz.prog (tabs mx) 155 [] [.one (.int .u32 x0)] (Is [] (I r)) := meets_TZ32 Tryz.lays7_28 (by simp [tabs, Tryz.lays7_28_ren]) (Option.some.inj h)
def strings_HasPrefix_S (F : Nat) (s0 : Str) (p0 : Str) : Option Bool := some (Lib.hasPrefix s0 p0)
theorem strings_HasPrefix_spec {F : Nat} {s0 : Str} {p0 : Str} {r : Bool} (h : strings_HasPrefix_S F s0 p0 = some r) : Meets Tryz.prog (tabs mx) 107 [] [.one (.str s0), .one (.str p0)] (Is [] (B r)) := meets_HasPrefix Tryz.lays99 h
def strings_Cut_S (F : Nat) (s0 : Str) (p0 : Str) : Option (Str × Str × Bool) := cut? s0 p0
theorem strings_Cut_spec {F : Nat} {s0 : Str} {p0 : Str} {r : Str × Str × Bool} (h : strings_Cut_S F s0 p0 = some r) : Meets Tryz.prog (tabs mx) 105 [] [.one (.str s0), .one (.str p0)] (Is [] (.tup [.one (.str r.1), .one (.str r.2.1), .one (.bool r.2.2)])) := meets_Cut Tryz.laysM145 (m := mx) (by simp [tabs, Tryz.laysM145_ren]) h
def r3_Valid_S (F : Nat) (x0 : Big) : Option Bool :=
 Option.bind (iter F (un2 fun zero_2 k_3 => if (decide (k_3 < 16)) = true then ((gcall zero_2 (idx? x0.W.l k_3)).bind fun x_5 => some (.inl (zero_2 && (decide (x_5 = 0)), IntKind.i64.wrap (k_3 + 1)))) else (some (.inr zero_2))) (true, 0)) (fun zero_1 => if x0.Bad = true then (some (zero_1 && (!x0.Neg))) else (some ((!zero_1) || (!x0.Neg))))
theorem r3_Valid_spec {F : Nat} {x0 : Big} {r : Bool} (h : r3_Valid_S F x0 = some r) : Meets Tryz.prog (tabs mx) 86 [] [.agg (eBig x0)] (Is [] (.b (.one (.bool r)))) := by
 unfold r3_Valid_S at h
 refine Meets.intro 32 Tryz.func86 Tryz.ntmps86 rfl (by simp) fun E => ?_
 show Tri _ E ⟨32, [], []⟩ _ ⟨[(0, .b (.agg (eBig x0)))], []⟩ _
 refine Tri.seq (Tri.regionL ?_)
 refine Oc (op_box (k := 101) rfl rfl) (Oc oa ?_)
 refine OpsL.nilS ⟨[(1, Pt 101 0)], [(101, .box 25 (eBig x0))]⟩ rfl (Tri.seq (Tri.regionL ?_))
 refine Oc oa (OpsL.nilS ⟨[(1, Pt 101 0), (3, B true)], [(101, .box 25 (eBig x0))]⟩ rfl ?_)
 obtain ⟨v1, h2, h⟩ := bnd h
 refine Tri.seqJ (v := v1) (fun (zero_1 : Bool) => ⟨[(1, Pt 101 0), (3, B zero_1)], [(101, .box 25 (eBig x0))]⟩) (fun z => z) ?_ ?_
 ·refine Tri.seq (Tri.regionL ?_)
  refine Oc oa (OpsL.nilS ⟨[(1, Pt 101 0), (3, B true), (4, I 0)], [(101, .box 25 (eBig x0))]⟩ rfl (Tri.block (Tri.loopJ h2 (un2 fun (zero_2 : Bool) (k_3 : Int) => ⟨[(1, Pt 101 0), (3, B zero_2), (4, I k_3)], [(101, .box 25 (eBig x0))]⟩) [1, 3, 4] [101] rfl ?_)))
  rintro ⟨zero_2, k_3⟩ o3 h4 hy5
  refine Tri.seq (Tri.seq (Tri.regionL ?_))
  refine Oc om (Oc (op_lss rfl rfl) ?_)
  refine OpsL.nilS ⟨[(1, Pt 101 0), (3, B zero_2), (4, I k_3), (6, B (decide (k_3 < 16)))], [(101, .box 25 (eBig x0))]⟩ rfl (Tri.ite h4 rfl (fun _ h4 => ?_) (fun _ h4 => ?_))
  ·refine Tri.skip (Fin.keepS ⟨[(1, Pt 101 0), (3, B zero_2), (4, I k_3)], [(101, .box 25 (eBig x0))]⟩ rfl (Fin.then (Tri.seq (Tri.block (Tri.regionL ?_)))))
   refine Oc om (Oc om ?_)
   refine CgT zero_2 [] (fun g6 => trivial) (fun g6 => om) (CgT zero_2 [] (fun g7 => by exact trivial) (fun g7 => op_field_p tyFld25_2 rfl rfl) ?_)
   obtain ⟨x_5, e9, h4⟩ := bnd h4
   refine CgT zero_2 [11, 12] (fun g8 => ⟨g8, g8, trivial⟩) (fun g8 => op_index_p tyArr23 (ix_lo (gc e9 g8)) (ix_hi (gc e9 g8)) rfl rfl rfl) (CgT zero_2 [13] (fun g10 => ⟨g10, trivial⟩) (fun g10 => op_load_p1 tyOne22 rfl rfl (arr_get (post := []) (k := .u32) [.bool x0.Bad, .bool x0.Neg] (gc e9 g10) rfl rfl rfl)) (CgT zero_2 [14] (fun g11 => ⟨g11, trivial⟩) (fun g11 => op_eql rfl rfl) (Oc (op_pick_and (fun e => e) rfl rfl rfl rfl) (Oc oa ?_))))
   refine OpsL.nil (Fin.block_normal (Fin.keepS ⟨[(1, Pt 101 0), (3, B (zero_2 && (decide (x_5 = 0)))), (4, I k_3)], [(101, .box 25 (eBig x0))]⟩ rfl (Fin.then (Tri.regionL ?_))))
   refine Oc om (Oc (op_add rfl rfl) (Oc oa ?_))
   refine OpsL.nil ?_
   exact Fin.againJ [1, 3, 4] [101] (zero_2 && (decide (x_5 = 0)), IntKind.i64.wrap (k_3 + 1)) (Option.some.inj h4) rfl
  ·refine Tri.exit (Fin.then_exit ?_)
   obtain rfl := hy5 _ (Option.some.inj h4).symm
   refine Fin.then_exit (Fin.block_exit ?_)
   exact Fin.join [1, 3] [101] zero_2 rfl rfl
 ·rintro zero_1 hv
  subst v1
  refine Tri.seq (Tri.seq (Tri.regionL ?_))
  refine Oc (op_field_p tyFld25_0 rfl rfl) (Oc (op_load_p1 tyOne4 rfl rfl rfl) ?_)
  refine OpsL.nilS ⟨[(1, Pt 101 0), (3, B zero_1), (18, B x0.Bad)], [(101, .box 25 (eBig x0))]⟩ rfl (Tri.ite h rfl (fun _ h => ?_) (fun _ h => ?_))
  ·refine Tri.seq (Tri.regionL ?_)
   refine Oc om (Oc om ?_)
   refine CgT zero_1 [] (fun g12 => trivial) (fun g12 => op_field_p tyFld25_1 rfl rfl) (CgT zero_1 [21] (fun g13 => ⟨g13, trivial⟩) (fun g13 => op_load_p1 tyOne4 rfl rfl rfl) (CgT zero_1 [22] (fun g14 => ⟨g14, trivial⟩) (fun g14 => op_not rfl) (Oc (op_pick_and (fun e => e) rfl rfl rfl rfl) (Oc oa ?_))))
   refine OpsL.nilS ⟨[(2, B (zero_1 && (!x0.Neg)))], []⟩ rfl (Tri.ret (Fin.then_ret ?_))
   obtain rfl := Option.some.inj h
   refine Fin.keepS ⟨[(2, B (zero_1 && (!x0.Neg)))], []⟩ rfl (Fin.result' [.one (.bool (zero_1 && (!x0.Neg)))] (.inl rfl) rfl (.cons (.tmp rfl) .nil) ⟨rfl, rfl⟩)
  ·refine Tri.skip (Fin.keepS ⟨[(1, Pt 101 0), (3, B zero_1)], [(101, .box 25 (eBig x0))]⟩ rfl (Fin.then (Tri.seq (Tri.regionL ?_))))
   refine Oc om (Oc (op_not rfl) (Oc om ?_))
   refine CgF (!(!zero_1)) [] (fun g15 => trivial) (fun g15 => op_field_p tyFld25_1 rfl rfl) (CgF (!(!zero_1)) [28] (fun g16 => ⟨g16, trivial⟩) (fun g16 => op_load_p1 tyOne4 rfl rfl rfl) (CgF (!(!zero_1)) [29] (fun g17 => ⟨g17, trivial⟩) (fun g17 => op_not rfl) (Oc (op_pick_or (fun e => by rw [e]; rfl) rfl rfl rfl rfl) (Oc oa ?_))))
   refine OpsL.nilS ⟨[(2, B ((!zero_1) || (!x0.Neg)))], []⟩ rfl (Tri.ret ?_)
   obtain rfl := Option.some.inj h
   refine Fin.keepS ⟨[(2, B ((!zero_1) || (!x0.Neg)))], []⟩ rfl (Fin.result' [.one (.bool ((!zero_1) || (!x0.Neg)))] (.inl rfl) rfl (.cons (.tmp rfl) .nil) ⟨rfl, rfl⟩)
def r3_Good_S (F : Nat) (x0 : Big) : Option Bool :=
 (r3_Valid_S F x0).bind fun x_1 => some (x_1 && (!x0.Bad))
theorem r3_Good_spec {F : Nat} {x0 : Big} {r : Bool} (h : r3_Good_S F x0 = some r) : Meets Tryz.prog (tabs mx) 15 [] [.agg (eBig x0)] (Is [] (.b (.one (.bool r)))) := by
 unfold r3_Good_S at h
 refine Meets.intro 12 Tryz.func15 Tryz.ntmps15 rfl (by simp) fun E => ?_
 show Tri _ E ⟨12, [], []⟩ _ ⟨[(0, .b (.agg (eBig x0)))], []⟩ _
 refine Tri.seq (Tri.regionL ?_)
 refine Oc (op_box (k := 101) rfl rfl) (Oc oa ?_)
 refine OpsL.nilS ⟨[(1, Pt 101 0)], [(101, .box 25 (eBig x0))]⟩ rfl (Tri.seq (Tri.regionL ?_))
 refine Oc (lp tyAgg25) ?_
 obtain ⟨x_1, e1, h⟩ := bnd h
 refine Oc (op_call0 (r3_Valid_spec e1) goes86 rfl rfl) (Oc oa ?_)
 refine OpsL.nilS ⟨[(1, Pt 101 0), (3, B x_1)], [(101, .box 25 (eBig x0))]⟩ rfl (Tri.seq (Tri.regionL ?_))
 refine Oc om (Oc om ?_)
 refine CgT x_1 [] (fun g2 => trivial) (fun g2 => op_field_p tyFld25_0 rfl rfl) (CgT x_1 [8] (fun g3 => ⟨g3, trivial⟩) (fun g3 => op_load_p1 tyOne4 rfl rfl rfl) (CgT x_1 [9] (fun g4 => ⟨g4, trivial⟩) (fun g4 => op_not rfl) (Oc (op_pick_and (fun e => e) rfl rfl rfl rfl) (Oc oa ?_))))
 refine OpsL.nilS ⟨[(2, B (x_1 && (!x0.Bad)))], []⟩ rfl (Tri.ret ?_)
 obtain rfl := Option.some.inj h
 refine Fin.keepS ⟨[(2, B (x_1 && (!x0.Bad)))], []⟩ rfl (Fin.result' [.one (.bool (x_1 && (!x0.Bad)))] (.inl rfl) rfl (.cons (.tmp rfl) .nil) ⟨rfl, rfl⟩)
def r3_trim_S (F : Nat) (l0 : List Int) : Option (List Int) :=
 Option.bind (iter F (fun n_2 => (gcall (decide (0 < n_2)) (idx? l0 (IntKind.i64.wrap (n_2 - 1)))).bind fun x_4 => if ((decide (0 < n_2)) && (decide (x_4 = 0))) = true then (some (.inl (IntKind.i64.wrap (n_2 - 1)))) else (some (.inr n_2))) (l0.length : Int)) (fun n_1 => (take? l0 n_1).bind fun x_5 => some x_5)
theorem r3_trim_spec {F : Nat} {l0 : List Int} {r : (List Int)} (h : r3_trim_S F l0 = some r) : Meets Tryz.prog (tabs mx) 119 [] [.one (.sl 1 (l0.map eI))] (Is [] (.b (.one (.sl 1 (r.map eI))))) := by
 unfold r3_trim_S at h
 refine Meets.intro 21 Tryz.func119 Tryz.ntmps119 rfl (by simp) fun E => ?_
 show Tri _ E ⟨21, [], []⟩ _ ⟨[(0, .b (.one (.sl 1 (l0.map eI))))], []⟩ _
 refine Tri.seq (Tri.regionL ?_)
 refine Oc oa (OpsL.nilS ⟨[(0, .b (.one (.sl 1 (l0.map eI))))], []⟩ rfl (Tri.seq (Tri.regionL ?_)))
 refine Oc om (Oc (op_len_e' und70 rfl (List.length_map _)) (Oc oa ?_))
 refine OpsL.nilS ⟨[(0, .b (.one (.sl 1 (l0.map eI)))), (3, I (l0.length : Int))], []⟩ rfl ?_
 obtain ⟨v1, h2, h⟩ := bnd h
 refine Tri.seqJ (v := v1) (fun (n_1 : Int) => ⟨[(0, .b (.one (.sl 1 (l0.map eI)))), (3, I n_1)], []⟩) (fun z => z) ?_ ?_
 ·refine Tri.block (Tri.loopJ h2 (fun (n_2 : Int) => ⟨[(0, .b (.one (.sl 1 (l0.map eI)))), (3, I n_2)], []⟩) [0, 3] [] rfl ?_)
  rintro n_2 o3 h4 hy5
  refine Tri.seq (Tri.seq (Tri.regionL ?_))
  refine Oc om (Oc (op_gtr rfl rfl) (Oc om ?_))
  refine CgT (decide (0 < n_2)) [] (fun g6 => trivial) (fun g6 => om) (CgT (decide (0 < n_2)) [] (fun g7 => by exact trivial) (fun g7 => om) (CgT (decide (0 < n_2)) [10] (fun g8 => by exact ⟨g8, trivial⟩) (fun g8 => op_sub rfl rfl) ?_))
  obtain ⟨x_4, e10, h4⟩ := bnd h4
  refine CgT (decide (0 < n_2)) [9, 11] (fun g9 => ⟨g9, g9, trivial⟩) (fun g9 => op_index_e tySl70 (ix_lo (gc e10 g9)) (ix_map (e := eI) (gc e10 g9)) rfl rfl) (OpsL.keepS ⟨[(0, .b (.one (.sl 1 (l0.map eI)))), (3, I n_2), (8, B (decide (0 < n_2))), (12, .opt (decide (0 < n_2)) (.eptr [.i x_4]))], []⟩ rfl (CgT (decide (0 < n_2)) [12] (fun g11 => ⟨g11, trivial⟩) (fun g11 => op_load_e1 tyOne3 rfl rfl) (CgT (decide (0 < n_2)) [13] (fun g12 => ⟨g12, trivial⟩) (fun g12 => op_eql rfl rfl) (Oc (op_pick_and (fun e => e) rfl rfl rfl rfl) (OpsL.nilS ⟨[(0, .b (.one (.sl 1 (l0.map eI)))), (3, I n_2), (15, B ((decide (0 < n_2)) && (decide (x_4 = 0))))], []⟩ rfl ?_)))))
  refine Tri.ite h4 rfl (fun _ h4 => ?_) (fun _ h4 => ?_)
  ·refine Tri.skip (Fin.keepS ⟨[(0, .b (.one (.sl 1 (l0.map eI)))), (3, I n_2)], []⟩ rfl (Fin.then (Tri.block (Tri.regionL ?_))))
   refine Oc om (Oc (op_sub rfl rfl) (Oc oa ?_))
   refine OpsL.nil (Fin.block_normal ?_)
   exact Fin.againJ [0, 3] [] (IntKind.i64.wrap (n_2 - 1)) (Option.some.inj h4) rfl
  ·refine Tri.exit (Fin.then_exit ?_)
   obtain rfl := hy5 _ (Option.some.inj h4).symm
   refine Fin.then_exit (Fin.block_exit ?_)
   exact Fin.join [0, 3] [] n_2 rfl rfl
 ·rintro n_1 hv
  subst v1
  refine Tri.seq (Tri.regionL ?_)
  refine Oc om (Oc om ?_)
  obtain ⟨x_5, e13, h⟩ := bnd h
  refine Oc (op_slice_h2 tySl70 e13 rfl rfl) (Oc oa ?_)
  refine OpsL.nilS ⟨[(2, .b (.one (.sl 1 (x_5.map eI))))], []⟩ rfl (Tri.ret ?_)
  obtain rfl := Option.some.inj h
  refine Fin.keepS ⟨[(2, .b (.one (.sl 1 (x_5.map eI))))], []⟩ rfl (Fin.result' [.one (.sl 1 (x_5.map eI))] (.inl rfl) rfl (.cons (.tmp rfl) .nil) ⟨rfl, rfl⟩)
def r3_digits_S (F : Nat) (x0 : Big) : Option (List Int) :=
 Option.bind (iter F (un2 fun out_2 k_3 => if (decide (k_3 < 16)) = true then ((idx? x0.W.l k_3).bind fun x_5 => (idx? x0.W.l k_3).bind fun x_6 => (quo? .u32 x_6 65536).bind fun x_7 => (app? out_2 [IntKind.i64.wrap (Int.tmod x_5 65536), IntKind.i64.wrap x_7]).bind fun x_8 => some (.inl (x_8, IntKind.i64.wrap (k_3 + 1)))) else (some (.inr out_2))) ([], 0)) (fun out_1 => (r3_trim_S F out_1).bind fun x_9 => some x_9)
theorem r3_digits_spec {F : Nat} {x0 : Big} {r : (List Int)} (h : r3_digits_S F x0 = some r) : Meets Tryz.prog (tabs mx) 85 [] [.agg (eBig x0)] (Is [] (.b (.one (.sl 1 (r.map eI))))) := by
 unfold r3_digits_S at h
 refine Meets.intro 26 Tryz.func85 Tryz.ntmps85 rfl (by simp) fun E => ?_
 show Tri _ E ⟨26, [], []⟩ _ ⟨[(0, .b (.agg (eBig x0)))], []⟩ _
 refine Tri.seq (Tri.regionL ?_)
 refine Oc (op_box (k := 101) rfl rfl) (Oc oa ?_)
 refine OpsL.nilS ⟨[(1, Pt 101 0)], [(101, .box 25 (eBig x0))]⟩ rfl (Tri.seq (Tri.regionL ?_))
 refine Oc oa (OpsL.nilS ⟨[(1, Pt 101 0), (3, .b (.one (.nil)))], [(101, .box 25 (eBig x0))]⟩ rfl ?_)
 obtain ⟨v1, h2, h⟩ := bnd h
 refine Tri.seqJ (v := v1) (fun (out_1 : List Int) => ⟨[(3, .b (.row 103))], [(103, .row 3 1 (out_1.map eI))]⟩) (fun z => z) ?_ ?_
 ·refine Tri.seq (Tri.regionL ?_)
  refine Oc oa (OpsL.nilS ⟨[(1, Pt 101 0), (3, .b (.one (.nil))), (4, I 0)], [(101, .box 25 (eBig x0))]⟩ rfl (Tri.block (Tri.nilrow 3 103 1 3 rfl (by decide) rfl (Tri.loopJ h2 (un2 fun (out_2 : List Int) (k_3 : Int) => ⟨[(1, Pt 101 0), (3, .b (.row 103)), (4, I k_3)], [(101, .box 25 (eBig x0)), (103, .row 3 1 (out_2.map eI))]⟩) [1, 3, 4] [101, 103] rfl ?_))))
  rintro ⟨out_2, k_3⟩ o3 h4 hy5
  refine Tri.seq (Tri.seq (Tri.regionL ?_))
  refine Oc om (Oc (op_lss rfl rfl) ?_)
  refine OpsL.nilS ⟨[(1, Pt 101 0), (3, .b (.row 103)), (4, I k_3), (6, B (decide (k_3 < 16)))], [(101, .box 25 (eBig x0)), (103, .row 3 1 (out_2.map eI))]⟩ rfl (Tri.ite h4 rfl (fun _ h4 => ?_) (fun _ h4 => ?_))
  ·refine Tri.skip (Fin.keepS ⟨[(1, Pt 101 0), (3, .b (.row 103)), (4, I k_3)], [(101, .box 25 (eBig x0)), (103, .row 3 1 (out_2.map eI))]⟩ rfl (Fin.then (Tri.seq (Tri.block ?_))))
   refine Tri.keepS ⟨[(1, Pt 101 0), (3, .b (.row 103)), (4, I k_3)], [(101, .box 25 (eBig x0)), (103, .row 3 1 (out_2.map eI))]⟩ rfl ?_
   obtain ⟨x_5, e6, h4⟩ := bnd h4
   obtain ⟨x_6, e7, h4⟩ := bnd h4
   obtain ⟨x_7, e8, h4⟩ := bnd h4
   obtain ⟨x_8, e9, h4⟩ := bnd h4
   refine Tri.regionYF mixed 14 [.b (.row 103), I k_3, Pt 101 2, .b (.ptr 101 (2 + (k_3 : Int).toNat * 1)), .b (.one (.int .u32 x_5)), .b (.one (.int .u32 (Int.tmod x_5 65536))), I (IntKind.i64.wrap (Int.tmod x_5 65536)), I k_3, Pt 101 2, .b (.ptr 101 (2 + (k_3 : Int).toNat * 1)), .b (.one (.int .u32 x_6)), .b (.one (.int .u32 x_7)), I (IntKind.i64.wrap x_7), .b (.one (.sl 1 ([IntKind.i64.wrap (Int.tmod x_5 65536), IntKind.i64.wrap x_7].map eI)))] [1, 3, 4] [101, 103] (s' := ⟨[(1, Pt 101 0), (3, .b (.row 103)), (4, I k_3)], [(101, .box 25 (eBig x0)), (103, .row 3 1 (x_8.map eI))]⟩) rfl ⟨fun _ => .p om, fun _ => .p om, fun _ => .p (op_field_p tyFld25_2 rfl rfl), fun _ => .p (op_index_p tyArr23 (ix_lo e6) (ix_hi e6) rfl rfl rfl), fun _ => .p (op_load_p1 tyOne22 rfl rfl (arr_get (post := []) (k := .u32) [.bool x0.Bad, .bool x0.Neg] e6 rfl rfl rfl)), fun _ => .p (op_rem (by decide) rfl rfl), fun _ => .p (op_conv_wrap undi22 undi3 rfl), fun _ => .p om, fun _ => .p (op_field_p tyFld25_2 rfl rfl), fun _ => .p (op_index_p tyArr23 (ix_lo e7) (ix_hi e7) rfl rfl rfl), fun _ => .p (op_load_p1 tyOne22 rfl rfl (arr_get (post := []) (k := .u32) [.bool x0.Bad, .bool x0.Neg] e7 rfl rfl rfl)), fun _ => .p (op_quo2 e8 rfl rfl), fun _ => .p (op_conv_wrap undi22 undi3 rfl), fun _ => .p (op_buildSliceP (es := [IntKind.i64.wrap (Int.tmod x_5 65536), IntKind.i64.wrap x_7].map eI) tySl70 rfl rfl (uni_map fun _ => rfl) rfl (by decide) (by decide)), trivial⟩ ⟨_, by exact .p (op_append tySl70 (app_b e9) (app_m e9) rfl rfl rfl (app_map e9) rfl), ⟨_, by exact .p oa, rfl⟩⟩ rfl (Fin.block_normal (Fin.keepS ⟨[(1, Pt 101 0), (3, .b (.row 103)), (4, I k_3)], [(101, .box 25 (eBig x0)), (103, .row 3 1 (x_8.map eI))]⟩ rfl (Fin.then (Tri.regionL ?_))))
   refine Oc om (Oc (op_add rfl rfl) (Oc oa ?_))
   refine OpsL.nil ?_
   exact Fin.againJ [1, 3, 4] [101, 103] (x_8, IntKind.i64.wrap (k_3 + 1)) (Option.some.inj h4) rfl
  ·refine Tri.exit (Fin.then_exit ?_)
   obtain rfl := hy5 _ (Option.some.inj h4).symm
   refine Fin.then_exit (Fin.block_exit ?_)
   exact Fin.join [3] [103] out_2 rfl rfl
 ·rintro out_1 hv
  subst v1
  refine Tri.seq (Tri.regionL ?_)
  refine Oc om (OpsL.persist 103 rfl ?_)
  obtain ⟨x_9, e10, h⟩ := bnd h
  refine Oc (op_call0 (r3_trim_spec e10) goes119 rfl rfl) (Oc oa ?_)
  refine OpsL.nilS ⟨[(2, .b (.one (.sl 1 (x_9.map eI))))], []⟩ rfl (Tri.ret ?_)
  obtain rfl := Option.some.inj h
  refine Fin.keepS ⟨[(2, .b (.one (.sl 1 (x_9.map eI))))], []⟩ rfl (Fin.result' [.one (.sl 1 (x_9.map eI))] (.inl rfl) rfl (.cons (.tmp rfl) .nil) ⟨rfl, rfl⟩)
def r3_Sign_S (F : Nat) (x0 : Big) : Option Int :=
 (r3_Good_S F x0).bind fun x_1 => (gcall (!(!x_1)) (r3_digits_S F x0)).bind fun x_2 => if ((!x_1) || (decide ((x_2.length : Int) = 0))) = true then (some 0) else (if x0.Neg = true then (some (-1)) else (some 1))
theorem r3_Sign_spec {F : Nat} {x0 : Big} {r : Int} (h : r3_Sign_S F x0 = some r) : Meets Tryz.prog (tabs mx) 78 [] [.agg (eBig x0)] (Is [] (.b (.one (.i r)))) := by
 unfold r3_Sign_S at h
 refine Meets.intro 14 Tryz.func78 Tryz.ntmps78 rfl (by simp) fun E => ?_
 show Tri _ E ⟨14, [], []⟩ _ ⟨[(0, .b (.agg (eBig x0)))], []⟩ _
 refine Tri.seq (Tri.regionL ?_)
 refine Oc (op_box (k := 101) rfl rfl) (Oc oa ?_)
 refine OpsL.nilS ⟨[(1, Pt 101 0)], [(101, .box 25 (eBig x0))]⟩ rfl (Tri.seq (Tri.seq (Tri.regionL ?_)))
 refine Oc (lp tyAgg25) ?_
 obtain ⟨x_1, e1, h⟩ := bnd h
 refine Oc (op_call0 (r3_Good_spec e1) goes15 rfl rfl) (Oc (op_not rfl) (Oc om ?_))
 refine CgF (!(!x_1)) [] (fun g2 => trivial) (fun g2 => lp tyAgg25) (OpsL.keepS ⟨[(1, Pt 101 0), (6, B (!x_1)), (7, .opt (!(!x_1)) (.agg (eBig x0)))], [(101, .box 25 (eBig x0))]⟩ rfl ?_)
 obtain ⟨x_2, e4, h⟩ := bnd h
 refine CgF (!(!x_1)) [7] (fun g3 => ⟨g3, trivial⟩) (fun g3 => op_call0 (r3_digits_spec (gc e4 g3)) goes85 rfl rfl) (CgF (!(!x_1)) [8] (fun g5 => ⟨g5, trivial⟩) (fun g5 => op_len_e' und70 rfl (List.length_map _)) (CgF (!(!x_1)) [9] (fun g6 => ⟨g6, trivial⟩) (fun g6 => op_eql rfl rfl) (Oc (op_pick_or (fun e => by rw [e]; rfl) rfl rfl rfl rfl) (OpsL.nilS ⟨[(1, Pt 101 0), (11, B ((!x_1) || (decide ((x_2.length : Int) = 0))))], [(101, .box 25 (eBig x0))]⟩ rfl (Tri.ite h rfl (fun _ h => ?_) (fun _ h => ?_))))))
 ·refine Tri.seq (Tri.regionL ?_)
  refine Oc oa (OpsL.nilS ⟨[(2, I 0)], []⟩ rfl (Tri.ret (Fin.then_ret ?_)))
  obtain rfl := Option.some.inj h
  refine Fin.keepS ⟨[(2, I 0)], []⟩ rfl (Fin.result' [.one (.i 0)] (.inl rfl) rfl (.cons (.tmp rfl) .nil) ⟨rfl, rfl⟩)
 ·refine Tri.skip (Fin.keepS ⟨[(1, Pt 101 0)], [(101, .box 25 (eBig x0))]⟩ rfl (Fin.then (Tri.seq (Tri.seq (Tri.regionL ?_)))))
  refine Oc (op_field_p tyFld25_1 rfl rfl) (Oc (op_load_p1 tyOne4 rfl rfl rfl) ?_)
  refine OpsL.nilS ⟨[(13, B x0.Neg)], []⟩ rfl (Tri.ite h rfl (fun _ h => ?_) (fun _ h => ?_))
  ·refine Tri.seq (Tri.regionL ?_)
   refine Oc oa (OpsL.nilS ⟨[(2, I (-1))], []⟩ rfl (Tri.ret (Fin.then_ret ?_)))
   obtain rfl := Option.some.inj h
   refine Fin.keepS ⟨[(2, I (-1))], []⟩ rfl (Fin.result' [.one (.i (-1))] (.inl rfl) rfl (.cons (.tmp rfl) .nil) ⟨rfl, rfl⟩)
  ·refine Tri.skip (Fin.keepS ⟨[], []⟩ rfl (Fin.then (Tri.seq (Tri.regionL ?_))))
   refine Oc oa (OpsL.nilS ⟨[(2, I 1)], []⟩ rfl (Tri.ret ?_))
   obtain rfl := Option.some.inj h
   refine Fin.keepS ⟨[(2, I 1)], []⟩ rfl (Fin.result' [.one (.i 1)] (.inl rfl) rfl (.cons (.tmp rfl) .nil) ⟨rfl, rfl⟩)
def r3_word_S (F : Nat) (x0 : Big) : Option (Int × Bool) :=
 (r3_Good_S F x0).bind fun x_1 => if ((!x_1) || (decide (1073741824 ≤ x0.W.a1))) = true then (some (0, false)) else (Option.bind (iter F (fun k_2 => if (decide (k_2 < 16)) = true then ((idx? x0.W.l k_2).bind fun x_3 => if (decide (x_3 ≠ 0)) = true then (some (.inr (.inr (0, false)))) else (some (.inl (IntKind.i64.wrap (k_2 + 1))))) else (some (.inr (.inl ())))) 2) (alt2 (fun _ => letN (IntKind.i64.wrap ((IntKind.i64.wrap x0.W.a1) * 4294967296)) fun x_4 => letN (IntKind.i64.wrap (x_4 + (IntKind.i64.wrap x0.W.a0))) fun x_5 => if x0.Neg = true then (some (IntKind.i64.wrap (-x_5), true)) else (some (x_5, true))) (fun y => some y)))
theorem r3_word_spec {F : Nat} {x0 : Big} {r : Int × Bool} (h : r3_word_S F x0 = some r) : Meets Tryz.prog (tabs mx) 81 [] [.agg (eBig x0)] (Is [] (.tup [.one (.i r.1), .one (.bool r.2)])) := by
 unfold r3_word_S at h
 refine Meets.intro 41 Tryz.func81 Tryz.ntmps81 rfl (by simp) fun E => ?_
 show Tri _ E ⟨41, [], []⟩ _ ⟨[(0, .b (.agg (eBig x0)))], []⟩ _
 refine Tri.seq (Tri.regionL ?_)
 refine Oc (op_box (k := 101) rfl rfl) (Oc oa (Oc oa ?_))
 refine OpsL.nilS ⟨[(1, Pt 101 0)], [(101, .box 25 (eBig x0))]⟩ rfl (Tri.seq (Tri.regionL ?_))
 refine Oc (lp tyAgg25) ?_
 obtain ⟨x_1, e1, h⟩ := bnd h
 refine Oc (op_call0 (r3_Good_spec e1) goes15 rfl rfl) (Oc oa ?_)
 refine OpsL.nilS ⟨[(1, Pt 101 0), (4, B x_1)], [(101, .box 25 (eBig x0))]⟩ rfl (Tri.seq (Tri.seq (Tri.regionL ?_)))
 refine Oc om (Oc (op_not rfl) (Oc om ?_))
 refine CgF (!(!x_1)) [] (fun g2 => trivial) (fun g2 => op_field_p tyFld25_2 rfl rfl) (CgF (!(!x_1)) [12] (fun g3 => ⟨g3, trivial⟩) (fun g3 => op_index_p tyArr23 (by decide) (by decide) rfl rfl rfl) (CgF (!(!x_1)) [13] (fun g4 => ⟨g4, trivial⟩) (fun g4 => op_load_p1 tyOne22 rfl rfl rfl) (CgF (!(!x_1)) [14] (fun g5 => ⟨g5, trivial⟩) (fun g5 => op_geq rfl rfl) (Oc (op_pick_or (fun e => by rw [e]; rfl) rfl rfl rfl rfl) (OpsL.nilS ⟨[(1, Pt 101 0), (16, B ((!x_1) || (decide (1073741824 ≤ x0.W.a1))))], [(101, .box 25 (eBig x0))]⟩ rfl ?_)))))
 refine Tri.ite h rfl (fun _ h => ?_) (fun _ h => ?_)
 ·refine Tri.seq (Tri.regionL ?_)
  refine Oc oa (Oc oa ?_)
  refine OpsL.nilS ⟨[(2, I 0), (3, B false)], []⟩ rfl (Tri.ret (Fin.then_ret ?_))
  obtain rfl := Option.some.inj h
  refine Fin.keepS ⟨[(2, I 0), (3, B false)], []⟩ rfl (Fin.result' [.one (.i 0), .one (.bool false)] (.inl rfl) rfl (.cons (.tmp rfl) (.cons (.tmp rfl) .nil)) ⟨rfl, rfl⟩)
 ·refine Tri.skip (Fin.keepS ⟨[(1, Pt 101 0)], [(101, .box 25 (eBig x0))]⟩ rfl (Fin.then ?_))
  obtain ⟨v6, h7, h⟩ := bnd h
  refine Tri.seqJ (v := v6) (fun (_ : Unit) => ⟨[(1, Pt 101 0)], [(101, .box 25 (eBig x0))]⟩) (fun z => .inl z) ?_ ?_
  ·refine Tri.seq (Tri.regionL ?_)
   refine Oc oa (OpsL.nilS ⟨[(1, Pt 101 0), (5, I 2)], [(101, .box 25 (eBig x0))]⟩ rfl (Tri.block (Tri.loopJ h7 (fun (k_2 : Int) => ⟨[(1, Pt 101 0), (5, I k_2)], [(101, .box 25 (eBig x0))]⟩) [1, 5] [101] rfl ?_)))
   rintro k_2 o8 h9 hy10
   refine Tri.seq (Tri.seq (Tri.regionL ?_))
   refine Oc om (Oc (op_lss rfl rfl) ?_)
   refine OpsL.nilS ⟨[(1, Pt 101 0), (5, I k_2), (18, B (decide (k_2 < 16)))], [(101, .box 25 (eBig x0))]⟩ rfl (Tri.ite h9 rfl (fun _ h9 => ?_) (fun _ h9 => ?_))
   ·refine Tri.skip (Fin.keepS ⟨[(1, Pt 101 0), (5, I k_2)], [(101, .box 25 (eBig x0))]⟩ rfl (Fin.then (Tri.seq (Tri.block (Tri.seq (Tri.regionL ?_))))))
    refine Oc om (Oc (op_field_p tyFld25_2 rfl rfl) ?_)
    obtain ⟨x_3, e11, h9⟩ := bnd h9
    refine Oc (op_index_p tyArr23 (ix_lo e11) (ix_hi e11) rfl rfl rfl) (Oc (op_load_p1 tyOne22 rfl rfl (arr_get (post := []) (k := .u32) [.bool x0.Bad, .bool x0.Neg] e11 rfl rfl rfl)) (Oc (op_neq rfl rfl) ?_))
    refine OpsL.nilS ⟨[(1, Pt 101 0), (5, I k_2), (25, B (decide (x_3 ≠ 0)))], [(101, .box 25 (eBig x0))]⟩ rfl (Tri.ite h9 rfl (fun _ h9 => ?_) (fun _ h9 => ?_))
    ·refine Tri.seq (Tri.regionL ?_)
     refine Oc oa (Oc oa ?_)
     refine OpsL.nilS ⟨[(2, I 0), (3, B false)], []⟩ rfl (Tri.ret (Fin.block_ret (Fin.then_ret ?_)))
     obtain rfl := hy10 _ (Option.some.inj h9).symm
     refine Fin.then_ret (Fin.block_ret (Fin.then_ret ?_))
     obtain rfl := Option.some.inj h
     refine Fin.keepS ⟨[(2, I 0), (3, B false)], []⟩ rfl (Fin.result' [.one (.i 0), .one (.bool false)] (.inl rfl) rfl (.cons (.tmp rfl) (.cons (.tmp rfl) .nil)) ⟨rfl, rfl⟩)
    ·refine Tri.skip (Fin.block_normal (Fin.keepS ⟨[(1, Pt 101 0), (5, I k_2)], [(101, .box 25 (eBig x0))]⟩ rfl (Fin.then (Tri.regionL ?_))))
     refine Oc om (Oc (op_add rfl rfl) (Oc oa ?_))
     refine OpsL.nil ?_
     exact Fin.againJ [1, 5] [101] (IntKind.i64.wrap (k_2 + 1)) (Option.some.inj h9) rfl
   ·refine Tri.exit (Fin.then_exit ?_)
    obtain rfl := hy10 _ (Option.some.inj h9).symm
    refine Fin.then_exit (Fin.block_exit ?_)
    exact Fin.join [1] [101] () rfl rfl
  ·rintro _ hv
   subst v6
   refine Tri.seq (Tri.regionL ?_)
   refine Oc (op_field_p tyFld25_2 rfl rfl) (Oc (op_index_p tyArr23 (by decide) (by decide) rfl rfl rfl) (Oc (op_load_p1 tyOne22 rfl rfl rfl) (Oc (op_conv_wrap undi22 undi3 rfl) ?_)))
   refine OpsL.consI .i64 h rfl (op_mul rfl rfl) (fun x_4 h => ?_)
   refine Oc (op_field_p tyFld25_2 rfl rfl) (Oc (op_index_p tyArr23 (by decide) (by decide) rfl rfl rfl) ?_)
   refine OpsL.keepS ⟨[(1, Pt 101 0), (30, I x_4), (32, Pt 101 2)], [(101, .box 25 (eBig x0))]⟩ rfl (Oc (op_load_p1 tyOne22 rfl rfl rfl) (Oc (op_conv_wrap undi22 undi3 rfl) ?_))
   refine OpsL.consI .i64 h rfl (op_add rfl rfl) (fun x_5 h => ?_)
   refine Oc oa (OpsL.nilS ⟨[(1, Pt 101 0), (6, I x_5)], [(101, .box 25 (eBig x0))]⟩ rfl (Tri.seq (Tri.seq (Tri.regionL ?_))))
   refine Oc (op_field_p tyFld25_1 rfl rfl) (Oc (op_load_p1 tyOne4 rfl rfl rfl) ?_)
   refine OpsL.nilS ⟨[(6, I x_5), (37, B x0.Neg)], []⟩ rfl (Tri.ite h rfl (fun _ h => ?_) (fun _ h => ?_))
   ·refine Tri.seq (Tri.regionL ?_)
    refine Oc om (Oc (op_neg rfl) (Oc oa (Oc oa ?_)))
    refine OpsL.nilS ⟨[(2, I (IntKind.i64.wrap (-x_5))), (3, B true)], []⟩ rfl (Tri.ret (Fin.then_ret ?_))
    obtain rfl := Option.some.inj h
    refine Fin.keepS ⟨[(2, I (IntKind.i64.wrap (-x_5))), (3, B true)], []⟩ rfl (Fin.result' [.one (.i (IntKind.i64.wrap (-x_5))), .one (.bool true)] (.inl rfl) rfl (.cons (.tmp rfl) (.cons (.tmp rfl) .nil)) ⟨rfl, rfl⟩)
   ·refine Tri.skip (Fin.keepS ⟨[(6, I x_5)], []⟩ rfl (Fin.then (Tri.seq (Tri.regionL ?_))))
    refine Oc om (Oc oa (Oc oa ?_))
    refine OpsL.nilS ⟨[(2, I x_5), (3, B true)], []⟩ rfl (Tri.ret ?_)
    obtain rfl := Option.some.inj h
    refine Fin.keepS ⟨[(2, I x_5), (3, B true)], []⟩ rfl (Fin.result' [.one (.i x_5), .one (.bool true)] (.inl rfl) rfl (.cons (.tmp rfl) (.cons (.tmp rfl) .nil)) ⟨rfl, rfl⟩)
def r3_Bad_S (F : Nat) : Option Big :=
 some (⟨true, false, A16.zero⟩ : Big)
theorem r3_Bad_spec {F : Nat} {r : Big} (h : r3_Bad_S F = some r) : Meets Tryz.prog (tabs mx) 83 [] [] (Is [] (.b (.agg (eBig r)))) := by
 unfold r3_Bad_S at h
 refine Meets.intro 2 Tryz.func83 Tryz.ntmps83 rfl (by simp) fun E => ?_
 show Tri _ E ⟨2, [], []⟩ _ ⟨[], []⟩ _
 refine Tri.seq (Tri.regionL ?_)
 refine Oc (op_alloc (k := 101) tyZero25 rfl) (OpsL.nilS ⟨[(0, Pt 101 0)], [(101, .box 25 zBig)]⟩ rfl (Tri.seq (Tri.regionL ?_)))
 refine Oc (op_build tyBuild25 rfl rfl) (Oc (op_store_p tyAgg25 rfl rfl rfl rfl (Nat.le_of_ble_eq_true rfl) rfl) ?_)
 refine OpsL.nilS ⟨[(0, Pt 101 0)], [(101, .box 25 (.bool true :: .bool false :: (eW A16.zero)))]⟩ rfl (Tri.ret ?_)
 obtain rfl := Option.some.inj h
 refine Fin.keepS ⟨[(0, Pt 101 0)], [(101, .box 25 (.bool true :: .bool false :: (eW A16.zero)))]⟩ rfl (Fin.result' [.agg (.bool true :: .bool false :: (eW A16.zero))] (.inl rfl) rfl (.cons (.agg tyAgg25 rfl rfl rfl rfl) .nil) ⟨rfl, rfl⟩)
def r3_number_S (F : Nat) (neg0 : Bool) (l0 : List Int) : Option Big :=
 (r3_trim_S F l0).bind fun x_1 => if (decide (32 < (x_1.length : Int))) = true then ((r3_Bad_S F).bind fun x_2 => some x_2) else (letN (⟨false, neg0 && (decide (0 < (x_1.length : Int))), A16.zero⟩ : Big) fun x_3 => Option.bind (iter F (un2 fun out_5 k_6 => if (decide (k_6 < (x_1.length : Int))) = true then (Option.bind (if (decide ((Int.tmod k_6 2) = 0)) = true then ((quo? .i64 k_6 2).bind fun x_9 => (quo? .i64 k_6 2).bind fun x_10 => (idx? out_5.W.l x_10).bind fun x_11 => (idx? x_1 k_6).bind fun x_12 => (idx? out_5.W.l x_9).bind fun x_13 => some (⟨out_5.Bad, out_5.Neg, out_5.W.set x_9 (IntKind.u32.wrap (x_11 + (IntKind.u32.wrap x_12)))⟩ : Big)) else ((quo? .i64 k_6 2).bind fun x_14 => (quo? .i64 k_6 2).bind fun x_15 => (idx? out_5.W.l x_15).bind fun x_16 => (idx? x_1 k_6).bind fun x_17 => (idx? out_5.W.l x_14).bind fun x_18 => some (⟨out_5.Bad, out_5.Neg, out_5.W.set x_14 (IntKind.u32.wrap (x_16 + (IntKind.u32.wrap ((IntKind.u32.wrap x_17) * 65536))))⟩ : Big))) (fun out_8 => some (.inl (out_8, IntKind.i64.wrap (k_6 + 1))))) else (some (.inr out_5))) (x_3, 0)) (fun out_4 => some out_4))
theorem r3_number_spec {F : Nat} {neg0 : Bool} {l0 : List Int} {r : Big} (h : r3_number_S F neg0 l0 = some r) : Meets Tryz.prog (tabs mx) 76 [] [.one (.bool neg0), .one (.sl 1 (l0.map eI))] (Is [] (.b (.agg (eBig r)))) := by
 unfold r3_number_S at h
 refine Meets.intro 62 Tryz.func76 Tryz.ntmps76 rfl (by simp) fun E => ?_
 show Tri _ E ⟨62, [], []⟩ _ ⟨[(0, B neg0), (1, .b (.one (.sl 1 (l0.map eI))))], []⟩ _
 refine Tri.seq (Tri.regionL ?_)
 refine Oc (op_alloc (k := 101) tyZero25 rfl) (OpsL.nilS ⟨[(0, B neg0), (1, .b (.one (.sl 1 (l0.map eI)))), (4, Pt 101 0)], [(101, .box 25 zBig)]⟩ rfl (Tri.seq (Tri.regionL ?_)))
 refine Oc om ?_
 obtain ⟨x_1, e1, h⟩ := bnd h
 refine Oc (op_call0 (r3_trim_spec e1) goes119 rfl rfl) (Oc oa ?_)
 refine OpsL.nilS ⟨[(0, B neg0), (4, Pt 101 0), (5, .b (.one (.sl 1 (x_1.map eI))))], [(101, .box 25 zBig)]⟩ rfl (Tri.seq (Tri.seq (Tri.regionL ?_)))
 refine Oc om (Oc (op_len_e' und70 rfl (List.length_map _)) (Oc (op_gtr rfl rfl) ?_))
 refine OpsL.nilS ⟨[(0, B neg0), (4, Pt 101 0), (5, .b (.one (.sl 1 (x_1.map eI)))), (12, B (decide (32 < (x_1.length : Int))))], [(101, .box 25 zBig)]⟩ rfl (Tri.ite h rfl (fun _ h => ?_) (fun _ h => ?_))
 ·refine Tri.seq (Tri.regionL ?_)
  obtain ⟨x_2, e2, h⟩ := bnd h
  refine Oc (op_call0 (r3_Bad_spec e2) goes83 rfl rfl) (Oc (op_store_p tyAgg25 rfl rfl rfl rfl (Nat.le_of_ble_eq_true rfl) rfl) ?_)
  refine OpsL.nilS ⟨[(4, Pt 101 0)], [(101, .box 25 (eBig x_2))]⟩ rfl (Tri.ret (Fin.then_ret ?_))
  obtain rfl := Option.some.inj h
  refine Fin.keepS ⟨[(4, Pt 101 0)], [(101, .box 25 (eBig x_2))]⟩ rfl (Fin.result' [.agg (eBig x_2)] (.inl rfl) rfl (.cons (.agg tyAgg25 rfl rfl rfl rfl) .nil) ⟨rfl, rfl⟩)
 ·refine Tri.skip (Fin.keepS ⟨[(0, B neg0), (4, Pt 101 0), (5, .b (.one (.sl 1 (x_1.map eI))))], [(101, .box 25 zBig)]⟩ rfl (Fin.then (Tri.seq (Tri.regionL ?_))))
  refine Oc om (Oc om ?_)
  refine CgT neg0 [] (fun g3 => trivial) (fun g3 => om) (CgT neg0 [16] (fun g4 => by exact ⟨g4, trivial⟩) (fun g4 => op_len_e' und70 rfl (List.length_map _)) (CgT neg0 [17] (fun g5 => by exact ⟨g5, trivial⟩) (fun g5 => op_gtr rfl rfl) (Oc (op_pick_and (fun e => e) rfl rfl rfl rfl) (OpsL.keepS ⟨[(4, Pt 101 0), (5, .b (.one (.sl 1 (x_1.map eI)))), (19, B (neg0 && (decide (0 < (x_1.length : Int)))))], [(101, .box 25 zBig)]⟩ rfl (OpsL.consA eBig h rfl (op_build tyBuild25 rfl rfl) (fun x_3 h => ?_))))))
  refine Oc (op_alloc (k := 102) tyZero25 rfl) (Oc (op_store_p tyAgg25 rfl rfl rfl rfl (Nat.le_of_ble_eq_true rfl) rfl) ?_)
  refine OpsL.nilS ⟨[(4, Pt 101 0), (5, .b (.one (.sl 1 (x_1.map eI)))), (6, Pt 102 0)], [(101, .box 25 zBig), (102, .box 25 (eBig x_3))]⟩ rfl ?_
  obtain ⟨v6, h7, h⟩ := bnd h
  refine Tri.seqJ (v := v6) (fun (out_4 : Big) => ⟨[(4, Pt 101 0), (6, Pt 102 0)], [(101, .box 25 zBig), (102, .box 25 (eBig out_4))]⟩) (fun z => z) ?_ ?_
  ·refine Tri.seq (Tri.regionL ?_)
   refine Oc oa (OpsL.nilS ⟨[(4, Pt 101 0), (5, .b (.one (.sl 1 (x_1.map eI)))), (6, Pt 102 0), (7, I 0)], [(101, .box 25 zBig), (102, .box 25 (eBig x_3))]⟩ rfl (Tri.block (Tri.loopJ h7 (un2 fun (out_5 : Big) (k_6 : Int) => ⟨[(4, Pt 101 0), (5, .b (.one (.sl 1 (x_1.map eI)))), (6, Pt 102 0), (7, I k_6)], [(101, .box 25 zBig), (102, .box 25 (eBig out_5))]⟩) [4, 5, 6, 7] [101, 102] rfl ?_)))
   rintro ⟨out_5, k_6⟩ o8 h9 hy10
   refine Tri.seq (Tri.seq (Tri.regionL ?_))
   refine Oc om (Oc om (Oc (op_len_e' und70 rfl (List.length_map _)) (Oc (op_lss rfl rfl) ?_)))
   refine OpsL.nilS ⟨[(4, Pt 101 0), (5, .b (.one (.sl 1 (x_1.map eI)))), (6, Pt 102 0), (7, I k_6), (24, B (decide (k_6 < (x_1.length : Int))))], [(101, .box 25 zBig), (102, .box 25 (eBig out_5))]⟩ rfl (Tri.ite h9 rfl (fun _ h9 => ?_) (fun _ h9 => ?_))
   ·refine Tri.skip (Fin.keepS ⟨[(4, Pt 101 0), (5, .b (.one (.sl 1 (x_1.map eI)))), (6, Pt 102 0), (7, I k_6)], [(101, .box 25 zBig), (102, .box 25 (eBig out_5))]⟩ rfl (Fin.then ?_))
    obtain ⟨v11, h12, h9⟩ := bnd h9
    refine Tri.seqJ (v := v11) (fun (out_8 : Big) => ⟨[(4, Pt 101 0), (5, .b (.one (.sl 1 (x_1.map eI)))), (6, Pt 102 0), (7, I k_6)], [(101, .box 25 zBig), (102, .box 25 (eBig out_8))]⟩) (fun z => z) ?_ ?_
    ·refine Tri.block (Tri.seq (Tri.regionL ?_))
     refine Oc om (Oc (op_rem (by decide) rfl rfl) (Oc (op_eql rfl rfl) ?_))
     refine OpsL.nilS ⟨[(4, Pt 101 0), (5, .b (.one (.sl 1 (x_1.map eI)))), (6, Pt 102 0), (7, I k_6), (29, B (decide ((Int.tmod k_6 2) = 0)))], [(101, .box 25 zBig), (102, .box 25 (eBig out_5))]⟩ rfl (Tri.ite h12 rfl (fun _ h12 => ?_) (fun _ h12 => ?_))
     ·refine Tri.keepS ⟨[(4, Pt 101 0), (5, .b (.one (.sl 1 (x_1.map eI)))), (6, Pt 102 0), (7, I k_6)], [(101, .box 25 zBig), (102, .box 25 (eBig out_5))]⟩ rfl ?_
      obtain ⟨x_9, e13, h12⟩ := bnd h12
      obtain ⟨x_10, e14, h12⟩ := bnd h12
      obtain ⟨x_11, e15, h12⟩ := bnd h12
      obtain ⟨x_12, e16, h12⟩ := bnd h12
      obtain ⟨x_13, e17, h12⟩ := bnd h12
      refine Tri.regionYF mixed 15 [I k_6, I x_9, I k_6, I x_10, Pt 102 2, .b (.ptr 102 (2 + (x_10 : Int).toNat * 1)), .b (.one (.int .u32 x_11)), .b (.one (.sl 1 (x_1.map eI))), I k_6, .b (.eptr [.i x_12]), I x_12, .b (.one (.int .u32 (IntKind.u32.wrap x_12))), .b (.one (.int .u32 (IntKind.u32.wrap (x_11 + (IntKind.u32.wrap x_12))))), Pt 102 2, .b (.ptr 102 (2 + (x_9 : Int).toNat * 1))] [4, 5, 6, 7] [101, 102] (s' := ⟨[(4, Pt 101 0), (5, .b (.one (.sl 1 (x_1.map eI)))), (6, Pt 102 0), (7, I k_6)], [(101, .box 25 zBig), (102, .box 25 (.bool out_5.Bad :: .bool out_5.Neg :: (eW (out_5.W.set x_9 (IntKind.u32.wrap (x_11 + (IntKind.u32.wrap x_12)))))))]⟩) rfl ⟨fun _ => .p om, fun _ => .p (op_quo2 e13 rfl rfl), fun _ => .p om, fun _ => .p (op_quo2 e14 rfl rfl), fun _ => .p (op_field_p tyFld25_2 rfl rfl), fun _ => .p (op_index_p tyArr23 (ix_lo e15) (ix_hi e15) rfl rfl rfl), fun _ => .p (op_load_p1 tyOne22 rfl rfl (arr_get (post := []) (k := .u32) [.bool out_5.Bad, .bool out_5.Neg] e15 rfl rfl rfl)), fun _ => .p om, fun _ => .p om, fun _ => .p (op_index_e tySl70 (ix_lo e16) (ix_map (e := eI) e16) rfl rfl), fun _ => .p (op_load_e1 tyOne3 rfl rfl), fun _ => .p (op_conv_wrap undi3 undi22 rfl), fun _ => .p (op_add rfl rfl), fun _ => .p (op_field_p tyFld25_2 rfl rfl), fun _ => .p (op_index_p tyArr23 (ix_lo e17) (ix_hi e17) rfl rfl rfl), trivial⟩ ⟨_, by exact .p (op_store_p1 tyOne22 rfl rfl rfl (arr_lt (post := []) (k := .u32) [.bool out_5.Bad, .bool out_5.Neg] e17 rfl rfl rfl) (arr_set (post := []) (k := .u32) [.bool out_5.Bad, .bool out_5.Neg] e17 rfl rfl (A16.set_l out_5.W x_9 (IntKind.u32.wrap (x_11 + (IntKind.u32.wrap x_12)))) rfl rfl)), rfl⟩ rfl (Fin.block_normal ?_)
      exact Fin.join [4, 5, 6, 7] [101, 102] (⟨out_5.Bad, out_5.Neg, out_5.W.set x_9 (IntKind.u32.wrap (x_11 + (IntKind.u32.wrap x_12)))⟩ : Big) (Option.some.inj h12) rfl
     ·refine Tri.keepS ⟨[(4, Pt 101 0), (5, .b (.one (.sl 1 (x_1.map eI)))), (6, Pt 102 0), (7, I k_6)], [(101, .box 25 zBig), (102, .box 25 (eBig out_5))]⟩ rfl ?_
      obtain ⟨x_14, e18, h12⟩ := bnd h12
      obtain ⟨x_15, e19, h12⟩ := bnd h12
      obtain ⟨x_16, e20, h12⟩ := bnd h12
      obtain ⟨x_17, e21, h12⟩ := bnd h12
      obtain ⟨x_18, e22, h12⟩ := bnd h12
      refine Tri.regionYF mixed 16 [I k_6, I x_14, I k_6, I x_15, Pt 102 2, .b (.ptr 102 (2 + (x_15 : Int).toNat * 1)), .b (.one (.int .u32 x_16)), .b (.one (.sl 1 (x_1.map eI))), I k_6, .b (.eptr [.i x_17]), I x_17, .b (.one (.int .u32 (IntKind.u32.wrap x_17))), .b (.one (.int .u32 (IntKind.u32.wrap ((IntKind.u32.wrap x_17) * 65536)))), .b (.one (.int .u32 (IntKind.u32.wrap (x_16 + (IntKind.u32.wrap ((IntKind.u32.wrap x_17) * 65536)))))), Pt 102 2, .b (.ptr 102 (2 + (x_14 : Int).toNat * 1))] [4, 5, 6, 7] [101, 102] (s' := ⟨[(4, Pt 101 0), (5, .b (.one (.sl 1 (x_1.map eI)))), (6, Pt 102 0), (7, I k_6)], [(101, .box 25 zBig), (102, .box 25 (.bool out_5.Bad :: .bool out_5.Neg :: (eW (out_5.W.set x_14 (IntKind.u32.wrap (x_16 + (IntKind.u32.wrap ((IntKind.u32.wrap x_17) * 65536))))))))]⟩) rfl ⟨fun _ => .p om, fun _ => .p (op_quo2 e18 rfl rfl), fun _ => .p om, fun _ => .p (op_quo2 e19 rfl rfl), fun _ => .p (op_field_p tyFld25_2 rfl rfl), fun _ => .p (op_index_p tyArr23 (ix_lo e20) (ix_hi e20) rfl rfl rfl), fun _ => .p (op_load_p1 tyOne22 rfl rfl (arr_get (post := []) (k := .u32) [.bool out_5.Bad, .bool out_5.Neg] e20 rfl rfl rfl)), fun _ => .p om, fun _ => .p om, fun _ => .p (op_index_e tySl70 (ix_lo e21) (ix_map (e := eI) e21) rfl rfl), fun _ => .p (op_load_e1 tyOne3 rfl rfl), fun _ => .p (op_conv_wrap undi3 undi22 rfl), fun _ => .p (op_mul rfl rfl), fun _ => .p (op_add rfl rfl), fun _ => .p (op_field_p tyFld25_2 rfl rfl), fun _ => .p (op_index_p tyArr23 (ix_lo e22) (ix_hi e22) rfl rfl rfl), trivial⟩ ⟨_, by exact .p (op_store_p1 tyOne22 rfl rfl rfl (arr_lt (post := []) (k := .u32) [.bool out_5.Bad, .bool out_5.Neg] e22 rfl rfl rfl) (arr_set (post := []) (k := .u32) [.bool out_5.Bad, .bool out_5.Neg] e22 rfl rfl (A16.set_l out_5.W x_14 (IntKind.u32.wrap (x_16 + (IntKind.u32.wrap ((IntKind.u32.wrap x_17) * 65536))))) rfl rfl)), rfl⟩ rfl (Fin.block_normal ?_)
      exact Fin.join [4, 5, 6, 7] [101, 102] (⟨out_5.Bad, out_5.Neg, out_5.W.set x_14 (IntKind.u32.wrap (x_16 + (IntKind.u32.wrap ((IntKind.u32.wrap x_17) * 65536))))⟩ : Big) (Option.some.inj h12) rfl
    ·rintro out_8 hv
     subst v11
     refine Tri.regionL (Oc om (Oc (op_add rfl rfl) (Oc oa ?_)))
     refine OpsL.nil ?_
     exact Fin.againJ [4, 5, 6, 7] [101, 102] (out_8, IntKind.i64.wrap (k_6 + 1)) (Option.some.inj h9) rfl
   ·refine Tri.exit (Fin.then_exit ?_)
    obtain rfl := hy10 _ (Option.some.inj h9).symm
    refine Fin.then_exit (Fin.block_exit ?_)
    exact Fin.join [4, 6] [101, 102] out_5 rfl rfl
  ·rintro out_4 hv
   subst v6
   refine Tri.seq (Tri.regionL ?_)
   refine Oc (lp tyAgg25) (Oc (op_store_p tyAgg25 rfl rfl rfl rfl (Nat.le_of_ble_eq_true rfl) rfl) ?_)
   refine OpsL.nilS ⟨[(4, Pt 101 0)], [(101, .box 25 (eBig out_4))]⟩ rfl (Tri.ret ?_)
   obtain rfl := Option.some.inj h
   refine Fin.keepS ⟨[(4, Pt 101 0)], [(101, .box 25 (eBig out_4))]⟩ rfl (Fin.result' [.agg (eBig out_4)] (.inl rfl) rfl (.cons (.agg tyAgg25 rfl rfl rfl rfl) .nil) ⟨rfl, rfl⟩)
def r3_digit_S (F : Nat) (l0 : List Int) (k0 : Int) : Option Int :=
 if (decide (k0 < (l0.length : Int))) = true then ((idx? l0 k0).bind fun x_1 => some x_1) else (some 0)
theorem r3_digit_spec {F : Nat} {l0 : List Int} {k0 : Int} {r : Int} (h : r3_digit_S F l0 k0 = some r) : Meets Tryz.prog (tabs mx) 120 [] [.one (.sl 1 (l0.map eI)), .one (.i k0)] (Is [] (.b (.one (.i r)))) := by
 unfold r3_digit_S at h
 refine Meets.intro 13 Tryz.func120 Tryz.ntmps120 rfl (by simp) fun E => ?_
 show Tri _ E ⟨13, [], []⟩ _ ⟨[(0, .b (.one (.sl 1 (l0.map eI)))), (1, I k0)], []⟩ _
 refine Tri.seq (Tri.regionL ?_)
 refine Oc oa (OpsL.nilS ⟨[(0, .b (.one (.sl 1 (l0.map eI)))), (1, I k0)], []⟩ rfl (Tri.seq (Tri.seq (Tri.regionL ?_))))
 refine Oc om (Oc om (Oc (op_len_e' und70 rfl (List.length_map _)) (Oc (op_lss rfl rfl) ?_)))
 refine OpsL.nilS ⟨[(0, .b (.one (.sl 1 (l0.map eI)))), (1, I k0), (8, B (decide (k0 < (l0.length : Int))))], []⟩ rfl (Tri.ite h rfl (fun _ h => ?_) (fun _ h => ?_))
 ·refine Tri.seq (Tri.regionL ?_)
  refine Oc om (Oc om ?_)
  obtain ⟨x_1, e1, h⟩ := bnd h
  refine Oc (op_index_e tySl70 (ix_lo e1) (ix_map (e := eI) e1) rfl rfl) (Oc (op_load_e1 tyOne3 rfl rfl) (Oc oa ?_))
  refine OpsL.nilS ⟨[(4, I x_1)], []⟩ rfl (Tri.ret (Fin.then_ret ?_))
  obtain rfl := Option.some.inj h
  refine Fin.keepS ⟨[(4, I x_1)], []⟩ rfl (Fin.result' [.one (.i x_1)] (.inl rfl) rfl (.cons (.tmp rfl) .nil) ⟨rfl, rfl⟩)
 ·refine Tri.skip (Fin.keepS ⟨[], []⟩ rfl (Fin.then (Tri.seq (Tri.regionL ?_))))
  refine Oc oa (OpsL.nilS ⟨[(4, I 0)], []⟩ rfl (Tri.ret ?_))
  obtain rfl := Option.some.inj h
  refine Fin.keepS ⟨[(4, I 0)], []⟩ rfl (Fin.result' [.one (.i 0)] (.inl rfl) rfl (.cons (.tmp rfl) .nil) ⟨rfl, rfl⟩)
def r3_plus_S (F : Nat) (a0 : List Int) (b0 : List Int) : Option (List Int) :=
 Option.bind (iter F (un3 fun out_2 carry_3 k_4 => letN (max (a0.length : Int) (b0.length : Int)) fun x_6 => if (decide (k_4 < (IntKind.i64.wrap (x_6 + 1)))) = true then ((r3_digit_S F a0 k_4).bind fun x_7 => (r3_digit_S F b0 k_4).bind fun x_8 => letN (IntKind.i64.wrap ((IntKind.i64.wrap (x_7 + x_8)) + carry_3)) fun x_9 => (app? out_2 [Int.tmod x_9 65536]).bind fun x_10 => (quo? .i64 x_9 65536).bind fun x_11 => some (.inl (x_10, x_11, IntKind.i64.wrap (k_4 + 1)))) else (some (.inr out_2))) ([], 0, 0)) (fun out_1 => (r3_trim_S F out_1).bind fun x_12 => some x_12)
theorem r3_plus_spec {F : Nat} {a0 : List Int} {b0 : List Int} {r : (List Int)} (h : r3_plus_S F a0 b0 = some r) : Meets Tryz.prog (tabs mx) 77 [] [.one (.sl 1 (a0.map eI)), .one (.sl 1 (b0.map eI))] (Is [] (.b (.one (.sl 1 (r.map eI))))) := by
 unfold r3_plus_S at h
 refine Meets.intro 37 Tryz.func77 Tryz.ntmps77 rfl (by simp) fun E => ?_
 show Tri _ E ⟨37, [], []⟩ _ ⟨[(0, .b (.one (.sl 1 (a0.map eI)))), (1, .b (.one (.sl 1 (b0.map eI))))], []⟩ _
 refine Tri.seq (Tri.regionL ?_)
 refine Oc oa (OpsL.nilS ⟨[(0, .b (.one (.sl 1 (a0.map eI)))), (1, .b (.one (.sl 1 (b0.map eI))))], []⟩ rfl (Tri.seq (Tri.regionL ?_)))
 refine Oc oa (OpsL.nilS ⟨[(0, .b (.one (.sl 1 (a0.map eI)))), (1, .b (.one (.sl 1 (b0.map eI)))), (5, .b (.one (.nil)))], []⟩ rfl (Tri.seq (Tri.regionL ?_)))
 refine Oc oa (OpsL.nilS ⟨[(0, .b (.one (.sl 1 (a0.map eI)))), (1, .b (.one (.sl 1 (b0.map eI)))), (5, .b (.one (.nil))), (6, I 0)], []⟩ rfl ?_)
 obtain ⟨v1, h2, h⟩ := bnd h
 refine Tri.seqJ (v := v1) (fun (out_1 : List Int) => ⟨[(5, .b (.row 102))], [(102, .row 3 1 (out_1.map eI))]⟩) (fun z => z) ?_ ?_
 ·refine Tri.seq (Tri.regionL ?_)
  refine Oc oa (OpsL.nilS ⟨[(0, .b (.one (.sl 1 (a0.map eI)))), (1, .b (.one (.sl 1 (b0.map eI)))), (5, .b (.one (.nil))), (6, I 0), (7, I 0)], []⟩ rfl (Tri.block (Tri.nilrow 5 102 1 3 rfl (by decide) rfl (Tri.loopJ h2 (un3 fun (out_2 : List Int) (carry_3 : Int) (k_4 : Int) => ⟨[(0, .b (.one (.sl 1 (a0.map eI)))), (1, .b (.one (.sl 1 (b0.map eI)))), (5, .b (.row 102)), (6, I carry_3), (7, I k_4)], [(102, .row 3 1 (out_2.map eI))]⟩) [0, 1, 5, 6, 7] [102] rfl ?_))))
  rintro ⟨out_2, carry_3, k_4⟩ o3 h4 hy5
  refine Tri.seq (Tri.seq (Tri.regionL ?_))
  refine Oc om (Oc om (Oc (op_len_e' und70 rfl (List.length_map _)) (Oc om (Oc (op_len_e' und70 rfl (List.length_map _)) ?_))))
  refine OpsL.keepS ⟨[(0, .b (.one (.sl 1 (a0.map eI)))), (1, .b (.one (.sl 1 (b0.map eI)))), (5, .b (.row 102)), (6, I carry_3), (7, I k_4), (9, I k_4), (11, I (a0.length : Int)), (13, I (b0.length : Int))], [(102, .row 3 1 (out_2.map eI))]⟩ rfl (OpsL.consI .i64 h4 rfl (op_max rfl rfl) (fun x_6 h4 => ?_))
  refine Oc (op_add rfl rfl) (Oc (op_lss rfl rfl) ?_)
  refine OpsL.nilS ⟨[(0, .b (.one (.sl 1 (a0.map eI)))), (1, .b (.one (.sl 1 (b0.map eI)))), (5, .b (.row 102)), (6, I carry_3), (7, I k_4), (16, B (decide (k_4 < (IntKind.i64.wrap (x_6 + 1)))))], [(102, .row 3 1 (out_2.map eI))]⟩ rfl (Tri.ite h4 rfl (fun _ h4 => ?_) (fun _ h4 => ?_))
  ·refine Tri.skip (Fin.keepS ⟨[(0, .b (.one (.sl 1 (a0.map eI)))), (1, .b (.one (.sl 1 (b0.map eI)))), (5, .b (.row 102)), (6, I carry_3), (7, I k_4)], [(102, .row 3 1 (out_2.map eI))]⟩ rfl (Fin.then (Tri.seq (Tri.block (Tri.seq (Tri.regionL ?_))))))
   refine Oc om (Oc om ?_)
   obtain ⟨x_7, e6, h4⟩ := bnd h4
   refine Oc (op_call0 (r3_digit_spec e6) goes120 rfl rfl) (Oc om (Oc om ?_))
   refine OpsL.keepS ⟨[(0, .b (.one (.sl 1 (a0.map eI)))), (1, .b (.one (.sl 1 (b0.map eI)))), (5, .b (.row 102)), (6, I carry_3), (7, I k_4), (21, I x_7), (22, .b (.one (.sl 1 (b0.map eI)))), (23, I k_4)], [(102, .row 3 1 (out_2.map eI))]⟩ rfl ?_
   obtain ⟨x_8, e7, h4⟩ := bnd h4
   refine Oc (op_call0 (r3_digit_spec e7) goes120 rfl rfl) (Oc (op_add rfl rfl) (Oc om ?_))
   refine OpsL.consI .i64 h4 rfl (op_add rfl rfl) (fun x_9 h4 => ?_)
   refine Oc oa (OpsL.nilS ⟨[(0, .b (.one (.sl 1 (a0.map eI)))), (1, .b (.one (.sl 1 (b0.map eI)))), (5, .b (.row 102)), (7, I k_4), (8, I x_9)], [(102, .row 3 1 (out_2.map eI))]⟩ rfl (Tri.seq (Tri.regionL ?_)))
   refine Oc om (Oc om (Oc (op_rem (by decide) rfl rfl) (Oc (op_buildSlice (k := 103) (es := [Int.tmod x_9 65536].map eI) tySl70 rfl rfl (uni_map fun _ => rfl) rfl (by decide) (by decide) rfl) ?_)))
   obtain ⟨x_10, e8, h4⟩ := bnd h4
   refine Oc (op_append_r tySl70 (app_b e8) (app_m e8) rfl rfl rfl rfl (app_map e8) rfl) (Oc oa ?_)
   refine OpsL.nilS ⟨[(0, .b (.one (.sl 1 (a0.map eI)))), (1, .b (.one (.sl 1 (b0.map eI)))), (5, .b (.row 102)), (7, I k_4), (8, I x_9)], [(102, .row 3 1 (x_10.map eI))]⟩ rfl (Tri.regionL (Oc om ?_))
   obtain ⟨x_11, e9, h4⟩ := bnd h4
   refine Oc (op_quo2 e9 rfl rfl) (Oc oa ?_)
   refine OpsL.nil (Fin.block_normal (Fin.keepS ⟨[(0, .b (.one (.sl 1 (a0.map eI)))), (1, .b (.one (.sl 1 (b0.map eI)))), (5, .b (.row 102)), (6, I x_11), (7, I k_4)], [(102, .row 3 1 (x_10.map eI))]⟩ rfl (Fin.then (Tri.regionL ?_))))
   refine Oc om (Oc (op_add rfl rfl) (Oc oa ?_))
   refine OpsL.nil ?_
   exact Fin.againJ [0, 1, 5, 6, 7] [102] (x_10, x_11, IntKind.i64.wrap (k_4 + 1)) (Option.some.inj h4) rfl
  ·refine Tri.exit (Fin.then_exit ?_)
   obtain rfl := hy5 _ (Option.some.inj h4).symm
   refine Fin.then_exit (Fin.block_exit ?_)
   exact Fin.join [5] [102] out_2 rfl rfl
 ·rintro out_1 hv
  subst v1
  refine Tri.seq (Tri.regionL ?_)
  refine Oc om (OpsL.persist 102 rfl ?_)
  obtain ⟨x_12, e10, h⟩ := bnd h
  refine Oc (op_call0 (r3_trim_spec e10) goes119 rfl rfl) (Oc oa ?_)
  refine OpsL.nilS ⟨[(4, .b (.one (.sl 1 (x_12.map eI))))], []⟩ rfl (Tri.ret ?_)
  obtain rfl := Option.some.inj h
  refine Fin.keepS ⟨[(4, .b (.one (.sl 1 (x_12.map eI))))], []⟩ rfl (Fin.result' [.one (.sl 1 (x_12.map eI))] (.inl rfl) rfl (.cons (.tmp rfl) .nil) ⟨rfl, rfl⟩)
def r3_Of_S (F : Nat) (n0 : Int) : Option Big :=
 if (decide (0 ≤ n0)) = true then ((quo? .i64 n0 65536).bind fun x_1 => (quo? .i64 n0 4294967296).bind fun x_2 => (quo? .i64 n0 281474976710656).bind fun x_3 => (r3_number_S F false [Int.tmod n0 65536, Int.tmod x_1 65536, Int.tmod x_2 65536, x_3]).bind fun x_4 => some x_4) else (letN (IntKind.i64.wrap (-(IntKind.i64.wrap (n0 + 1)))) fun x_5 => (quo? .i64 x_5 65536).bind fun x_6 => (quo? .i64 x_5 4294967296).bind fun x_7 => (quo? .i64 x_5 281474976710656).bind fun x_8 => (r3_plus_S F [Int.tmod x_5 65536, Int.tmod x_6 65536, Int.tmod x_7 65536, x_8] [1]).bind fun x_9 => (r3_number_S F true x_9).bind fun x_10 => some x_10)
theorem r3_Of_spec {F : Nat} {n0 : Int} {r : Big} (h : r3_Of_S F n0 = some r) : Meets Tryz.prog (tabs mx) 12 [] [.one (.i n0)] (Is [] (.b (.agg (eBig r)))) := by
 unfold r3_Of_S at h
 refine Meets.intro 35 Tryz.func12 Tryz.ntmps12 rfl (by simp) fun E => ?_
 show Tri _ E ⟨35, [], []⟩ _ ⟨[(0, I n0)], []⟩ _
 refine Tri.seq (Tri.regionL ?_)
 refine Oc (op_alloc (k := 101) tyZero25 rfl) (OpsL.nilS ⟨[(0, I n0), (2, Pt 101 0)], [(101, .box 25 zBig)]⟩ rfl (Tri.seq (Tri.seq (Tri.regionL ?_))))
 refine Oc om (Oc (op_geq rfl rfl) ?_)
 refine OpsL.nilS ⟨[(0, I n0), (2, Pt 101 0), (5, B (decide (0 ≤ n0)))], [(101, .box 25 zBig)]⟩ rfl (Tri.ite h rfl (fun _ h => ?_) (fun _ h => ?_))
 ·refine Tri.seq (Tri.regionL ?_)
  refine Oc om (Oc (op_rem (by decide) rfl rfl) (Oc om ?_))
  obtain ⟨x_1, e1, h⟩ := bnd h
  refine Oc (op_quo2 e1 rfl rfl) (Oc (op_rem (by decide) rfl rfl) (Oc om ?_))
  obtain ⟨x_2, e2, h⟩ := bnd h
  refine Oc (op_quo2 e2 rfl rfl) (OpsL.keepS ⟨[(0, I n0), (2, Pt 101 0), (7, I (Int.tmod n0 65536)), (10, I (Int.tmod x_1 65536)), (12, I x_2)], [(101, .box 25 zBig)]⟩ rfl (Oc (op_rem (by decide) rfl rfl) (Oc om ?_)))
  obtain ⟨x_3, e3, h⟩ := bnd h
  refine Oc (op_quo2 e3 rfl rfl) (Oc (op_buildSlice (k := 102) (es := [Int.tmod n0 65536, Int.tmod x_1 65536, Int.tmod x_2 65536, x_3].map eI) tySl70 rfl rfl (uni_map fun _ => rfl) rfl (by decide) (by decide) rfl) ?_)
  obtain ⟨x_4, e4, h⟩ := bnd h
  refine Oc (op_callB (r3_number_spec e4) goes76 rfl (flat_agg ⟨CP.flat_bool, CP.flat_bool, CP.flat_int, CP.flat_int, CP.flat_int, CP.flat_int, CP.flat_int, CP.flat_int, CP.flat_int, CP.flat_int, CP.flat_int, CP.flat_int, CP.flat_int, CP.flat_int, CP.flat_int, CP.flat_int, CP.flat_int, CP.flat_int, trivial⟩)) (Oc (op_store_p tyAgg25 rfl rfl rfl rfl (Nat.le_of_ble_eq_true rfl) rfl) ?_)
  refine OpsL.nilS ⟨[(2, Pt 101 0)], [(101, .box 25 (eBig x_4))]⟩ rfl (Tri.ret (Fin.then_ret ?_))
  obtain rfl := Option.some.inj h
  refine Fin.keepS ⟨[(2, Pt 101 0)], [(101, .box 25 (eBig x_4))]⟩ rfl (Fin.result' [.agg (eBig x_4)] (.inl rfl) rfl (.cons (.agg tyAgg25 rfl rfl rfl rfl) .nil) ⟨rfl, rfl⟩)
 ·refine Tri.skip (Fin.keepS ⟨[(0, I n0), (2, Pt 101 0)], [(101, .box 25 zBig)]⟩ rfl (Fin.then (Tri.seq (Tri.regionL ?_))))
  refine Oc om (Oc (op_add rfl rfl) ?_)
  refine OpsL.consI .i64 h rfl (op_neg rfl) (fun x_5 h => ?_)
  refine Oc oa (OpsL.nilS ⟨[(2, Pt 101 0), (3, I x_5)], [(101, .box 25 zBig)]⟩ rfl (Tri.seq (Tri.regionL ?_)))
  refine Oc om (Oc (op_rem (by decide) rfl rfl) (Oc om ?_))
  obtain ⟨x_6, e5, h⟩ := bnd h
  refine Oc (op_quo2 e5 rfl rfl) (Oc (op_rem (by decide) rfl rfl) (Oc om ?_))
  obtain ⟨x_7, e6, h⟩ := bnd h
  refine Oc (op_quo2 e6 rfl rfl) (OpsL.keepS ⟨[(2, Pt 101 0), (3, I x_5), (22, I (Int.tmod x_5 65536)), (25, I (Int.tmod x_6 65536)), (27, I x_7)], [(101, .box 25 zBig)]⟩ rfl (Oc (op_rem (by decide) rfl rfl) (Oc om ?_)))
  obtain ⟨x_8, e7, h⟩ := bnd h
  refine Oc (op_quo2 e7 rfl rfl) (Oc (op_buildSlice (k := 103) (es := [Int.tmod x_5 65536, Int.tmod x_6 65536, Int.tmod x_7 65536, x_8].map eI) tySl70 rfl rfl (uni_map fun _ => rfl) rfl (by decide) (by decide) rfl) (Oc (op_buildSlice (k := 104) (es := [1].map eI) tySl70 rfl rfl (uni_map fun _ => rfl) rfl (by decide) (by decide) rfl) ?_))
  refine OpsL.persist 103 rfl (OpsL.persist 104 rfl (OpsL.keepS ⟨[(2, Pt 101 0), (31, .b (.one (.sl 1 ([Int.tmod x_5 65536, Int.tmod x_6 65536, Int.tmod x_7 65536, x_8].map eI)))), (32, .b (.one (.sl 1 ([1].map eI))))], [(101, .box 25 zBig)]⟩ rfl ?_))
  obtain ⟨x_9, e8, h⟩ := bnd h
  refine Oc (op_call0 (r3_plus_spec e8) goes77 rfl rfl) ?_
  obtain ⟨x_10, e9, h⟩ := bnd h
  refine Oc (op_call0 (r3_number_spec e9) goes76 rfl rfl) (Oc (op_store_p tyAgg25 rfl rfl rfl rfl (Nat.le_of_ble_eq_true rfl) rfl) ?_)
  refine OpsL.nilS ⟨[(2, Pt 101 0)], [(101, .box 25 (eBig x_10))]⟩ rfl (Tri.ret ?_)
  obtain rfl := Option.some.inj h
  refine Fin.keepS ⟨[(2, Pt 101 0)], [(101, .box 25 (eBig x_10))]⟩ rfl (Fin.result' [.agg (eBig x_10)] (.inl rfl) rfl (.cons (.agg tyAgg25 rfl rfl rfl rfl) .nil) ⟨rfl, rfl⟩)
def r3_Abs_S (F : Nat) (x0 : Big) : Option Big :=
 (r3_Good_S F x0).bind fun x_1 => if (!x_1) = true then ((r3_Bad_S F).bind fun x_2 => some x_2) else ((r3_digits_S F x0).bind fun x_3 => (r3_number_S F false x_3).bind fun x_4 => some x_4)
theorem r3_Abs_spec {F : Nat} {x0 : Big} {r : Big} (h : r3_Abs_S F x0 = some r) : Meets Tryz.prog (tabs mx) 111 [] [.agg (eBig x0)] (Is [] (.b (.agg (eBig r)))) := by
 unfold r3_Abs_S at h
 refine Meets.intro 10 Tryz.func111 Tryz.ntmps111 rfl (by simp) fun E => ?_
 show Tri _ E ⟨10, [], []⟩ _ ⟨[(0, .b (.agg (eBig x0)))], []⟩ _
 refine Tri.seq (Tri.regionL ?_)
 refine Oc (op_box (k := 101) rfl rfl) (Oc (op_alloc (k := 102) tyZero25 rfl) ?_)
 refine OpsL.nilS ⟨[(1, Pt 101 0), (2, Pt 102 0)], [(101, .box 25 (eBig x0)), (102, .box 25 zBig)]⟩ rfl (Tri.seq (Tri.seq (Tri.regionL ?_)))
 refine Oc (lp tyAgg25) ?_
 obtain ⟨x_1, e1, h⟩ := bnd h
 refine Oc (op_call0 (r3_Good_spec e1) goes15 rfl rfl) (Oc (op_not rfl) ?_)
 refine OpsL.nilS ⟨[(1, Pt 101 0), (2, Pt 102 0), (5, B (!x_1))], [(101, .box 25 (eBig x0)), (102, .box 25 zBig)]⟩ rfl (Tri.ite h rfl (fun _ h => ?_) (fun _ h => ?_))
 ·refine Tri.seq (Tri.regionL ?_)
  obtain ⟨x_2, e2, h⟩ := bnd h
  refine Oc (op_call0 (r3_Bad_spec e2) goes83 rfl rfl) (Oc (op_store_p tyAgg25 rfl rfl rfl rfl (Nat.le_of_ble_eq_true rfl) rfl) ?_)
  refine OpsL.nilS ⟨[(2, Pt 102 0)], [(102, .box 25 (eBig x_2))]⟩ rfl (Tri.ret (Fin.then_ret ?_))
  obtain rfl := Option.some.inj h
  refine Fin.keepS ⟨[(2, Pt 102 0)], [(102, .box 25 (eBig x_2))]⟩ rfl (Fin.result' [.agg (eBig x_2)] (.inl rfl) rfl (.cons (.agg tyAgg25 rfl rfl rfl rfl) .nil) ⟨rfl, rfl⟩)
 ·refine Tri.skip (Fin.keepS ⟨[(1, Pt 101 0), (2, Pt 102 0)], [(101, .box 25 (eBig x0)), (102, .box 25 zBig)]⟩ rfl (Fin.then (Tri.seq (Tri.regionL ?_))))
  refine Oc (lp tyAgg25) ?_
  obtain ⟨x_3, e3, h⟩ := bnd h
  refine Oc (op_call0 (r3_digits_spec e3) goes85 rfl rfl) ?_
  obtain ⟨x_4, e4, h⟩ := bnd h
  refine Oc (op_call0 (r3_number_spec e4) goes76 rfl rfl) (Oc (op_store_p tyAgg25 rfl rfl rfl rfl (Nat.le_of_ble_eq_true rfl) rfl) ?_)
  refine OpsL.nilS ⟨[(2, Pt 102 0)], [(102, .box 25 (eBig x_4))]⟩ rfl (Tri.ret ?_)
  obtain rfl := Option.some.inj h
  refine Fin.keepS ⟨[(2, Pt 102 0)], [(102, .box 25 (eBig x_4))]⟩ rfl (Fin.result' [.agg (eBig x_4)] (.inl rfl) rfl (.cons (.agg tyAgg25 rfl rfl rfl rfl) .nil) ⟨rfl, rfl⟩)
def r3_at_S (F : Nat) (l0 : List Int) (k0 : Int) : Option Int :=
 if (decide (k0 < 0)) = true then (some 0) else ((r3_digit_S F l0 k0).bind fun x_1 => some x_1)
theorem r3_at_spec {F : Nat} {l0 : List Int} {k0 : Int} {r : Int} (h : r3_at_S F l0 k0 = some r) : Meets Tryz.prog (tabs mx) 144 [] [.one (.sl 1 (l0.map eI)), .one (.i k0)] (Is [] (.b (.one (.i r)))) := by
 unfold r3_at_S at h
 refine Meets.intro 10 Tryz.func144 Tryz.ntmps144 rfl (by simp) fun E => ?_
 show Tri _ E ⟨10, [], []⟩ _ ⟨[(0, .b (.one (.sl 1 (l0.map eI)))), (1, I k0)], []⟩ _
 refine Tri.seq (Tri.regionL ?_)
 refine Oc oa (OpsL.nilS ⟨[(0, .b (.one (.sl 1 (l0.map eI)))), (1, I k0)], []⟩ rfl (Tri.seq (Tri.seq (Tri.regionL ?_))))
 refine Oc om (Oc (op_lss rfl rfl) ?_)
 refine OpsL.nilS ⟨[(0, .b (.one (.sl 1 (l0.map eI)))), (1, I k0), (6, B (decide (k0 < 0)))], []⟩ rfl (Tri.ite h rfl (fun _ h => ?_) (fun _ h => ?_))
 ·refine Tri.seq (Tri.regionL ?_)
  refine Oc oa (OpsL.nilS ⟨[(4, I 0)], []⟩ rfl (Tri.ret (Fin.then_ret ?_)))
  obtain rfl := Option.some.inj h
  refine Fin.keepS ⟨[(4, I 0)], []⟩ rfl (Fin.result' [.one (.i 0)] (.inl rfl) rfl (.cons (.tmp rfl) .nil) ⟨rfl, rfl⟩)
 ·refine Tri.skip (Fin.keepS ⟨[(0, .b (.one (.sl 1 (l0.map eI)))), (1, I k0)], []⟩ rfl (Fin.then (Tri.seq (Tri.regionL ?_))))
  refine Oc om (Oc om ?_)
  obtain ⟨x_1, e1, h⟩ := bnd h
  refine Oc (op_call0 (r3_digit_spec e1) goes120 rfl rfl) (Oc oa ?_)
  refine OpsL.nilS ⟨[(4, I x_1)], []⟩ rfl (Tri.ret ?_)
  obtain rfl := Option.some.inj h
  refine Fin.keepS ⟨[(4, I x_1)], []⟩ rfl (Fin.result' [.one (.i x_1)] (.inl rfl) rfl (.cons (.tmp rfl) .nil) ⟨rfl, rfl⟩)
def r3_times_S (F : Nat) (a0 : List Int) (b0 : List Int) : Option (List Int) :=
 letN (IntKind.i64.wrap ((a0.length : Int) + (b0.length : Int))) fun x_1 => Option.bind (mk? (0 : Int) (IntKind.i64.wrap (x_1 + 1)) (IntKind.i64.wrap (x_1 + 1))) (fun x_2 => Option.bind (iter F (un2 fun out_4 i_5 => if (decide (i_5 < (a0.length : Int))) = true then (Option.bind (Option.bind (iter F (un2 fun out_9 k_10 => if (decide (k_10 < (b0.length : Int))) = true then ((idx? out_9 (IntKind.i64.wrap (i_5 + k_10))).bind fun x_12 => (idx? a0 i_5).bind fun x_13 => (idx? b0 k_10).bind fun x_14 => (idx? out_9 (IntKind.i64.wrap (i_5 + k_10))).bind fun x_15 => some (.inl (out_9.set (IntKind.i64.wrap (i_5 + k_10) : Int).toNat (IntKind.i64.wrap (x_12 + (IntKind.i64.wrap (x_13 * x_14)))), IntKind.i64.wrap (k_10 + 1)))) else (some (.inr out_9))) (out_4, 0)) (fun out_8 => Option.bind (iter F (un3 fun out_16 carry_17 k_18 => if (decide (k_18 < (out_16.length : Int))) = true then ((idx? out_16 k_18).bind fun x_20 => letN (Int.tmod (IntKind.i64.wrap (x_20 + carry_17)) 65536) fun x_21 => (idx? out_16 k_18).bind fun x_22 => (quo? .i64 (IntKind.i64.wrap (x_20 + carry_17)) 65536).bind fun x_23 => some (.inl (out_16.set (k_18 : Int).toNat x_21, x_23, IntKind.i64.wrap (k_18 + 1)))) else (some (.inr out_16))) (out_8, 0, 0)) (fun out_19 => some out_19))) (fun out_7 => some (.inl (out_7, IntKind.i64.wrap (i_5 + 1))))) else (some (.inr out_4))) (x_2, 0)) (fun out_3 => (r3_trim_S F out_3).bind fun x_24 => some x_24))
theorem r3_times_spec {F : Nat} {a0 : List Int} {b0 : List Int} {r : (List Int)} (h : r3_times_S F a0 b0 = some r) : Meets Tryz.prog (tabs mx) 84 [] [.one (.sl 1 (a0.map eI)), .one (.sl 1 (b0.map eI))] (Is [] (.b (.one (.sl 1 (r.map eI))))) := by
 unfold r3_times_S at h
 refine Meets.intro 72 Tryz.func84 Tryz.ntmps84 rfl (by simp) fun E => ?_
 show Tri _ E ⟨72, [], []⟩ _ ⟨[(0, .b (.one (.sl 1 (a0.map eI)))), (1, .b (.one (.sl 1 (b0.map eI))))], []⟩ _
 refine Tri.seq (Tri.regionL ?_)
 refine Oc oa (OpsL.nilS ⟨[(0, .b (.one (.sl 1 (a0.map eI)))), (1, .b (.one (.sl 1 (b0.map eI))))], []⟩ rfl (Tri.seq (Tri.regionL ?_)))
 refine Oc om (Oc (op_len_e' und70 rfl (List.length_map _)) (Oc om (Oc (op_len_e' und70 rfl (List.length_map _)) ?_)))
 refine OpsL.consI .i64 h rfl (op_add rfl rfl) (fun x_1 h => ?_)
 refine OpsL.keepS ⟨[(0, .b (.one (.sl 1 (a0.map eI)))), (1, .b (.one (.sl 1 (b0.map eI)))), (15, I x_1)], []⟩ rfl (Oc (op_add rfl rfl) ?_)
 obtain ⟨x_2, e1, h⟩ := bnd h
 refine Oc (op_makeSlice (k := 101) (enc := eI) tySl70 e1 (by decide) (.cons .refl .nil) rfl rfl rfl) (Oc oa ?_)
 refine OpsL.nilS ⟨[(0, .b (.one (.sl 1 (a0.map eI)))), (1, .b (.one (.sl 1 (b0.map eI)))), (5, .b (.row 101))], [(101, .row 3 1 (x_2.map eI))]⟩ rfl ?_
 obtain ⟨v2, h3, h⟩ := bnd h
 refine Tri.seqJ (v := v2) (fun (out_3 : List Int) => ⟨[(5, .b (.row 101))], [(101, .row 3 1 (out_3.map eI))]⟩) (fun z => z) ?_ ?_
 ·refine Tri.seq (Tri.regionL ?_)
  refine Oc oa (OpsL.nilS ⟨[(0, .b (.one (.sl 1 (a0.map eI)))), (1, .b (.one (.sl 1 (b0.map eI)))), (5, .b (.row 101)), (6, I 0)], [(101, .row 3 1 (x_2.map eI))]⟩ rfl (Tri.block (Tri.loopJ h3 (un2 fun (out_4 : List Int) (i_5 : Int) => ⟨[(0, .b (.one (.sl 1 (a0.map eI)))), (1, .b (.one (.sl 1 (b0.map eI)))), (5, .b (.row 101)), (6, I i_5)], [(101, .row 3 1 (out_4.map eI))]⟩) [0, 1, 5, 6] [101] rfl ?_)))
  rintro ⟨out_4, i_5⟩ o4 h5 hy6
  refine Tri.seq (Tri.seq (Tri.regionL ?_))
  refine Oc om (Oc om (Oc (op_len_e' und70 rfl (List.length_map _)) (Oc (op_lss rfl rfl) ?_)))
  refine OpsL.nilS ⟨[(0, .b (.one (.sl 1 (a0.map eI)))), (1, .b (.one (.sl 1 (b0.map eI)))), (5, .b (.row 101)), (6, I i_5), (21, B (decide (i_5 < (a0.length : Int))))], [(101, .row 3 1 (out_4.map eI))]⟩ rfl (Tri.ite h5 rfl (fun _ h5 => ?_) (fun _ h5 => ?_))
  ·refine Tri.skip (Fin.keepS ⟨[(0, .b (.one (.sl 1 (a0.map eI)))), (1, .b (.one (.sl 1 (b0.map eI)))), (5, .b (.row 101)), (6, I i_5)], [(101, .row 3 1 (out_4.map eI))]⟩ rfl (Fin.then ?_))
   obtain ⟨v7, h8, h5⟩ := bnd h5
   refine Tri.seqJ (v := v7) (fun (out_7 : List Int) => ⟨[(0, .b (.one (.sl 1 (a0.map eI)))), (1, .b (.one (.sl 1 (b0.map eI)))), (5, .b (.row 101)), (6, I i_5)], [(101, .row 3 1 (out_7.map eI))]⟩) (fun z => z) ?_ ?_
   ·refine Tri.block ?_
    obtain ⟨v9, h10, h8⟩ := bnd h8
    refine Tri.seqJ (v := v9) (fun (out_8 : List Int) => ⟨[(0, .b (.one (.sl 1 (a0.map eI)))), (1, .b (.one (.sl 1 (b0.map eI)))), (5, .b (.row 101)), (6, I i_5)], [(101, .row 3 1 (out_8.map eI))]⟩) (fun z => z) ?_ ?_
    ·refine Tri.seq (Tri.regionL ?_)
     refine Oc oa (OpsL.nilS ⟨[(0, .b (.one (.sl 1 (a0.map eI)))), (1, .b (.one (.sl 1 (b0.map eI)))), (5, .b (.row 101)), (6, I i_5), (7, I 0)], [(101, .row 3 1 (out_4.map eI))]⟩ rfl (Tri.block (Tri.loopJ h10 (un2 fun (out_9 : List Int) (k_10 : Int) => ⟨[(0, .b (.one (.sl 1 (a0.map eI)))), (1, .b (.one (.sl 1 (b0.map eI)))), (5, .b (.row 101)), (6, I i_5), (7, I k_10)], [(101, .row 3 1 (out_9.map eI))]⟩) [0, 1, 5, 6, 7] [101] rfl ?_)))
     rintro ⟨out_9, k_10⟩ o11 h12 hy13
     refine Tri.seq (Tri.seq (Tri.regionL ?_))
     refine Oc om (Oc om (Oc (op_len_e' und70 rfl (List.length_map _)) (Oc (op_lss rfl rfl) ?_)))
     refine OpsL.nilS ⟨[(0, .b (.one (.sl 1 (a0.map eI)))), (1, .b (.one (.sl 1 (b0.map eI)))), (5, .b (.row 101)), (6, I i_5), (7, I k_10), (27, B (decide (k_10 < (b0.length : Int))))], [(101, .row 3 1 (out_9.map eI))]⟩ rfl (Tri.ite h12 rfl (fun _ h12 => ?_) (fun _ h12 => ?_))
     ·refine Tri.skip (Fin.keepS ⟨[(0, .b (.one (.sl 1 (a0.map eI)))), (1, .b (.one (.sl 1 (b0.map eI)))), (5, .b (.row 101)), (6, I i_5), (7, I k_10)], [(101, .row 3 1 (out_9.map eI))]⟩ rfl (Fin.then (Tri.seq (Tri.block ?_))))
      refine Tri.keepS ⟨[(0, .b (.one (.sl 1 (a0.map eI)))), (1, .b (.one (.sl 1 (b0.map eI)))), (5, .b (.row 101)), (6, I i_5), (7, I k_10)], [(101, .row 3 1 (out_9.map eI))]⟩ rfl ?_
      obtain ⟨x_12, e14, h12⟩ := bnd h12
      obtain ⟨x_13, e15, h12⟩ := bnd h12
      obtain ⟨x_14, e16, h12⟩ := bnd h12
      obtain ⟨x_15, e17, h12⟩ := bnd h12
      refine Tri.regionYF mixed 21 [.b (.row 101), I i_5, I k_10, I (IntKind.i64.wrap (i_5 + k_10)), .b (.row 101), I i_5, I k_10, I (IntKind.i64.wrap (i_5 + k_10)), .b (.rptr 101 ((IntKind.i64.wrap (i_5 + k_10) : Int).toNat * 1)), I x_12, .b (.one (.sl 1 (a0.map eI))), I i_5, .b (.eptr [.i x_13]), I x_13, .b (.one (.sl 1 (b0.map eI))), I k_10, .b (.eptr [.i x_14]), I x_14, I (IntKind.i64.wrap (x_13 * x_14)), I (IntKind.i64.wrap (x_12 + (IntKind.i64.wrap (x_13 * x_14)))), .b (.rptr 101 ((IntKind.i64.wrap (i_5 + k_10) : Int).toNat * 1))] [0, 1, 5, 6, 7] [101] (s' := ⟨[(0, .b (.one (.sl 1 (a0.map eI)))), (1, .b (.one (.sl 1 (b0.map eI)))), (5, .b (.row 101)), (6, I i_5), (7, I k_10)], [(101, .row 3 1 ((out_9.set (IntKind.i64.wrap (i_5 + k_10) : Int).toNat (IntKind.i64.wrap (x_12 + (IntKind.i64.wrap (x_13 * x_14))))).map eI))]⟩) rfl ⟨fun _ => .p om, fun _ => .p om, fun _ => .p om, fun _ => .p (op_add rfl rfl), fun _ => .p om, fun _ => .p om, fun _ => .p om, fun _ => .p (op_add rfl rfl), fun _ => .p (op_index_r tySl70 (ix_lo e14) (ix_lt' e14) rfl rfl rfl rfl), fun _ => .p (op_load_r1 (i := (IntKind.i64.wrap (i_5 + k_10) : Int).toNat) (f := 0) tyOne3 rfl rfl rfl (ix_map (e := eI) e14) rfl), fun _ => .p om, fun _ => .p om, fun _ => .p (op_index_e tySl70 (ix_lo e15) (ix_map (e := eI) e15) rfl rfl), fun _ => .p (op_load_e1 tyOne3 rfl rfl), fun _ => .p om, fun _ => .p om, fun _ => .p (op_index_e tySl70 (ix_lo e16) (ix_map (e := eI) e16) rfl rfl), fun _ => .p (op_load_e1 tyOne3 rfl rfl), fun _ => .p (op_mul rfl rfl), fun _ => .p (op_add rfl rfl), fun _ => .p (op_index_r tySl70 (ix_lo e17) (ix_lt' e17) rfl rfl rfl rfl), trivial⟩ ⟨_, by exact .p (op_store_r1 (i := (IntKind.i64.wrap (i_5 + k_10) : Int).toNat) tyOne3 rfl rfl rfl rfl (ix_lt e17) (map_set _ _ _ _)), rfl⟩ rfl (Fin.block_normal (Fin.keepS ⟨[(0, .b (.one (.sl 1 (a0.map eI)))), (1, .b (.one (.sl 1 (b0.map eI)))), (5, .b (.row 101)), (6, I i_5), (7, I k_10)], [(101, .row 3 1 ((out_9.set (IntKind.i64.wrap (i_5 + k_10) : Int).toNat (IntKind.i64.wrap (x_12 + (IntKind.i64.wrap (x_13 * x_14))))).map eI))]⟩ rfl (Fin.then (Tri.regionL ?_))))
      refine Oc om (Oc (op_add rfl rfl) (Oc oa ?_))
      refine OpsL.nil ?_
      exact Fin.againJ [0, 1, 5, 6, 7] [101] (out_9.set (IntKind.i64.wrap (i_5 + k_10) : Int).toNat (IntKind.i64.wrap (x_12 + (IntKind.i64.wrap (x_13 * x_14)))), IntKind.i64.wrap (k_10 + 1)) (Option.some.inj h12) rfl
     ·refine Tri.exit (Fin.then_exit ?_)
      obtain rfl := hy13 _ (Option.some.inj h12).symm
      refine Fin.then_exit (Fin.block_exit ?_)
      exact Fin.join [0, 1, 5, 6] [101] out_9 rfl rfl
    ·rintro out_8 hv
     subst v9
     refine Tri.seq (Tri.regionL ?_)
     refine Oc oa (OpsL.nilS ⟨[(0, .b (.one (.sl 1 (a0.map eI)))), (1, .b (.one (.sl 1 (b0.map eI)))), (5, .b (.row 101)), (6, I i_5), (8, I 0)], [(101, .row 3 1 (out_8.map eI))]⟩ rfl (Tri.seq (Tri.regionL ?_)))
     refine Oc oa (OpsL.nilS ⟨[(0, .b (.one (.sl 1 (a0.map eI)))), (1, .b (.one (.sl 1 (b0.map eI)))), (5, .b (.row 101)), (6, I i_5), (8, I 0), (9, I 0)], [(101, .row 3 1 (out_8.map eI))]⟩ rfl (Tri.block ?_))
     obtain ⟨v18, h19, h8⟩ := bnd h8
     refine Tri.loopJ h19 (un3 fun (out_16 : List Int) (carry_17 : Int) (k_18 : Int) => ⟨[(0, .b (.one (.sl 1 (a0.map eI)))), (1, .b (.one (.sl 1 (b0.map eI)))), (5, .b (.row 101)), (6, I i_5), (8, I carry_17), (9, I k_18)], [(101, .row 3 1 (out_16.map eI))]⟩) [0, 1, 5, 6, 8, 9] [101] rfl ?_
     rintro ⟨out_16, carry_17, k_18⟩ o20 h21 hy22
     refine Tri.seq (Tri.seq (Tri.regionL ?_))
     refine Oc om (Oc om (Oc (op_len_r' und70 rfl rfl (List.length_map _)) (Oc (op_lss rfl rfl) ?_)))
     refine OpsL.nilS ⟨[(0, .b (.one (.sl 1 (a0.map eI)))), (1, .b (.one (.sl 1 (b0.map eI)))), (5, .b (.row 101)), (6, I i_5), (8, I carry_17), (9, I k_18), (54, B (decide (k_18 < (out_16.length : Int))))], [(101, .row 3 1 (out_16.map eI))]⟩ rfl (Tri.ite h21 rfl (fun _ h21 => ?_) (fun _ h21 => ?_))
     ·refine Tri.skip (Fin.keepS ⟨[(0, .b (.one (.sl 1 (a0.map eI)))), (1, .b (.one (.sl 1 (b0.map eI)))), (5, .b (.row 101)), (6, I i_5), (8, I carry_17), (9, I k_18)], [(101, .row 3 1 (out_16.map eI))]⟩ rfl (Fin.then (Tri.seq (Tri.block (Tri.seq (Tri.regionL ?_))))))
      refine Oc om (Oc om ?_)
      obtain ⟨x_20, e23, h21⟩ := bnd h21
      refine Oc (op_index_r tySl70 (ix_lo e23) (ix_lt' e23) rfl rfl rfl rfl) (Oc (op_load_r1 (i := (k_18 : Int).toNat) (f := 0) tyOne3 rfl rfl rfl (ix_map (e := eI) e23) rfl) (Oc om (Oc (op_add rfl rfl) (Oc oa ?_))))
      refine OpsL.nilS ⟨[(0, .b (.one (.sl 1 (a0.map eI)))), (1, .b (.one (.sl 1 (b0.map eI)))), (5, .b (.row 101)), (6, I i_5), (9, I k_18), (10, I (IntKind.i64.wrap (x_20 + carry_17)))], [(101, .row 3 1 (out_16.map eI))]⟩ rfl (Tri.seq (Tri.regionL ?_))
      refine Oc om (Oc om (Oc om ?_))
      refine OpsL.consI .i64 h21 rfl (op_rem (by decide) rfl rfl) (fun x_21 h21 => ?_)
      obtain ⟨x_22, e24, h21⟩ := bnd h21
      refine Oc (op_index_r tySl70 (ix_lo e24) (ix_lt' e24) rfl rfl rfl rfl) (Oc (op_store_r1 (i := (k_18 : Int).toNat) tyOne3 rfl rfl rfl rfl (ix_lt e24) (map_set _ _ _ _)) ?_)
      refine OpsL.nilS ⟨[(0, .b (.one (.sl 1 (a0.map eI)))), (1, .b (.one (.sl 1 (b0.map eI)))), (5, .b (.row 101)), (6, I i_5), (9, I k_18), (10, I (IntKind.i64.wrap (x_20 + carry_17)))], [(101, .row 3 1 ((out_16.set (k_18 : Int).toNat x_21).map eI))]⟩ rfl (Tri.regionL (Oc om ?_))
      obtain ⟨x_23, e25, h21⟩ := bnd h21
      refine Oc (op_quo2 e25 rfl rfl) (Oc oa ?_)
      refine OpsL.nil (Fin.block_normal (Fin.keepS ⟨[(0, .b (.one (.sl 1 (a0.map eI)))), (1, .b (.one (.sl 1 (b0.map eI)))), (5, .b (.row 101)), (6, I i_5), (8, I x_23), (9, I k_18)], [(101, .row 3 1 ((out_16.set (k_18 : Int).toNat x_21).map eI))]⟩ rfl (Fin.then (Tri.regionL ?_))))
      refine Oc om (Oc (op_add rfl rfl) (Oc oa ?_))
      refine OpsL.nil ?_
      exact Fin.againJ [0, 1, 5, 6, 8, 9] [101] (out_16.set (k_18 : Int).toNat x_21, x_23, IntKind.i64.wrap (k_18 + 1)) (Option.some.inj h21) rfl
     ·refine Tri.exit (Fin.then_exit ?_)
      obtain rfl := hy22 _ (Option.some.inj h21).symm
      refine Fin.then_exit (Fin.block_exit (Fin.block_normal ?_))
      exact Fin.join [0, 1, 5, 6] [101] out_16 (Option.some.inj h8) rfl
   ·rintro out_7 hv
    subst v7
    refine Tri.regionL (Oc om (Oc (op_add rfl rfl) (Oc oa ?_)))
    refine OpsL.nil ?_
    exact Fin.againJ [0, 1, 5, 6] [101] (out_7, IntKind.i64.wrap (i_5 + 1)) (Option.some.inj h5) rfl
  ·refine Tri.exit (Fin.then_exit ?_)
   obtain rfl := hy6 _ (Option.some.inj h5).symm
   refine Fin.then_exit (Fin.block_exit ?_)
   exact Fin.join [5] [101] out_4 rfl rfl
 ·rintro out_3 hv
  subst v2
  refine Tri.seq (Tri.regionL ?_)
  refine Oc om (OpsL.persist 101 rfl ?_)
  obtain ⟨x_24, e26, h⟩ := bnd h
  refine Oc (op_call0 (r3_trim_spec e26) goes119 rfl rfl) (Oc oa ?_)
  refine OpsL.nilS ⟨[(4, .b (.one (.sl 1 (x_24.map eI))))], []⟩ rfl (Tri.ret ?_)
  obtain rfl := Option.some.inj h
  refine Fin.keepS ⟨[(4, .b (.one (.sl 1 (x_24.map eI))))], []⟩ rfl (Fin.result' [.one (.sl 1 (x_24.map eI))] (.inl rfl) rfl (.cons (.tmp rfl) .nil) ⟨rfl, rfl⟩)
def r3_less_S (F : Nat) (a0 : List Int) (b0 : List Int) : Option Bool :=
 Option.bind (letN (max (a0.length : Int) (b0.length : Int)) fun x_1 => iter F (fun k_2 => if (decide (0 ≤ k_2)) = true then ((r3_digit_S F a0 k_2).bind fun x_3 => (r3_digit_S F b0 k_2).bind fun x_4 => if (decide (x_3 ≠ x_4)) = true then ((r3_digit_S F a0 k_2).bind fun x_5 => (r3_digit_S F b0 k_2).bind fun x_6 => some (.inr (.inr (decide (x_5 < x_6))))) else (some (.inl (IntKind.i64.wrap (k_2 - 1))))) else (some (.inr (.inl ())))) (IntKind.i64.wrap (x_1 - 1))) (alt2 (fun _ => some false) (fun y => some y))
theorem r3_less_spec {F : Nat} {a0 : List Int} {b0 : List Int} {r : Bool} (h : r3_less_S F a0 b0 = some r) : Meets Tryz.prog (tabs mx) 131 [] [.one (.sl 1 (a0.map eI)), .one (.sl 1 (b0.map eI))] (Is [] (.b (.one (.bool r)))) := by
 unfold r3_less_S at h
 refine Meets.intro 30 Tryz.func131 Tryz.ntmps131 rfl (by simp) fun E => ?_
 show Tri _ E ⟨30, [], []⟩ _ ⟨[(0, .b (.one (.sl 1 (a0.map eI)))), (1, .b (.one (.sl 1 (b0.map eI))))], []⟩ _
 refine Tri.seq (Tri.regionL ?_)
 refine Oc oa (OpsL.nilS ⟨[(0, .b (.one (.sl 1 (a0.map eI)))), (1, .b (.one (.sl 1 (b0.map eI))))], []⟩ rfl ?_)
 obtain ⟨v1, h2, h⟩ := bnd h
 refine Tri.seqJ (v := v1) (fun (_ : Unit) => ⟨[], []⟩) (fun z => .inl z) ?_ ?_
 ·refine Tri.seq (Tri.regionL ?_)
  refine Oc om (Oc (op_len_e' und70 rfl (List.length_map _)) (Oc om (Oc (op_len_e' und70 rfl (List.length_map _)) ?_)))
  refine OpsL.keepS ⟨[(0, .b (.one (.sl 1 (a0.map eI)))), (1, .b (.one (.sl 1 (b0.map eI)))), (7, I (a0.length : Int)), (9, I (b0.length : Int))], []⟩ rfl (OpsL.consI .i64 h2 rfl (op_max rfl rfl) (fun x_1 h2 => ?_))
  refine Oc (op_sub rfl rfl) (Oc oa ?_)
  refine OpsL.nilS ⟨[(0, .b (.one (.sl 1 (a0.map eI)))), (1, .b (.one (.sl 1 (b0.map eI)))), (5, I (IntKind.i64.wrap (x_1 - 1)))], []⟩ rfl (Tri.block (Tri.loopJ h2 (fun (k_2 : Int) => ⟨[(0, .b (.one (.sl 1 (a0.map eI)))), (1, .b (.one (.sl 1 (b0.map eI)))), (5, I k_2)], []⟩) [0, 1, 5] [] rfl ?_))
  rintro k_2 o3 h4 hy5
  refine Tri.seq (Tri.seq (Tri.regionL ?_))
  refine Oc om (Oc (op_geq rfl rfl) ?_)
  refine OpsL.nilS ⟨[(0, .b (.one (.sl 1 (a0.map eI)))), (1, .b (.one (.sl 1 (b0.map eI)))), (5, I k_2), (13, B (decide (0 ≤ k_2)))], []⟩ rfl (Tri.ite h4 rfl (fun _ h4 => ?_) (fun _ h4 => ?_))
  ·refine Tri.skip (Fin.keepS ⟨[(0, .b (.one (.sl 1 (a0.map eI)))), (1, .b (.one (.sl 1 (b0.map eI)))), (5, I k_2)], []⟩ rfl (Fin.then (Tri.seq (Tri.block (Tri.seq (Tri.regionL ?_))))))
   refine Oc om (Oc om ?_)
   obtain ⟨x_3, e6, h4⟩ := bnd h4
   refine Oc (op_call0 (r3_digit_spec e6) goes120 rfl rfl) (Oc om (Oc om ?_))
   obtain ⟨x_4, e7, h4⟩ := bnd h4
   refine Oc (op_call0 (r3_digit_spec e7) goes120 rfl rfl) (Oc (op_neq rfl rfl) ?_)
   refine OpsL.nilS ⟨[(0, .b (.one (.sl 1 (a0.map eI)))), (1, .b (.one (.sl 1 (b0.map eI)))), (5, I k_2), (22, B (decide (x_3 ≠ x_4)))], []⟩ rfl (Tri.ite h4 rfl (fun _ h4 => ?_) (fun _ h4 => ?_))
   ·refine Tri.seq (Tri.regionL ?_)
    refine Oc om (Oc om ?_)
    obtain ⟨x_5, e8, h4⟩ := bnd h4
    refine Oc (op_call0 (r3_digit_spec e8) goes120 rfl rfl) (Oc om (Oc om ?_))
    refine OpsL.keepS ⟨[(25, I x_5), (26, .b (.one (.sl 1 (b0.map eI)))), (27, I k_2)], []⟩ rfl ?_
    obtain ⟨x_6, e9, h4⟩ := bnd h4
    refine Oc (op_call0 (r3_digit_spec e9) goes120 rfl rfl) (Oc (op_lss rfl rfl) (Oc oa ?_))
    refine OpsL.nilS ⟨[(4, B (decide (x_5 < x_6)))], []⟩ rfl (Tri.ret (Fin.block_ret (Fin.then_ret ?_)))
    obtain rfl := hy5 _ (Option.some.inj h4).symm
    refine Fin.then_ret (Fin.block_ret (Fin.then_ret ?_))
    obtain rfl := Option.some.inj h
    refine Fin.keepS ⟨[(4, B (decide (x_5 < x_6)))], []⟩ rfl (Fin.result' [.one (.bool (decide (x_5 < x_6)))] (.inl rfl) rfl (.cons (.tmp rfl) .nil) ⟨rfl, rfl⟩)
   ·refine Tri.skip (Fin.block_normal (Fin.keepS ⟨[(0, .b (.one (.sl 1 (a0.map eI)))), (1, .b (.one (.sl 1 (b0.map eI)))), (5, I k_2)], []⟩ rfl (Fin.then (Tri.regionL ?_))))
    refine Oc om (Oc (op_sub rfl rfl) (Oc oa ?_))
    refine OpsL.nil ?_
    exact Fin.againJ [0, 1, 5] [] (IntKind.i64.wrap (k_2 - 1)) (Option.some.inj h4) rfl
  ·refine Tri.exit (Fin.then_exit ?_)
   obtain rfl := hy5 _ (Option.some.inj h4).symm
   refine Fin.then_exit (Fin.block_exit ?_)
   exact Fin.join [] [] () rfl rfl
 ·rintro _ hv
  subst v1
  refine Tri.seq (Tri.regionL ?_)
  refine Oc oa (OpsL.nilS ⟨[(4, B false)], []⟩ rfl (Tri.ret ?_))
  obtain rfl := Option.some.inj h
  refine Fin.keepS ⟨[(4, B false)], []⟩ rfl (Fin.result' [.one (.bool false)] (.inl rfl) rfl (.cons (.tmp rfl) .nil) ⟨rfl, rfl⟩)
def r3_minus_S (F : Nat) (a0 : List Int) (b0 : List Int) : Option (List Int) :=
 Option.bind (iter F (un3 fun out_2 borrow_3 k_4 => if (decide (k_4 < (a0.length : Int))) = true then (Option.bind ((idx? a0 k_4).bind fun x_8 => (r3_digit_S F b0 k_4).bind fun x_9 => Option.bind (letN (IntKind.i64.wrap ((IntKind.i64.wrap (x_8 - x_9)) - borrow_3)) fun x_12 => if (decide (x_12 < 0)) = true then (letN (IntKind.i64.wrap ((IntKind.i64.wrap (x_8 - x_9)) - borrow_3)) fun x_13 => some (1, IntKind.i64.wrap (x_13 + 65536))) else (some (0, IntKind.i64.wrap ((IntKind.i64.wrap (x_8 - x_9)) - borrow_3)))) (un2 fun borrow_10 n_11 => (app? out_2 [n_11]).bind fun x_14 => some (x_14, borrow_10))) (un2 fun out_6 borrow_7 => some (.inl (out_6, borrow_7, IntKind.i64.wrap (k_4 + 1))))) else (some (.inr out_2))) ([], 0, 0)) (fun out_1 => (r3_trim_S F out_1).bind fun x_15 => some x_15)
theorem r3_minus_spec {F : Nat} {a0 : List Int} {b0 : List Int} {r : (List Int)} (h : r3_minus_S F a0 b0 = some r) : Meets Tryz.prog (tabs mx) 130 [] [.one (.sl 1 (a0.map eI)), .one (.sl 1 (b0.map eI))] (Is [] (.b (.one (.sl 1 (r.map eI))))) := by
 unfold r3_minus_S at h
 refine Meets.intro 35 Tryz.func130 Tryz.ntmps130 rfl (by simp) fun E => ?_
 show Tri _ E ⟨35, [], []⟩ _ ⟨[(0, .b (.one (.sl 1 (a0.map eI)))), (1, .b (.one (.sl 1 (b0.map eI))))], []⟩ _
 refine Tri.seq (Tri.regionL ?_)
 refine Oc oa (OpsL.nilS ⟨[(0, .b (.one (.sl 1 (a0.map eI)))), (1, .b (.one (.sl 1 (b0.map eI))))], []⟩ rfl (Tri.seq (Tri.regionL ?_)))
 refine Oc oa (OpsL.nilS ⟨[(0, .b (.one (.sl 1 (a0.map eI)))), (1, .b (.one (.sl 1 (b0.map eI)))), (5, .b (.one (.nil)))], []⟩ rfl (Tri.seq (Tri.regionL ?_)))
 refine Oc oa (OpsL.nilS ⟨[(0, .b (.one (.sl 1 (a0.map eI)))), (1, .b (.one (.sl 1 (b0.map eI)))), (5, .b (.one (.nil))), (6, I 0)], []⟩ rfl ?_)
 obtain ⟨v1, h2, h⟩ := bnd h
 refine Tri.seqJ (v := v1) (fun (out_1 : List Int) => ⟨[(5, .b (.row 102))], [(102, .row 3 1 (out_1.map eI))]⟩) (fun z => z) ?_ ?_
 ·refine Tri.seq (Tri.regionL ?_)
  refine Oc oa (OpsL.nilS ⟨[(0, .b (.one (.sl 1 (a0.map eI)))), (1, .b (.one (.sl 1 (b0.map eI)))), (5, .b (.one (.nil))), (6, I 0), (7, I 0)], []⟩ rfl (Tri.block (Tri.nilrow 5 102 1 3 rfl (by decide) rfl (Tri.loopJ h2 (un3 fun (out_2 : List Int) (borrow_3 : Int) (k_4 : Int) => ⟨[(0, .b (.one (.sl 1 (a0.map eI)))), (1, .b (.one (.sl 1 (b0.map eI)))), (5, .b (.row 102)), (6, I borrow_3), (7, I k_4)], [(102, .row 3 1 (out_2.map eI))]⟩) [0, 1, 5, 6, 7] [102] rfl ?_))))
  rintro ⟨out_2, borrow_3, k_4⟩ o3 h4 hy5
  refine Tri.seq (Tri.seq (Tri.regionL ?_))
  refine Oc om (Oc om (Oc (op_len_e' und70 rfl (List.length_map _)) (Oc (op_lss rfl rfl) ?_)))
  refine OpsL.nilS ⟨[(0, .b (.one (.sl 1 (a0.map eI)))), (1, .b (.one (.sl 1 (b0.map eI)))), (5, .b (.row 102)), (6, I borrow_3), (7, I k_4), (12, B (decide (k_4 < (a0.length : Int))))], [(102, .row 3 1 (out_2.map eI))]⟩ rfl (Tri.ite h4 rfl (fun _ h4 => ?_) (fun _ h4 => ?_))
  ·refine Tri.skip (Fin.keepS ⟨[(0, .b (.one (.sl 1 (a0.map eI)))), (1, .b (.one (.sl 1 (b0.map eI)))), (5, .b (.row 102)), (6, I borrow_3), (7, I k_4)], [(102, .row 3 1 (out_2.map eI))]⟩ rfl (Fin.then ?_))
   obtain ⟨v6, h7, h4⟩ := bnd h4
   refine Tri.seqJ (v := v6) (un2 fun (out_6 : List Int) (borrow_7 : Int) => ⟨[(0, .b (.one (.sl 1 (a0.map eI)))), (1, .b (.one (.sl 1 (b0.map eI)))), (5, .b (.row 102)), (6, I borrow_7), (7, I k_4)], [(102, .row 3 1 (out_6.map eI))]⟩) (fun z => z) ?_ ?_
   ·refine Tri.block (Tri.seq ?_)
    refine Tri.keepS ⟨[(0, .b (.one (.sl 1 (a0.map eI)))), (1, .b (.one (.sl 1 (b0.map eI)))), (5, .b (.row 102)), (6, I borrow_3), (7, I k_4)], [(102, .row 3 1 (out_2.map eI))]⟩ rfl ?_
    obtain ⟨x_8, e8, h7⟩ := bnd h7
    obtain ⟨x_9, e9, h7⟩ := bnd h7
    refine Tri.regionY mixed 11 [.b (.one (.sl 1 (a0.map eI))), I k_4, .b (.eptr [.i x_8]), I x_8, .b (.one (.sl 1 (b0.map eI))), I k_4, I x_9, I (IntKind.i64.wrap (x_8 - x_9)), I borrow_3, I (IntKind.i64.wrap ((IntKind.i64.wrap (x_8 - x_9)) - borrow_3)), I (IntKind.i64.wrap ((IntKind.i64.wrap (x_8 - x_9)) - borrow_3))] [0, 1, 5, 7, 8] [102] (s' := ⟨[(0, .b (.one (.sl 1 (a0.map eI)))), (1, .b (.one (.sl 1 (b0.map eI)))), (5, .b (.row 102)), (7, I k_4), (8, I (IntKind.i64.wrap ((IntKind.i64.wrap (x_8 - x_9)) - borrow_3)))], [(102, .row 3 1 (out_2.map eI))]⟩) rfl ⟨fun _ => .p om, fun _ => .p om, fun _ => .p (op_index_e tySl70 (ix_lo e8) (ix_map (e := eI) e8) rfl rfl), fun _ => .p (op_load_e1 tyOne3 rfl rfl), fun _ => .p om, fun _ => .p om, fun _ => .p (op_call0 (r3_digit_spec e9) goes120 rfl rfl), fun _ => .p (op_sub rfl rfl), fun _ => .p om, fun _ => .p (op_sub rfl rfl), fun _ => .p oa, trivial⟩ rfl rfl (Tri.seq (Tri.regionL ?_))
    refine Oc oa (OpsL.nilS ⟨[(0, .b (.one (.sl 1 (a0.map eI)))), (1, .b (.one (.sl 1 (b0.map eI)))), (5, .b (.row 102)), (6, I 0), (7, I k_4), (8, I (IntKind.i64.wrap ((IntKind.i64.wrap (x_8 - x_9)) - borrow_3)))], [(102, .row 3 1 (out_2.map eI))]⟩ rfl ?_)
    obtain ⟨v10, h11, h7⟩ := bnd h7
    refine Tri.seqJ (v := v10) (un2 fun (borrow_10 : Int) (n_11 : Int) => ⟨[(0, .b (.one (.sl 1 (a0.map eI)))), (1, .b (.one (.sl 1 (b0.map eI)))), (5, .b (.row 102)), (6, I borrow_10), (7, I k_4), (8, I n_11)], [(102, .row 3 1 (out_2.map eI))]⟩) (fun z => z) ?_ ?_
    ·refine Tri.seq (Tri.regionL ?_)
     refine OpsL.consI .i64 h11 rfl om (fun x_12 h11 => ?_)
     refine Oc (op_lss rfl rfl) (OpsL.nilS ⟨[(0, .b (.one (.sl 1 (a0.map eI)))), (1, .b (.one (.sl 1 (b0.map eI)))), (5, .b (.row 102)), (6, I 0), (7, I k_4), (8, I (IntKind.i64.wrap ((IntKind.i64.wrap (x_8 - x_9)) - borrow_3))), (26, B (decide (x_12 < 0)))], [(102, .row 3 1 (out_2.map eI))]⟩ rfl (Tri.ite h11 rfl (fun _ h11 => ?_) (fun _ h11 => ?_)))
     ·refine Tri.seq (Tri.regionL ?_)
      refine OpsL.consI .i64 h11 rfl om (fun x_13 h11 => ?_)
      refine Oc (op_add rfl rfl) (Oc oa ?_)
      refine OpsL.nilS ⟨[(0, .b (.one (.sl 1 (a0.map eI)))), (1, .b (.one (.sl 1 (b0.map eI)))), (5, .b (.row 102)), (7, I k_4), (8, I (IntKind.i64.wrap (x_13 + 65536)))], [(102, .row 3 1 (out_2.map eI))]⟩ rfl (Tri.regionL (Oc oa (OpsL.nil ?_)))
      exact Fin.join [0, 1, 5, 6, 7, 8] [102] (1, IntKind.i64.wrap (x_13 + 65536)) (Option.some.inj h11) rfl
     ·refine Tri.skip ?_
      exact Fin.join [0, 1, 5, 6, 7, 8] [102] (0, IntKind.i64.wrap ((IntKind.i64.wrap (x_8 - x_9)) - borrow_3)) (Option.some.inj h11) rfl
    ·rintro ⟨borrow_10, n_11⟩ hv
     subst v10
     refine Tri.regionL (Oc om (Oc om (Oc (op_buildSlice (k := 103) (es := [n_11].map eI) tySl70 rfl rfl (uni_map fun _ => rfl) rfl (by decide) (by decide) rfl) ?_)))
     obtain ⟨x_14, e12, h7⟩ := bnd h7
     refine Oc (op_append_r tySl70 (app_b e12) (app_m e12) rfl rfl rfl rfl (app_map e12) rfl) (Oc oa ?_)
     refine OpsL.nil (Fin.block_normal ?_)
     exact Fin.join [0, 1, 5, 6, 7] [102] (x_14, borrow_10) (Option.some.inj h7) rfl
   ·rintro ⟨out_6, borrow_7⟩ hv
    subst v6
    refine Tri.regionL (Oc om (Oc (op_add rfl rfl) (Oc oa ?_)))
    refine OpsL.nil ?_
    exact Fin.againJ [0, 1, 5, 6, 7] [102] (out_6, borrow_7, IntKind.i64.wrap (k_4 + 1)) (Option.some.inj h4) rfl
  ·refine Tri.exit (Fin.then_exit ?_)
   obtain rfl := hy5 _ (Option.some.inj h4).symm
   refine Fin.then_exit (Fin.block_exit ?_)
   exact Fin.join [5] [102] out_2 rfl rfl
 ·rintro out_1 hv
  subst v1
  refine Tri.seq (Tri.regionL ?_)
  refine Oc om (OpsL.persist 102 rfl ?_)
  obtain ⟨x_15, e13, h⟩ := bnd h
  refine Oc (op_call0 (r3_trim_spec e13) goes119 rfl rfl) (Oc oa ?_)
  refine OpsL.nilS ⟨[(4, .b (.one (.sl 1 (x_15.map eI))))], []⟩ rfl (Tri.ret ?_)
  obtain rfl := Option.some.inj h
  refine Fin.keepS ⟨[(4, .b (.one (.sl 1 (x_15.map eI))))], []⟩ rfl (Fin.result' [.one (.sl 1 (x_15.map eI))] (.inl rfl) rfl (.cons (.tmp rfl) .nil) ⟨rfl, rfl⟩)
def r3_divide_S (F : Nat) (a0 : List Int) (b0 : List Int) : Option ((List Int) × (List Int)) :=
 Option.bind (mk? (0 : Int) (a0.length : Int) (a0.length : Int)) (fun x_1 => (idx? b0 (IntKind.i64.wrap ((b0.length : Int) - 1))).bind fun x_2 => (r3_at_S F b0 (IntKind.i64.wrap ((b0.length : Int) - 2))).bind fun x_3 => Option.bind (letN (IntKind.i64.wrap ((a0.length : Int) - 1)) fun x_6 => iter F (un3 fun q_7 r_8 k_9 => if (decide (0 ≤ k_9)) = true then (Option.bind ((idx? a0 k_9).bind fun x_14 => (app? [x_14] r_8).bind fun x_15 => (r3_trim_S F x_15).bind fun x_16 => (r3_at_S F x_16 (b0.length : Int)).bind fun x_17 => letN (IntKind.i64.wrap ((b0.length : Int) - 1)) fun x_18 => (r3_at_S F x_16 x_18).bind fun x_19 => letN (IntKind.i64.wrap ((IntKind.i64.wrap (x_17 * 4294967296)) + (IntKind.i64.wrap (x_19 * 65536)))) fun x_20 => letN (IntKind.i64.wrap ((b0.length : Int) - 2)) fun x_21 => (r3_at_S F x_16 x_21).bind fun x_22 => letN (IntKind.i64.wrap ((IntKind.i64.wrap (x_2 * 65536)) + x_3)) fun x_23 => (quo? .i64 (IntKind.i64.wrap (x_20 + x_22)) x_23).bind fun x_24 => (r3_times_S F b0 [min 65535 x_24]).bind fun x_25 => Option.bind (iter F (un2 fun d_28 part_29 => (r3_less_S F x_16 part_29).bind fun x_32 => if x_32 = true then ((r3_minus_S F part_29 b0).bind fun x_33 => some (.inl (IntKind.i64.wrap (d_28 - 1), x_33))) else (some (.inr (d_28, part_29)))) (min 65535 x_24, x_25)) (un2 fun d_26 part_27 => (idx? q_7 k_9).bind fun x_34 => (r3_minus_S F x_16 part_27).bind fun x_35 => some (q_7.set (k_9 : Int).toNat d_26, x_35))) (un2 fun q_12 r_13 => some (.inl (q_12, r_13, IntKind.i64.wrap (k_9 - 1))))) else (some (.inr (q_7, r_8)))) (x_1, [], x_6)) (un2 fun q_4 r_5 => (r3_trim_S F q_4).bind fun x_36 => some (x_36, r_5)))
theorem r3_divide_spec {F : Nat} {a0 : List Int} {b0 : List Int} {r : (List Int) × (List Int)} (h : r3_divide_S F a0 b0 = some r) : Meets Tryz.prog (tabs mx) 121 [] [.one (.sl 1 (a0.map eI)), .one (.sl 1 (b0.map eI))] (Is [] (.tup [.one (.sl 1 (r.1.map eI)), .one (.sl 1 (r.2.map eI))])) := by
 unfold r3_divide_S at h
 refine Meets.intro 84 Tryz.func121 Tryz.ntmps121 rfl (by simp) fun E => ?_
 show Tri _ E ⟨84, [], []⟩ _ ⟨[(0, .b (.one (.sl 1 (a0.map eI)))), (1, .b (.one (.sl 1 (b0.map eI))))], []⟩ _
 refine Tri.seq (Tri.regionL ?_)
 refine Oc oa (Oc oa ?_)
 refine OpsL.nilS ⟨[(0, .b (.one (.sl 1 (a0.map eI)))), (1, .b (.one (.sl 1 (b0.map eI))))], []⟩ rfl (Tri.seq (Tri.regionL ?_))
 refine Oc om (Oc (op_len_e' und70 rfl (List.length_map _)) ?_)
 obtain ⟨x_1, e1, h⟩ := bnd h
 refine Oc (op_makeSlice (k := 101) (enc := eI) tySl70 e1 (by decide) (.cons .refl .nil) rfl rfl rfl) (Oc oa ?_)
 refine OpsL.nilS ⟨[(0, .b (.one (.sl 1 (a0.map eI)))), (1, .b (.one (.sl 1 (b0.map eI)))), (6, .b (.row 101))], [(101, .row 3 1 (x_1.map eI))]⟩ rfl (Tri.seq (Tri.regionL ?_))
 refine Oc om (Oc (op_len_e' und70 rfl (List.length_map _)) (Oc oa ?_))
 refine OpsL.nilS ⟨[(0, .b (.one (.sl 1 (a0.map eI)))), (1, .b (.one (.sl 1 (b0.map eI)))), (6, .b (.row 101)), (7, I (b0.length : Int))], [(101, .row 3 1 (x_1.map eI))]⟩ rfl (Tri.seq ?_)
 obtain ⟨x_2, e2, h⟩ := bnd h
 obtain ⟨x_3, e3, h⟩ := bnd h
 refine Tri.regionY mixed 12 [.b (.one (.sl 1 (b0.map eI))), I (b0.length : Int), I (IntKind.i64.wrap ((b0.length : Int) - 1)), .b (.eptr [.i x_2]), I x_2, I (IntKind.i64.wrap (x_2 * 65536)), .b (.one (.sl 1 (b0.map eI))), I (b0.length : Int), I (IntKind.i64.wrap ((b0.length : Int) - 2)), I x_3, I (IntKind.i64.wrap ((IntKind.i64.wrap (x_2 * 65536)) + x_3)), I (IntKind.i64.wrap ((IntKind.i64.wrap (x_2 * 65536)) + x_3))] [0, 1, 6, 7, 8] [101] (s' := ⟨[(0, .b (.one (.sl 1 (a0.map eI)))), (1, .b (.one (.sl 1 (b0.map eI)))), (6, .b (.row 101)), (7, I (b0.length : Int)), (8, I (IntKind.i64.wrap ((IntKind.i64.wrap (x_2 * 65536)) + x_3)))], [(101, .row 3 1 (x_1.map eI))]⟩) rfl ⟨fun _ => .p om, fun _ => .p om, fun _ => .p (op_sub rfl rfl), fun _ => .p (op_index_e tySl70 (ix_lo e2) (ix_map (e := eI) e2) rfl rfl), fun _ => .p (op_load_e1 tyOne3 rfl rfl), fun _ => .p (op_mul rfl rfl), fun _ => .p om, fun _ => .p om, fun _ => .p (op_sub rfl rfl), fun _ => .p (op_call0 (r3_at_spec e3) goes144 rfl rfl), fun _ => .p (op_add rfl rfl), fun _ => .p oa, trivial⟩ rfl rfl (Tri.seq (Tri.regionL ?_))
 refine Oc oa (OpsL.nilS ⟨[(0, .b (.one (.sl 1 (a0.map eI)))), (1, .b (.one (.sl 1 (b0.map eI)))), (6, .b (.row 101)), (7, I (b0.length : Int)), (8, I (IntKind.i64.wrap ((IntKind.i64.wrap (x_2 * 65536)) + x_3))), (9, .b (.one (.nil)))], [(101, .row 3 1 (x_1.map eI))]⟩ rfl ?_)
 obtain ⟨v4, h5, h⟩ := bnd h
 refine Tri.seqJ (v := v4) (un2 fun (q_4 : List Int) (r_5 : List Int) => ⟨[(6, .b (.row 101)), (9, .b (.one (.sl 1 (r_5.map eI))))], [(101, .row 3 1 (q_4.map eI))]⟩) (fun z => z) ?_ ?_
 ·refine Tri.seq (Tri.regionL ?_)
  refine Oc om (Oc (op_len_e' und70 rfl (List.length_map _)) ?_)
  refine OpsL.consI .i64 h5 rfl (op_sub rfl rfl) (fun x_6 h5 => ?_)
  refine Oc oa (OpsL.nilS ⟨[(0, .b (.one (.sl 1 (a0.map eI)))), (1, .b (.one (.sl 1 (b0.map eI)))), (6, .b (.row 101)), (7, I (b0.length : Int)), (8, I (IntKind.i64.wrap ((IntKind.i64.wrap (x_2 * 65536)) + x_3))), (9, .b (.one (.nil))), (10, I x_6)], [(101, .row 3 1 (x_1.map eI))]⟩ rfl (Tri.block (Tri.nilsl 9 1 rfl (by decide) (Tri.loopJ h5 (un3 fun (q_7 : List Int) (r_8 : List Int) (k_9 : Int) => ⟨[(0, .b (.one (.sl 1 (a0.map eI)))), (1, .b (.one (.sl 1 (b0.map eI)))), (6, .b (.row 101)), (7, I (b0.length : Int)), (8, I (IntKind.i64.wrap ((IntKind.i64.wrap (x_2 * 65536)) + x_3))), (9, .b (.one (.sl 1 (r_8.map eI)))), (10, I k_9)], [(101, .row 3 1 (q_7.map eI))]⟩) [0, 1, 6, 7, 8, 9, 10] [101] rfl ?_))))
  rintro ⟨q_7, r_8, k_9⟩ o6 h7 hy8
  refine Tri.seq (Tri.seq (Tri.regionL ?_))
  refine Oc om (Oc (op_geq rfl rfl) ?_)
  refine OpsL.nilS ⟨[(0, .b (.one (.sl 1 (a0.map eI)))), (1, .b (.one (.sl 1 (b0.map eI)))), (6, .b (.row 101)), (7, I (b0.length : Int)), (8, I (IntKind.i64.wrap ((IntKind.i64.wrap (x_2 * 65536)) + x_3))), (9, .b (.one (.sl 1 (r_8.map eI)))), (10, I k_9), (33, B (decide (0 ≤ k_9)))], [(101, .row 3 1 (q_7.map eI))]⟩ rfl (Tri.ite h7 rfl (fun _ h7 => ?_) (fun _ h7 => ?_))
  ·refine Tri.skip (Fin.keepS ⟨[(0, .b (.one (.sl 1 (a0.map eI)))), (1, .b (.one (.sl 1 (b0.map eI)))), (6, .b (.row 101)), (7, I (b0.length : Int)), (8, I (IntKind.i64.wrap ((IntKind.i64.wrap (x_2 * 65536)) + x_3))), (9, .b (.one (.sl 1 (r_8.map eI)))), (10, I k_9)], [(101, .row 3 1 (q_7.map eI))]⟩ rfl (Fin.then ?_))
   obtain ⟨v9, h10, h7⟩ := bnd h7
   refine Tri.seqJ (v := v9) (un2 fun (q_12 : List Int) (r_13 : List Int) => ⟨[(0, .b (.one (.sl 1 (a0.map eI)))), (1, .b (.one (.sl 1 (b0.map eI)))), (6, .b (.row 101)), (7, I (b0.length : Int)), (8, I (IntKind.i64.wrap ((IntKind.i64.wrap (x_2 * 65536)) + x_3))), (9, .b (.one (.sl 1 (r_13.map eI)))), (10, I k_9)], [(101, .row 3 1 (q_12.map eI))]⟩) (fun z => z) ?_ ?_
   ·refine Tri.block (Tri.seq (Tri.regionL ?_))
    refine Oc om (Oc om ?_)
    obtain ⟨x_14, e11, h10⟩ := bnd h10
    refine Oc (op_index_e tySl70 (ix_lo e11) (ix_map (e := eI) e11) rfl rfl) (Oc (op_load_e1 tyOne3 rfl rfl) (Oc (op_buildSlice (k := 102) (es := [x_14].map eI) tySl70 rfl rfl (uni_map fun _ => rfl) rfl (by decide) (by decide) rfl) (Oc om ?_)))
    refine OpsL.keepS ⟨[(0, .b (.one (.sl 1 (a0.map eI)))), (1, .b (.one (.sl 1 (b0.map eI)))), (6, .b (.row 101)), (7, I (b0.length : Int)), (8, I (IntKind.i64.wrap ((IntKind.i64.wrap (x_2 * 65536)) + x_3))), (9, .b (.one (.sl 1 (r_8.map eI)))), (10, I k_9), (40, .b (.row 102)), (41, .b (.one (.sl 1 (r_8.map eI))))], [(101, .row 3 1 (q_7.map eI)), (102, .row 3 1 ([x_14].map eI))]⟩ rfl ?_
    obtain ⟨x_15, e12, h10⟩ := bnd h10
    refine Oc (op_append tySl70 (app_b e12) (app_m e12) rfl rfl rfl (app_map e12) rfl) (OpsL.persist 102 rfl ?_)
    obtain ⟨x_16, e13, h10⟩ := bnd h10
    refine Oc (op_call0 (r3_trim_spec e13) goes119 rfl rfl) (Oc oa ?_)
    refine OpsL.nilS ⟨[(0, .b (.one (.sl 1 (a0.map eI)))), (1, .b (.one (.sl 1 (b0.map eI)))), (6, .b (.row 101)), (7, I (b0.length : Int)), (8, I (IntKind.i64.wrap ((IntKind.i64.wrap (x_2 * 65536)) + x_3))), (9, .b (.one (.sl 1 (x_16.map eI)))), (10, I k_9)], [(101, .row 3 1 (q_7.map eI))]⟩ rfl (Tri.seq (Tri.regionL ?_))
    refine Oc om (Oc om ?_)
    obtain ⟨x_17, e14, h10⟩ := bnd h10
    refine Oc (op_call0 (r3_at_spec e14) goes144 rfl rfl) (Oc (op_mul rfl rfl) (Oc om ?_))
    refine OpsL.keepS ⟨[(0, .b (.one (.sl 1 (a0.map eI)))), (1, .b (.one (.sl 1 (b0.map eI)))), (6, .b (.row 101)), (7, I (b0.length : Int)), (8, I (IntKind.i64.wrap ((IntKind.i64.wrap (x_2 * 65536)) + x_3))), (9, .b (.one (.sl 1 (x_16.map eI)))), (10, I k_9), (47, I (IntKind.i64.wrap (x_17 * 4294967296))), (48, .b (.one (.sl 1 (x_16.map eI))))], [(101, .row 3 1 (q_7.map eI))]⟩ rfl (Oc om (OpsL.consI .i64 h10 rfl (op_sub rfl rfl) (fun x_18 h10 => ?_)))
    obtain ⟨x_19, e15, h10⟩ := bnd h10
    refine Oc (op_call0 (r3_at_spec e15) goes144 rfl rfl) (Oc (op_mul rfl rfl) ?_)
    refine OpsL.consI .i64 h10 rfl (op_add rfl rfl) (fun x_20 h10 => ?_)
    refine Oc om (OpsL.keepS ⟨[(0, .b (.one (.sl 1 (a0.map eI)))), (1, .b (.one (.sl 1 (b0.map eI)))), (6, .b (.row 101)), (7, I (b0.length : Int)), (8, I (IntKind.i64.wrap ((IntKind.i64.wrap (x_2 * 65536)) + x_3))), (9, .b (.one (.sl 1 (x_16.map eI)))), (10, I k_9), (53, I x_20), (54, .b (.one (.sl 1 (x_16.map eI))))], [(101, .row 3 1 (q_7.map eI))]⟩ rfl (Oc om (OpsL.consI .i64 h10 rfl (op_sub rfl rfl) (fun x_21 h10 => ?_))))
    obtain ⟨x_22, e16, h10⟩ := bnd h10
    refine Oc (op_call0 (r3_at_spec e16) goes144 rfl rfl) (Oc (op_add rfl rfl) ?_)
    refine OpsL.consI .i64 h10 rfl om (fun x_23 h10 => ?_)
    obtain ⟨x_24, e17, h10⟩ := bnd h10
    refine Oc (op_quo2 e17 rfl rfl) (Oc (op_min rfl rfl) (Oc oa ?_))
    refine OpsL.nilS ⟨[(0, .b (.one (.sl 1 (a0.map eI)))), (1, .b (.one (.sl 1 (b0.map eI)))), (6, .b (.row 101)), (7, I (b0.length : Int)), (8, I (IntKind.i64.wrap ((IntKind.i64.wrap (x_2 * 65536)) + x_3))), (9, .b (.one (.sl 1 (x_16.map eI)))), (10, I k_9), (11, I (min 65535 x_24))], [(101, .row 3 1 (q_7.map eI))]⟩ rfl (Tri.seq (Tri.regionL ?_))
    refine Oc om (Oc om (Oc (op_buildSlice (k := 103) (es := [min 65535 x_24].map eI) tySl70 rfl rfl (uni_map fun _ => rfl) rfl (by decide) (by decide) rfl) ?_))
    refine OpsL.persist 103 rfl ?_
    obtain ⟨x_25, e18, h10⟩ := bnd h10
    refine Oc (op_call0 (r3_times_spec e18) goes84 rfl rfl) (Oc oa ?_)
    refine OpsL.nilS ⟨[(0, .b (.one (.sl 1 (a0.map eI)))), (1, .b (.one (.sl 1 (b0.map eI)))), (6, .b (.row 101)), (7, I (b0.length : Int)), (8, I (IntKind.i64.wrap ((IntKind.i64.wrap (x_2 * 65536)) + x_3))), (9, .b (.one (.sl 1 (x_16.map eI)))), (10, I k_9), (11, I (min 65535 x_24)), (12, .b (.one (.sl 1 (x_25.map eI))))], [(101, .row 3 1 (q_7.map eI))]⟩ rfl ?_
    obtain ⟨v19, h20, h10⟩ := bnd h10
    refine Tri.seqJ (v := v19) (un2 fun (d_26 : Int) (part_27 : List Int) => ⟨[(0, .b (.one (.sl 1 (a0.map eI)))), (1, .b (.one (.sl 1 (b0.map eI)))), (6, .b (.row 101)), (7, I (b0.length : Int)), (8, I (IntKind.i64.wrap ((IntKind.i64.wrap (x_2 * 65536)) + x_3))), (9, .b (.one (.sl 1 (x_16.map eI)))), (10, I k_9), (11, I d_26), (12, .b (.one (.sl 1 (part_27.map eI))))], [(101, .row 3 1 (q_7.map eI))]⟩) (fun z => z) ?_ ?_
    ·refine Tri.block (Tri.loopJ h20 (un2 fun (d_28 : Int) (part_29 : List Int) => ⟨[(0, .b (.one (.sl 1 (a0.map eI)))), (1, .b (.one (.sl 1 (b0.map eI)))), (6, .b (.row 101)), (7, I (b0.length : Int)), (8, I (IntKind.i64.wrap ((IntKind.i64.wrap (x_2 * 65536)) + x_3))), (9, .b (.one (.sl 1 (x_16.map eI)))), (10, I k_9), (11, I d_28), (12, .b (.one (.sl 1 (part_29.map eI))))], [(101, .row 3 1 (q_7.map eI))]⟩) [0, 1, 6, 7, 8, 9, 10, 11, 12] [101] rfl ?_)
     rintro ⟨d_28, part_29⟩ o21 h22 hy23
     refine Tri.seq (Tri.seq (Tri.regionL ?_))
     refine Oc om (Oc om ?_)
     obtain ⟨x_32, e24, h22⟩ := bnd h22
     refine Oc (op_call0 (r3_less_spec e24) goes131 rfl rfl) (OpsL.nilS ⟨[(0, .b (.one (.sl 1 (a0.map eI)))), (1, .b (.one (.sl 1 (b0.map eI)))), (6, .b (.row 101)), (7, I (b0.length : Int)), (8, I (IntKind.i64.wrap ((IntKind.i64.wrap (x_2 * 65536)) + x_3))), (9, .b (.one (.sl 1 (x_16.map eI)))), (10, I k_9), (11, I d_28), (12, .b (.one (.sl 1 (part_29.map eI)))), (68, B x_32)], [(101, .row 3 1 (q_7.map eI))]⟩ rfl (Tri.ite h22 rfl (fun _ h22 => ?_) (fun _ h22 => ?_)))
     ·refine Tri.skip (Fin.keepS ⟨[(0, .b (.one (.sl 1 (a0.map eI)))), (1, .b (.one (.sl 1 (b0.map eI)))), (6, .b (.row 101)), (7, I (b0.length : Int)), (8, I (IntKind.i64.wrap ((IntKind.i64.wrap (x_2 * 65536)) + x_3))), (9, .b (.one (.sl 1 (x_16.map eI)))), (10, I k_9), (11, I d_28), (12, .b (.one (.sl 1 (part_29.map eI))))], [(101, .row 3 1 (q_7.map eI))]⟩ rfl (Fin.then (Tri.block (Tri.seq (Tri.regionL ?_)))))
      refine Oc om (Oc (op_sub rfl rfl) (Oc oa ?_))
      refine OpsL.nilS ⟨[(0, .b (.one (.sl 1 (a0.map eI)))), (1, .b (.one (.sl 1 (b0.map eI)))), (6, .b (.row 101)), (7, I (b0.length : Int)), (8, I (IntKind.i64.wrap ((IntKind.i64.wrap (x_2 * 65536)) + x_3))), (9, .b (.one (.sl 1 (x_16.map eI)))), (10, I k_9), (11, I (IntKind.i64.wrap (d_28 - 1))), (12, .b (.one (.sl 1 (part_29.map eI))))], [(101, .row 3 1 (q_7.map eI))]⟩ rfl (Tri.regionL (Oc om (Oc om ?_)))
      obtain ⟨x_33, e25, h22⟩ := bnd h22
      refine Oc (op_call0 (r3_minus_spec e25) goes130 rfl rfl) (Oc oa ?_)
      refine OpsL.nil (Fin.block_normal ?_)
      exact Fin.againJ [0, 1, 6, 7, 8, 9, 10, 11, 12] [101] (IntKind.i64.wrap (d_28 - 1), x_33) (Option.some.inj h22) rfl
     ·refine Tri.exit (Fin.then_exit ?_)
      obtain rfl := hy23 _ (Option.some.inj h22).symm
      refine Fin.then_exit (Fin.block_exit ?_)
      exact Fin.join [0, 1, 6, 7, 8, 9, 10, 11, 12] [101] (d_28, part_29) rfl rfl
    ·rintro ⟨d_26, part_27⟩ hv
     subst v19
     refine Tri.seq (Tri.regionL ?_)
     refine Oc om (Oc om (Oc om ?_))
     obtain ⟨x_34, e26, h10⟩ := bnd h10
     refine Oc (op_index_r tySl70 (ix_lo e26) (ix_lt' e26) rfl rfl rfl rfl) (Oc (op_store_r1 (i := (k_9 : Int).toNat) tyOne3 rfl rfl rfl rfl (ix_lt e26) (map_set _ _ _ _)) ?_)
     refine OpsL.nilS ⟨[(0, .b (.one (.sl 1 (a0.map eI)))), (1, .b (.one (.sl 1 (b0.map eI)))), (6, .b (.row 101)), (7, I (b0.length : Int)), (8, I (IntKind.i64.wrap ((IntKind.i64.wrap (x_2 * 65536)) + x_3))), (9, .b (.one (.sl 1 (x_16.map eI)))), (10, I k_9), (12, .b (.one (.sl 1 (part_27.map eI))))], [(101, .row 3 1 ((q_7.set (k_9 : Int).toNat d_26).map eI))]⟩ rfl (Tri.regionL (Oc om (Oc om ?_)))
     obtain ⟨x_35, e27, h10⟩ := bnd h10
     refine Oc (op_call0 (r3_minus_spec e27) goes130 rfl rfl) (Oc oa ?_)
     refine OpsL.nil (Fin.block_normal ?_)
     exact Fin.join [0, 1, 6, 7, 8, 9, 10] [101] (q_7.set (k_9 : Int).toNat d_26, x_35) (Option.some.inj h10) rfl
   ·rintro ⟨q_12, r_13⟩ hv
    subst v9
    refine Tri.regionL (Oc om (Oc (op_sub rfl rfl) (Oc oa ?_)))
    refine OpsL.nil ?_
    exact Fin.againJ [0, 1, 6, 7, 8, 9, 10] [101] (q_12, r_13, IntKind.i64.wrap (k_9 - 1)) (Option.some.inj h7) rfl
  ·refine Tri.exit (Fin.then_exit ?_)
   obtain rfl := hy8 _ (Option.some.inj h7).symm
   refine Fin.then_exit (Fin.block_exit ?_)
   exact Fin.join [6, 9] [101] (q_7, r_8) rfl rfl
 ·rintro ⟨q_4, r_5⟩ hv
  subst v4
  refine Tri.seq (Tri.regionL ?_)
  refine Oc om (OpsL.persist 101 rfl ?_)
  obtain ⟨x_36, e28, h⟩ := bnd h
  refine Oc (op_call0 (r3_trim_spec e28) goes119 rfl rfl) (Oc om (Oc oa (Oc oa ?_)))
  refine OpsL.nilS ⟨[(4, .b (.one (.sl 1 (x_36.map eI)))), (5, .b (.one (.sl 1 (r_5.map eI))))], []⟩ rfl (Tri.ret ?_)
  obtain rfl := Option.some.inj h
  refine Fin.keepS ⟨[(4, .b (.one (.sl 1 (x_36.map eI)))), (5, .b (.one (.sl 1 (r_5.map eI))))], []⟩ rfl (Fin.result' [.one (.sl 1 (x_36.map eI)), .one (.sl 1 (r_5.map eI))] (.inl rfl) rfl (.cons (.tmp rfl) (.cons (.tmp rfl) .nil)) ⟨rfl, rfl⟩)
def r3_Gcd_S (F : Nat) (a0 : Big) (b0 : Big) : Option Big :=
 Option.bind (r3_word_S F a0) (un2 fun x_1 x_2 => Option.bind (r3_word_S F b0) (un2 fun x_3 x_4 => Option.bind (if (x_2 && x_4) = true then (Option.bind (iter F (un2 fun n_6 m_7 => if (decide (m_7 ≠ 0)) = true then ((rem? n_6 m_7).bind fun x_9 => some (.inl (m_7, x_9))) else (some (.inr n_6))) (x_1, x_3)) (fun n_5 => (r3_Of_S F n_5).bind fun x_10 => (r3_Abs_S F x_10).bind fun x_11 => some (.inr x_11))) else (some (.inl ()))) (alt2 (fun _ => (r3_Good_S F a0).bind fun x_12 => (gcall (!(!x_12)) (r3_Good_S F b0)).bind fun x_13 => if ((!x_12) || (!x_13)) = true then ((r3_Bad_S F).bind fun x_14 => some x_14) else ((r3_digits_S F a0).bind fun x_15 => (r3_digits_S F b0).bind fun x_16 => Option.bind (iter F (un2 fun x_18 y_19 => if (decide (0 < (y_19.length : Int))) = true then (Option.bind (r3_divide_S F x_18 y_19) (un2 fun x_21 x_22 => some (.inl (y_19, x_22)))) else (some (.inr x_18))) (x_15, x_16)) (fun x_17 => (r3_number_S F false x_17).bind fun x_23 => some x_23))) (fun y => some y))))
theorem r3_Gcd_spec {F : Nat} {a0 : Big} {b0 : Big} {r : Big} (h : r3_Gcd_S F a0 b0 = some r) : Meets Tryz.prog (tabs mx) 79 [] [.agg (eBig a0), .agg (eBig b0)] (Is [] (.b (.agg (eBig r)))) := by
 unfold r3_Gcd_S at h
 refine Meets.intro 64 Tryz.func79 Tryz.ntmps79 rfl (by simp) fun E => ?_
 show Tri _ E ⟨64, [], []⟩ _ ⟨[(0, .b (.agg (eBig a0))), (1, .b (.agg (eBig b0)))], []⟩ _
 refine Tri.seq (Tri.regionL ?_)
 refine Oc (op_box (k := 101) rfl rfl) (Oc (op_box (k := 102) rfl rfl) (Oc (op_alloc (k := 103) tyZero25 rfl) ?_))
 refine OpsL.nilS ⟨[(2, Pt 101 0), (3, Pt 102 0), (4, Pt 103 0)], [(101, .box 25 (eBig a0)), (102, .box 25 (eBig b0)), (103, .box 25 zBig)]⟩ rfl (Tri.seq (Tri.regionL ?_))
 refine Oc (lp tyAgg25) ?_
 obtain ⟨⟨x_1, x_2⟩, e1, h⟩ := bnd h
 refine Oc (op_call0 (r3_word_spec e1) goes81 rfl rfl) (Oc om (Oc (op_extract rfl rfl) (Oc (op_extract rfl rfl) (Oc oa (Oc oa ?_)))))
 refine OpsL.nilS ⟨[(2, Pt 101 0), (3, Pt 102 0), (4, Pt 103 0), (5, I x_1), (6, B x_2)], [(101, .box 25 (eBig a0)), (102, .box 25 (eBig b0)), (103, .box 25 zBig)]⟩ rfl (Tri.seq (Tri.regionL ?_))
 refine Oc (lp tyAgg25) ?_
 obtain ⟨⟨x_3, x_4⟩, e2, h⟩ := bnd h
 refine Oc (op_call0 (r3_word_spec e2) goes81 rfl rfl) (Oc om (Oc (op_extract rfl rfl) (Oc (op_extract rfl rfl) (Oc oa (Oc oa ?_)))))
 refine OpsL.nilS ⟨[(2, Pt 101 0), (3, Pt 102 0), (4, Pt 103 0), (5, I x_1), (6, B x_2), (7, I x_3), (8, B x_4)], [(101, .box 25 (eBig a0)), (102, .box 25 (eBig b0)), (103, .box 25 zBig)]⟩ rfl ?_
 obtain ⟨v3, h4, h⟩ := bnd h
 refine Tri.seqJ (v := v3) (fun (_ : Unit) => ⟨[(2, Pt 101 0), (3, Pt 102 0), (4, Pt 103 0)], [(101, .box 25 (eBig a0)), (102, .box 25 (eBig b0)), (103, .box 25 zBig)]⟩) (fun z => .inl z) ?_ ?_
 ·refine Tri.seq (Tri.regionL ?_)
  refine Oc om (Oc om ?_)
  refine CgT x_2 [] (fun g5 => trivial) (fun g5 => om) (Oc (op_pick_and (fun e => e) rfl rfl rfl rfl) (OpsL.nilS ⟨[(2, Pt 101 0), (3, Pt 102 0), (4, Pt 103 0), (5, I x_1), (7, I x_3), (27, B (x_2 && x_4))], [(101, .box 25 (eBig a0)), (102, .box 25 (eBig b0)), (103, .box 25 zBig)]⟩ rfl (Tri.ite h4 rfl (fun _ h4 => ?_) (fun _ h4 => ?_))))
  ·obtain ⟨v6, h7, h4⟩ := bnd h4
   refine Tri.seqJ (v := v6) (fun (n_5 : Int) => ⟨[(4, Pt 103 0), (5, I n_5)], [(103, .box 25 zBig)]⟩) (fun z => z) ?_ ?_
   ·refine Tri.block (Tri.loopJ h7 (un2 fun (n_6 : Int) (m_7 : Int) => ⟨[(4, Pt 103 0), (5, I n_6), (7, I m_7)], [(103, .box 25 zBig)]⟩) [4, 5, 7] [103] rfl ?_)
    rintro ⟨n_6, m_7⟩ o8 h9 hy10
    refine Tri.seq (Tri.seq (Tri.regionL ?_))
    refine Oc om (Oc (op_neq rfl rfl) ?_)
    refine OpsL.nilS ⟨[(4, Pt 103 0), (5, I n_6), (7, I m_7), (29, B (decide (m_7 ≠ 0)))], [(103, .box 25 zBig)]⟩ rfl (Tri.ite h9 rfl (fun _ h9 => ?_) (fun _ h9 => ?_))
    ·refine Tri.skip (Fin.keepS ⟨[(4, Pt 103 0), (5, I n_6), (7, I m_7)], [(103, .box 25 zBig)]⟩ rfl (Fin.then (Tri.block (Tri.seq (Tri.regionL ?_)))))
     refine Oc om (Oc om ?_)
     obtain ⟨x_9, e11, h9⟩ := bnd h9
     refine Oc (op_rem2 e11 rfl rfl) (Oc oa ?_)
     refine OpsL.nilS ⟨[(4, Pt 103 0), (7, I m_7), (9, I x_9)], [(103, .box 25 zBig)]⟩ rfl (Tri.seq (Tri.regionL ?_))
     refine Oc om (Oc oa ?_)
     refine OpsL.nilS ⟨[(4, Pt 103 0), (5, I m_7), (9, I x_9)], [(103, .box 25 zBig)]⟩ rfl (Tri.regionL (Oc om (Oc oa ?_)))
     refine OpsL.nil (Fin.block_normal ?_)
     exact Fin.againJ [4, 5, 7] [103] (m_7, x_9) (Option.some.inj h9) rfl
    ·refine Tri.exit (Fin.then_exit ?_)
     obtain rfl := hy10 _ (Option.some.inj h9).symm
     refine Fin.then_exit (Fin.block_exit ?_)
     exact Fin.join [4, 5] [103] n_6 rfl rfl
   ·rintro n_5 hv
    subst v6
    refine Tri.seq (Tri.regionL ?_)
    refine Oc om ?_
    obtain ⟨x_10, e12, h4⟩ := bnd h4
    refine Oc (op_call0 (r3_Of_spec e12) goes12 rfl rfl) ?_
    obtain ⟨x_11, e13, h4⟩ := bnd h4
    refine Oc (op_call0 (r3_Abs_spec e13) goes111 rfl rfl) (Oc (op_store_p tyAgg25 rfl rfl rfl rfl (Nat.le_of_ble_eq_true rfl) rfl) ?_)
    refine OpsL.nilS ⟨[(4, Pt 103 0)], [(103, .box 25 (eBig x_11))]⟩ rfl (Tri.ret ?_)
    obtain rfl := Option.some.inj h4
    refine Fin.then_ret ?_
    obtain rfl := Option.some.inj h
    refine Fin.keepS ⟨[(4, Pt 103 0)], [(103, .box 25 (eBig x_11))]⟩ rfl (Fin.result' [.agg (eBig x_11)] (.inl rfl) rfl (.cons (.agg tyAgg25 rfl rfl rfl rfl) .nil) ⟨rfl, rfl⟩)
  ·refine Tri.skip ?_
   exact Fin.join [2, 3, 4] [101, 102, 103] () (Option.some.inj h4) rfl
 ·rintro _ hv
  subst v3
  refine Tri.seq (Tri.seq (Tri.regionL ?_))
  refine Oc (lp tyAgg25) ?_
  obtain ⟨x_12, e14, h⟩ := bnd h
  refine Oc (op_call0 (r3_Good_spec e14) goes15 rfl rfl) (Oc (op_not rfl) (Oc om ?_))
  refine CgF (!(!x_12)) [] (fun g15 => trivial) (fun g15 => lp tyAgg25) (OpsL.keepS ⟨[(2, Pt 101 0), (3, Pt 102 0), (4, Pt 103 0), (41, B (!x_12)), (42, .opt (!(!x_12)) (.agg (eBig b0)))], [(101, .box 25 (eBig a0)), (102, .box 25 (eBig b0)), (103, .box 25 zBig)]⟩ rfl ?_)
  obtain ⟨x_13, e17, h⟩ := bnd h
  refine CgF (!(!x_12)) [42] (fun g16 => ⟨g16, trivial⟩) (fun g16 => op_call0 (r3_Good_spec (gc e17 g16)) goes15 rfl rfl) (CgF (!(!x_12)) [43] (fun g18 => ⟨g18, trivial⟩) (fun g18 => op_not rfl) (Oc (op_pick_or (fun e => by rw [e]; rfl) rfl rfl rfl rfl) (OpsL.nilS ⟨[(2, Pt 101 0), (3, Pt 102 0), (4, Pt 103 0), (45, B ((!x_12) || (!x_13)))], [(101, .box 25 (eBig a0)), (102, .box 25 (eBig b0)), (103, .box 25 zBig)]⟩ rfl (Tri.ite h rfl (fun _ h => ?_) (fun _ h => ?_)))))
  ·refine Tri.seq (Tri.regionL ?_)
   obtain ⟨x_14, e19, h⟩ := bnd h
   refine Oc (op_call0 (r3_Bad_spec e19) goes83 rfl rfl) (Oc (op_store_p tyAgg25 rfl rfl rfl rfl (Nat.le_of_ble_eq_true rfl) rfl) ?_)
   refine OpsL.nilS ⟨[(4, Pt 103 0)], [(103, .box 25 (eBig x_14))]⟩ rfl (Tri.ret (Fin.then_ret ?_))
   obtain rfl := Option.some.inj h
   refine Fin.keepS ⟨[(4, Pt 103 0)], [(103, .box 25 (eBig x_14))]⟩ rfl (Fin.result' [.agg (eBig x_14)] (.inl rfl) rfl (.cons (.agg tyAgg25 rfl rfl rfl rfl) .nil) ⟨rfl, rfl⟩)
  ·refine Tri.skip (Fin.keepS ⟨[(2, Pt 101 0), (3, Pt 102 0), (4, Pt 103 0)], [(101, .box 25 (eBig a0)), (102, .box 25 (eBig b0)), (103, .box 25 zBig)]⟩ rfl (Fin.then (Tri.seq (Tri.regionL ?_))))
   refine Oc (lp tyAgg25) ?_
   obtain ⟨x_15, e20, h⟩ := bnd h
   refine Oc (op_call0 (r3_digits_spec e20) goes85 rfl rfl) (Oc oa ?_)
   refine OpsL.nilS ⟨[(3, Pt 102 0), (4, Pt 103 0), (10, .b (.one (.sl 1 (x_15.map eI))))], [(102, .box 25 (eBig b0)), (103, .box 25 zBig)]⟩ rfl (Tri.seq (Tri.regionL ?_))
   refine Oc (lp tyAgg25) ?_
   obtain ⟨x_16, e21, h⟩ := bnd h
   refine Oc (op_call0 (r3_digits_spec e21) goes85 rfl rfl) (Oc oa ?_)
   refine OpsL.nilS ⟨[(4, Pt 103 0), (10, .b (.one (.sl 1 (x_15.map eI)))), (11, .b (.one (.sl 1 (x_16.map eI))))], [(103, .box 25 zBig)]⟩ rfl ?_
   obtain ⟨v22, h23, h⟩ := bnd h
   refine Tri.seqJ (v := v22) (fun (x_17 : List Int) => ⟨[(4, Pt 103 0), (10, .b (.one (.sl 1 (x_17.map eI))))], [(103, .box 25 zBig)]⟩) (fun z => z) ?_ ?_
   ·refine Tri.block (Tri.loopJ h23 (un2 fun (x_18 : List Int) (y_19 : List Int) => ⟨[(4, Pt 103 0), (10, .b (.one (.sl 1 (x_18.map eI)))), (11, .b (.one (.sl 1 (y_19.map eI))))], [(103, .box 25 zBig)]⟩) [4, 10, 11] [103] rfl ?_)
    rintro ⟨x_18, y_19⟩ o24 h25 hy26
    refine Tri.seq (Tri.seq (Tri.regionL ?_))
    refine Oc om (Oc (op_len_e' und70 rfl (List.length_map _)) (Oc (op_gtr rfl rfl) ?_))
    refine OpsL.nilS ⟨[(4, Pt 103 0), (10, .b (.one (.sl 1 (x_18.map eI)))), (11, .b (.one (.sl 1 (y_19.map eI)))), (53, B (decide (0 < (y_19.length : Int))))], [(103, .box 25 zBig)]⟩ rfl (Tri.ite h25 rfl (fun _ h25 => ?_) (fun _ h25 => ?_))
    ·refine Tri.skip (Fin.keepS ⟨[(4, Pt 103 0), (10, .b (.one (.sl 1 (x_18.map eI)))), (11, .b (.one (.sl 1 (y_19.map eI))))], [(103, .box 25 zBig)]⟩ rfl (Fin.then (Tri.block (Tri.seq (Tri.regionL ?_)))))
     refine Oc om (Oc om ?_)
     obtain ⟨⟨x_21, x_22⟩, e27, h25⟩ := bnd h25
     refine Oc (op_call0 (r3_divide_spec e27) goes121 rfl rfl) (Oc om (Oc (op_extract rfl rfl) ?_))
     refine OpsL.keepS ⟨[(4, Pt 103 0), (11, .b (.one (.sl 1 (y_19.map eI)))), (54, .tup [.one (.sl 1 (x_21.map eI)), .one (.sl 1 (x_22.map eI))]), (58, .b (.one (.sl 1 (x_21.map eI))))], [(103, .box 25 zBig)]⟩ rfl (Oc (op_extract rfl rfl) (Oc oa (Oc oa ?_)))
     refine OpsL.nilS ⟨[(4, Pt 103 0), (11, .b (.one (.sl 1 (y_19.map eI)))), (13, .b (.one (.sl 1 (x_22.map eI))))], [(103, .box 25 zBig)]⟩ rfl (Tri.seq (Tri.regionL ?_))
     refine Oc om (Oc oa ?_)
     refine OpsL.nilS ⟨[(4, Pt 103 0), (10, .b (.one (.sl 1 (y_19.map eI)))), (13, .b (.one (.sl 1 (x_22.map eI))))], [(103, .box 25 zBig)]⟩ rfl (Tri.regionL (Oc om (Oc oa ?_)))
     refine OpsL.nil (Fin.block_normal ?_)
     exact Fin.againJ [4, 10, 11] [103] (y_19, x_22) (Option.some.inj h25) rfl
    ·refine Tri.exit (Fin.then_exit ?_)
     obtain rfl := hy26 _ (Option.some.inj h25).symm
     refine Fin.then_exit (Fin.block_exit ?_)
     exact Fin.join [4, 10] [103] x_18 rfl rfl
   ·rintro x_17 hv
    subst v22
    refine Tri.seq (Tri.regionL ?_)
    refine Oc om ?_
    obtain ⟨x_23, e28, h⟩ := bnd h
    refine Oc (op_call0 (r3_number_spec e28) goes76 rfl rfl) (Oc (op_store_p tyAgg25 rfl rfl rfl rfl (Nat.le_of_ble_eq_true rfl) rfl) ?_)
    refine OpsL.nilS ⟨[(4, Pt 103 0)], [(103, .box 25 (eBig x_23))]⟩ rfl (Tri.ret ?_)
    obtain rfl := Option.some.inj h
    refine Fin.keepS ⟨[(4, Pt 103 0)], [(103, .box 25 (eBig x_23))]⟩ rfl (Fin.result' [.agg (eBig x_23)] (.inl rfl) rfl (.cons (.agg tyAgg25 rfl rfl rfl rfl) .nil) ⟨rfl, rfl⟩)
def r4_one_S (F : Nat) : Option Big :=
 (r3_Of_S F 1).bind fun x_1 => some x_1
theorem r4_one_spec {F : Nat} {r : Big} (h : r4_one_S F = some r) : Meets Tryz.prog (tabs mx) 80 [] [] (Is [] (.b (.agg (eBig r)))) := by
 unfold r4_one_S at h
 refine Meets.intro 2 Tryz.func80 Tryz.ntmps80 rfl (by simp) fun E => ?_
 show Tri _ E ⟨2, [], []⟩ _ ⟨[], []⟩ _
 refine Tri.seq (Tri.regionL ?_)
 refine Oc (op_alloc (k := 101) tyZero25 rfl) (OpsL.nilS ⟨[(0, Pt 101 0)], [(101, .box 25 zBig)]⟩ rfl (Tri.seq (Tri.regionL ?_)))
 obtain ⟨x_1, e1, h⟩ := bnd h
 refine Oc (op_call0 (r3_Of_spec e1) goes12 rfl rfl) (Oc (op_store_p tyAgg25 rfl rfl rfl rfl (Nat.le_of_ble_eq_true rfl) rfl) ?_)
 refine OpsL.nilS ⟨[(0, Pt 101 0)], [(101, .box 25 (eBig x_1))]⟩ rfl (Tri.ret ?_)
 obtain rfl := Option.some.inj h
 refine Fin.keepS ⟨[(0, Pt 101 0)], [(101, .box 25 (eBig x_1))]⟩ rfl (Fin.result' [.agg (eBig x_1)] (.inl rfl) rfl (.cons (.agg tyAgg25 rfl rfl rfl rfl) .nil) ⟨rfl, rfl⟩)
def r4_Good_S (F : Nat) (x0 : Frc) : Option Bool :=
 (r3_Good_S F x0.N).bind fun x_1 => (gcall (!(!x_1)) (r3_Good_S F x0.D)).bind fun x_2 => if ((!x_1) || (!x_2)) = true then (some false) else ((r3_Sign_S F x0.D).bind fun x_3 => (gcall (decide (0 < x_3)) (r3_Gcd_S F x0.N x0.D)).bind fun x_4 => (gcall (decide (0 < x_3)) (r4_one_S F)).bind fun x_5 => some ((decide (0 < x_3)) && (decide (x_4 = x_5))))
theorem r4_Good_spec {F : Nat} {x0 : Frc} {r : Bool} (h : r4_Good_S F x0 = some r) : Meets Tryz.prog (tabs mx) 13 [] [.agg (eFrc x0)] (Is [] (.b (.one (.bool r)))) := by
 unfold r4_Good_S at h
 refine Meets.intro 26 Tryz.func13 Tryz.ntmps13 rfl (by simp) fun E => ?_
 show Tri _ E ⟨26, [], []⟩ _ ⟨[(0, .b (.agg (eFrc x0)))], []⟩ _
 refine Tri.seq (Tri.regionL ?_)
 refine Oc (op_box (k := 101) rfl rfl) (Oc oa ?_)
 refine OpsL.nilS ⟨[(1, Pt 101 0)], [(101, .box 27 (eFrc x0))]⟩ rfl (Tri.seq (Tri.seq (Tri.regionL ?_)))
 refine Oc (op_field_p tyFld27_0 rfl rfl) (Oc (lp tyAgg25) ?_)
 obtain ⟨x_1, e1, h⟩ := bnd h
 refine Oc (op_call0 (r3_Good_spec e1) goes15 rfl rfl) (Oc (op_not rfl) (Oc om ?_))
 refine OpsL.keepS ⟨[(1, Pt 101 0), (7, B (!x_1))], [(101, .box 27 (eFrc x0))]⟩ rfl (CgF (!(!x_1)) [] (fun g2 => trivial) (fun g2 => op_field_p tyFld27_1 rfl rfl) (CgF (!(!x_1)) [8] (fun g3 => ⟨g3, trivial⟩) (fun g3 => lp tyAgg25) ?_))
 obtain ⟨x_2, e5, h⟩ := bnd h
 refine CgF (!(!x_1)) [9] (fun g4 => ⟨g4, trivial⟩) (fun g4 => op_call0 (r3_Good_spec (gc e5 g4)) goes15 rfl rfl) (CgF (!(!x_1)) [10] (fun g6 => ⟨g6, trivial⟩) (fun g6 => op_not rfl) (Oc (op_pick_or (fun e => by rw [e]; rfl) rfl rfl rfl rfl) (OpsL.nilS ⟨[(1, Pt 101 0), (12, B ((!x_1) || (!x_2)))], [(101, .box 27 (eFrc x0))]⟩ rfl (Tri.ite h rfl (fun _ h => ?_) (fun _ h => ?_)))))
 ·refine Tri.seq (Tri.regionL ?_)
  refine Oc oa (OpsL.nilS ⟨[(2, B false)], []⟩ rfl (Tri.ret (Fin.then_ret ?_)))
  obtain rfl := Option.some.inj h
  refine Fin.keepS ⟨[(2, B false)], []⟩ rfl (Fin.result' [.one (.bool false)] (.inl rfl) rfl (.cons (.tmp rfl) .nil) ⟨rfl, rfl⟩)
 ·refine Tri.skip (Fin.keepS ⟨[(1, Pt 101 0)], [(101, .box 27 (eFrc x0))]⟩ rfl (Fin.then (Tri.seq (Tri.regionL ?_))))
  refine Oc (op_field_p tyFld27_1 rfl rfl) (Oc (lp tyAgg25) ?_)
  obtain ⟨x_3, e7, h⟩ := bnd h
  refine Oc (op_call0 (r3_Sign_spec e7) goes78 rfl rfl) (Oc (op_gtr rfl rfl) (Oc om ?_))
  refine OpsL.keepS ⟨[(1, Pt 101 0), (17, B (decide (0 < x_3)))], [(101, .box 27 (eFrc x0))]⟩ rfl (CgT (decide (0 < x_3)) [] (fun g8 => trivial) (fun g8 => op_field_p tyFld27_0 rfl rfl) (CgT (decide (0 < x_3)) [18] (fun g9 => ⟨g9, trivial⟩) (fun g9 => lp tyAgg25) (CgT (decide (0 < x_3)) [] (fun g10 => by exact trivial) (fun g10 => op_field_p tyFld27_1 rfl rfl) (CgT (decide (0 < x_3)) [20] (fun g11 => by exact ⟨g11, trivial⟩) (fun g11 => lp tyAgg25) ?_))))
  obtain ⟨x_4, e13, h⟩ := bnd h
  refine CgT (decide (0 < x_3)) [19, 21] (fun g12 => ⟨g12, g12, trivial⟩) (fun g12 => op_call0 (r3_Gcd_spec (gc e13 g12)) goes79 rfl rfl) (OpsL.keepS ⟨[(17, B (decide (0 < x_3))), (22, .opt (decide (0 < x_3)) (.agg (eBig x_4)))], []⟩ rfl ?_)
  obtain ⟨x_5, e15, h⟩ := bnd h
  refine CgT (decide (0 < x_3)) [] (fun g14 => trivial) (fun g14 => op_call0 (r4_one_spec (gc e15 g14)) goes80 rfl rfl) (CgT (decide (0 < x_3)) [22, 23] (fun g16 => ⟨g16, g16, trivial⟩) (fun g16 => op_eql_agg (eqAgg25 x_4 x_5) rfl rfl) (Oc (op_pick_and (fun e => e) rfl rfl rfl rfl) (Oc oa ?_)))
  refine OpsL.nilS ⟨[(2, B ((decide (0 < x_3)) && (decide (x_4 = x_5))))], []⟩ rfl (Tri.ret ?_)
  obtain rfl := Option.some.inj h
  refine Fin.keepS ⟨[(2, B ((decide (0 < x_3)) && (decide (x_4 = x_5))))], []⟩ rfl (Fin.result' [.one (.bool ((decide (0 < x_3)) && (decide (x_4 = x_5))))] (.inl rfl) rfl (.cons (.tmp rfl) .nil) ⟨rfl, rfl⟩)
def w_signed_S (F : Nat) (neg0 : Bool) (w0 : A16) : Option Big :=
 some (⟨false, neg0 && (decide (w0 ≠ A16.zero)), w0⟩ : Big)
theorem w_signed_spec {F : Nat} {neg0 : Bool} {w0 : A16} {r : Big} (h : w_signed_S F neg0 w0 = some r) : Meets Tryz.prog (tabs mx) 115 [] [.one (.bool neg0), .agg (eW w0)] (Is [] (.b (.agg (eBig r)))) := by
 unfold w_signed_S at h
 refine Meets.intro 13 Tryz.func115 Tryz.ntmps115 rfl (by simp) fun E => ?_
 show Tri _ E ⟨13, [], []⟩ _ ⟨[(0, B neg0), (1, .b (.agg (eW w0)))], []⟩ _
 refine Tri.seq (Tri.regionL ?_)
 refine Oc (op_box (k := 101) rfl rfl) (Oc (op_alloc (k := 102) tyZero25 rfl) ?_)
 refine OpsL.nilS ⟨[(0, B neg0), (3, Pt 101 0), (4, Pt 102 0)], [(101, .box 23 (eW w0)), (102, .box 25 zBig)]⟩ rfl (Tri.seq (Tri.regionY mixed 8 [B neg0, B neg0, .opt neg0 (.agg (eW w0)), .opt neg0 (.agg (eW A16.zero)), .opt neg0 (.one (.bool (decide (w0 ≠ A16.zero)))), B (neg0 && (decide (w0 ≠ A16.zero))), .b (.agg (eW w0)), .b (.agg (.bool false :: .bool (neg0 && (decide (w0 ≠ A16.zero))) :: (eW w0)))] [4] [102] (s' := ⟨[(4, Pt 102 0)], [(102, .box 25 (.bool false :: .bool (neg0 && (decide (w0 ≠ A16.zero))) :: (eW w0)))]⟩) rfl ⟨fun _ => .p om, fun _ => .p om, fun _ => by exact .guard neg0 1 [] (.plain rfl) (eq_t _) rfl rfl (fun g1 => trivial) (fun g1 => lp tyAgg23), fun _ => by exact .guard neg0 1 [] (.plain rfl) (eq_t _) rfl rfl (fun g2 => trivial) (fun g2 => op_buildA tyBuild23 rfl rfl), fun _ => by exact .guard neg0 3 [7, 8] (.plain rfl) (eq_t _) rfl rfl (fun g3 => ⟨g3, g3, trivial⟩) (fun g3 => op_neq_agg (eqAgg23 w0 A16.zero) rfl rfl neg_dec), fun _ => .p (op_pick_and (fun e => e) rfl rfl rfl rfl), fun _ => .p (lp tyAgg23), fun _ => .p (op_build tyBuild25 rfl rfl), trivial⟩ ⟨_, by exact .p (op_store_p tyAgg25 rfl rfl rfl rfl (Nat.le_of_ble_eq_true rfl) rfl), rfl⟩ rfl (Tri.ret ?_)))
 obtain rfl := Option.some.inj h
 refine Fin.keepS ⟨[(4, Pt 102 0)], [(102, .box 25 (.bool false :: .bool (neg0 && (decide (w0 ≠ A16.zero))) :: (eW w0)))]⟩ rfl (Fin.result' [.agg (.bool false :: .bool (neg0 && (decide (w0 ≠ A16.zero))) :: (eW w0))] (.inl rfl) rfl (.cons (.agg tyAgg25 rfl rfl rfl rfl) .nil) ⟨rfl, rfl⟩)
def w_Of_S (F : Nat) (n0 : Int) : Option Big :=
 Option.bind (if (decide (n0 < 0)) = true then (letN (IntKind.u64.wrap (-(IntKind.u64.wrap n0))) fun x_2 => some x_2) else (some (IntKind.u64.wrap n0))) (fun u_1 => letN (⟨IntKind.u32.wrap u_1, IntKind.u32.wrap (u_1 / 4294967296), 0, 0, 0, 0, 0, 0, 0, 0, 0, 0, 0, 0, 0, 0⟩ : A16) fun x_3 => (w_signed_S F (decide (n0 < 0)) x_3).bind fun x_4 => some x_4)
theorem w_Of_spec {F : Nat} {n0 : Int} {r : Big} (h : w_Of_S F n0 = some r) : Meets Tryz.prog (tabs mx) 91 [] [.one (.i n0)] (Is [] (.b (.agg (eBig r)))) := by
 unfold w_Of_S at h
 refine Meets.intro 19 Tryz.func91 Tryz.ntmps91 rfl (by simp) fun E => ?_
 show Tri _ E ⟨19, [], []⟩ _ ⟨[(0, I n0)], []⟩ _
 refine Tri.seq (Tri.regionL ?_)
 refine Oc (op_alloc (k := 101) tyZero25 rfl) (OpsL.nilS ⟨[(0, I n0), (2, Pt 101 0)], [(101, .box 25 zBig)]⟩ rfl (Tri.seq (Tri.regionL ?_)))
 refine Oc om (Oc (op_conv_wrap undi3 undi79 rfl) (Oc oa ?_))
 refine OpsL.nilS ⟨[(0, I n0), (2, Pt 101 0), (3, .b (.one (.int .u64 (IntKind.u64.wrap n0))))], [(101, .box 25 zBig)]⟩ rfl ?_
 obtain ⟨v1, h2, h⟩ := bnd h
 refine Tri.seqJ (v := v1) (fun (u_1 : Int) => ⟨[(0, I n0), (2, Pt 101 0), (3, .b (.one (.int .u64 u_1)))], [(101, .box 25 zBig)]⟩) (fun z => z) ?_ ?_
 ·refine Tri.seq (Tri.regionL ?_)
  refine Oc om (Oc (op_lss rfl rfl) ?_)
  refine OpsL.nilS ⟨[(0, I n0), (2, Pt 101 0), (3, .b (.one (.int .u64 (IntKind.u64.wrap n0)))), (7, B (decide (n0 < 0)))], [(101, .box 25 zBig)]⟩ rfl (Tri.ite h2 rfl (fun _ h2 => ?_) (fun _ h2 => ?_))
  ·refine Tri.regionL (Oc om (OpsL.consI .u64 h2 rfl (op_neg rfl) (fun x_2 h2 => ?_)))
   refine Oc oa (OpsL.nil ?_)
   exact Fin.join [0, 2, 3] [101] x_2 (Option.some.inj h2) rfl
  ·refine Tri.skip ?_
   exact Fin.join [0, 2, 3] [101] (IntKind.u64.wrap n0) (Option.some.inj h2) rfl
 ·rintro u_1 hv
  subst v1
  refine Tri.seq (Tri.regionL ?_)
  refine Oc om (Oc (op_lss rfl rfl) (Oc om (Oc (op_conv_wrap undi79 undi22 rfl) (Oc om (Oc (op_shr2 (m := 32) (by decide) rfl rfl rfl) ?_)))))
  refine Oc (op_conv_wrap undi79 undi22 rfl) (OpsL.keepS ⟨[(2, Pt 101 0), (11, B (decide (n0 < 0))), (13, .b (.one (.int .u32 (IntKind.u32.wrap u_1)))), (16, .b (.one (.int .u32 (IntKind.u32.wrap (u_1 / 4294967296)))))], [(101, .box 25 zBig)]⟩ rfl (OpsL.consA eW h rfl (op_buildA tyBuild23 rfl rfl) (fun x_3 h => ?_)))
  obtain ⟨x_4, e3, h⟩ := bnd h
  refine Oc (op_call0 (w_signed_spec e3) goes115 rfl rfl) (Oc (op_store_p tyAgg25 rfl rfl rfl rfl (Nat.le_of_ble_eq_true rfl) rfl) ?_)
  refine OpsL.nilS ⟨[(2, Pt 101 0)], [(101, .box 25 (eBig x_4))]⟩ rfl (Tri.ret ?_)
  obtain rfl := Option.some.inj h
  refine Fin.keepS ⟨[(2, Pt 101 0)], [(101, .box 25 (eBig x_4))]⟩ rfl (Fin.result' [.agg (eBig x_4)] (.inl rfl) rfl (.cons (.agg tyAgg25 rfl rfl rfl rfl) .nil) ⟨rfl, rfl⟩)
def w_Valid_S (F : Nat) (x0 : Big) : Option Bool :=
 if x0.Bad = true then (some ((decide (x0.W = A16.zero)) && (!x0.Neg))) else (some ((!(decide (x0.W = A16.zero))) || (!x0.Neg)))
theorem w_Valid_spec {F : Nat} {x0 : Big} {r : Bool} (h : w_Valid_S F x0 = some r) : Meets Tryz.prog (tabs mx) 112 [] [.agg (eBig x0)] (Is [] (.b (.one (.bool r)))) := by
 unfold w_Valid_S at h
 refine Meets.intro 23 Tryz.func112 Tryz.ntmps112 rfl (by simp) fun E => ?_
 show Tri _ E ⟨23, [], []⟩ _ ⟨[(0, .b (.agg (eBig x0)))], []⟩ _
 refine Tri.seq (Tri.regionL ?_)
 refine Oc (op_box (k := 101) rfl rfl) (Oc oa ?_)
 refine OpsL.nilS ⟨[(1, Pt 101 0)], [(101, .box 25 (eBig x0))]⟩ rfl (Tri.seq (Tri.regionL ?_))
 refine Oc (op_field_p tyFld25_2 rfl rfl) (Oc (lp tyAgg23) (Oc (op_buildA tyBuild23 rfl rfl) (Oc (op_eql_agg (eqAgg23 x0.W A16.zero) rfl rfl) (Oc oa ?_))))
 refine OpsL.nilS ⟨[(1, Pt 101 0), (3, B (decide (x0.W = A16.zero)))], [(101, .box 25 (eBig x0))]⟩ rfl (Tri.seq (Tri.seq (Tri.regionL ?_)))
 refine Oc (op_field_p tyFld25_0 rfl rfl) (Oc (op_load_p1 tyOne4 rfl rfl rfl) ?_)
 refine OpsL.nilS ⟨[(1, Pt 101 0), (3, B (decide (x0.W = A16.zero))), (9, B x0.Bad)], [(101, .box 25 (eBig x0))]⟩ rfl (Tri.ite h rfl (fun _ h => ?_) (fun _ h => ?_))
 ·refine Tri.seq (Tri.regionL ?_)
  refine Oc om (Oc om ?_)
  refine CgT (decide (x0.W = A16.zero)) [] (fun g1 => trivial) (fun g1 => op_field_p tyFld25_1 rfl rfl) (CgT (decide (x0.W = A16.zero)) [12] (fun g2 => ⟨g2, trivial⟩) (fun g2 => op_load_p1 tyOne4 rfl rfl rfl) (CgT (decide (x0.W = A16.zero)) [13] (fun g3 => ⟨g3, trivial⟩) (fun g3 => op_not rfl) (Oc (op_pick_and (fun e => e) rfl rfl rfl rfl) (Oc oa ?_))))
  refine OpsL.nilS ⟨[(2, B ((decide (x0.W = A16.zero)) && (!x0.Neg)))], []⟩ rfl (Tri.ret (Fin.then_ret ?_))
  obtain rfl := Option.some.inj h
  refine Fin.keepS ⟨[(2, B ((decide (x0.W = A16.zero)) && (!x0.Neg)))], []⟩ rfl (Fin.result' [.one (.bool ((decide (x0.W = A16.zero)) && (!x0.Neg)))] (.inl rfl) rfl (.cons (.tmp rfl) .nil) ⟨rfl, rfl⟩)
 ·refine Tri.skip (Fin.keepS ⟨[(1, Pt 101 0), (3, B (decide (x0.W = A16.zero)))], [(101, .box 25 (eBig x0))]⟩ rfl (Fin.then (Tri.seq (Tri.regionL ?_))))
  refine Oc om (Oc (op_not rfl) (Oc om ?_))
  refine CgF (!(!(decide (x0.W = A16.zero)))) [] (fun g4 => trivial) (fun g4 => op_field_p tyFld25_1 rfl rfl) (CgF (!(!(decide (x0.W = A16.zero)))) [19] (fun g5 => ⟨g5, trivial⟩) (fun g5 => op_load_p1 tyOne4 rfl rfl rfl) (CgF (!(!(decide (x0.W = A16.zero)))) [20] (fun g6 => ⟨g6, trivial⟩) (fun g6 => op_not rfl) (Oc (op_pick_or (fun e => by rw [e]; rfl) rfl rfl rfl rfl) (Oc oa ?_))))
  refine OpsL.nilS ⟨[(2, B ((!(decide (x0.W = A16.zero))) || (!x0.Neg)))], []⟩ rfl (Tri.ret ?_)
  obtain rfl := Option.some.inj h
  refine Fin.keepS ⟨[(2, B ((!(decide (x0.W = A16.zero))) || (!x0.Neg)))], []⟩ rfl (Fin.result' [.one (.bool ((!(decide (x0.W = A16.zero))) || (!x0.Neg)))] (.inl rfl) rfl (.cons (.tmp rfl) .nil) ⟨rfl, rfl⟩)
def q_good_S (F : Nat) (x0 : Big) : Option Bool :=
 (gcall (!x0.Bad) (w_Valid_S F x0)).bind fun x_1 => some ((!x0.Bad) && x_1)
theorem q_good_spec {F : Nat} {x0 : Big} {r : Bool} (h : q_good_S F x0 = some r) : Meets Tryz.prog (tabs mx) 71 [] [.agg (eBig x0)] (Is [] (.b (.one (.bool r)))) := by
 unfold q_good_S at h
 refine Meets.intro 10 Tryz.func71 Tryz.ntmps71 rfl (by simp) fun E => ?_
 show Tri _ E ⟨10, [], []⟩ _ ⟨[(0, .b (.agg (eBig x0)))], []⟩ _
 refine Tri.seq (Tri.regionL ?_)
 refine Oc (op_box (k := 101) rfl rfl) (Oc oa ?_)
 refine OpsL.nilS ⟨[(1, Pt 101 0)], [(101, .box 25 (eBig x0))]⟩ rfl (Tri.seq (Tri.regionL ?_))
 refine Oc (op_field_p tyFld25_0 rfl rfl) (Oc (op_load_p1 tyOne4 rfl rfl rfl) (Oc (op_not rfl) (Oc om ?_)))
 refine CgT (!x0.Bad) [] (fun g1 => trivial) (fun g1 => lp tyAgg25) (OpsL.keepS ⟨[(6, B (!x0.Bad)), (7, .opt (!x0.Bad) (.agg (eBig x0)))], []⟩ rfl ?_)
 obtain ⟨x_1, e3, h⟩ := bnd h
 refine CgT (!x0.Bad) [7] (fun g2 => ⟨g2, trivial⟩) (fun g2 => op_call0 (w_Valid_spec (gc e3 g2)) goes112 rfl rfl) (Oc (op_pick_and (fun e => e) rfl rfl rfl rfl) (Oc oa ?_))
 refine OpsL.nilS ⟨[(2, B ((!x0.Bad) && x_1))], []⟩ rfl (Tri.ret ?_)
 obtain rfl := Option.some.inj h
 refine Fin.keepS ⟨[(2, B ((!x0.Bad) && x_1))], []⟩ rfl (Fin.result' [.one (.bool ((!x0.Bad) && x_1))] (.inl rfl) rfl (.cons (.tmp rfl) .nil) ⟨rfl, rfl⟩)
def w_good_S (F : Nat) (l0 : List Big) : Option Bool :=
 Option.bind (iter F (fun x_1 => if (decide (x_1 < (l0.length : Int))) = true then ((idx? l0 x_1).bind fun x_2 => (gcall (!x_2.Bad) (w_Valid_S F x_2)).bind fun x_3 => if (x_2.Bad || (!x_3)) = true then (some (.inr (.inr false))) else (some (.inl (IntKind.i64.wrap (x_1 + 1))))) else (some (.inr (.inl ())))) 0) (alt2 (fun _ => some true) (fun y => some y))
theorem w_good_spec {F : Nat} {l0 : List Big} {r : Bool} (h : w_good_S F l0 = some r) : Meets Tryz.prog (tabs mx) 113 [] [.one (.sl 18 (l0.map eBig))] (Is [] (.b (.one (.bool r)))) := by
 unfold w_good_S at h
 refine Meets.intro 19 Tryz.func113 Tryz.ntmps113 rfl (by simp) fun E => ?_
 show Tri _ E ⟨19, [], []⟩ _ ⟨[(0, .b (.one (.sl 18 (l0.map eBig))))], []⟩ _
 refine Tri.seq (Tri.regionL ?_)
 refine Oc oa (OpsL.nilS ⟨[(0, .b (.one (.sl 18 (l0.map eBig))))], []⟩ rfl ?_)
 obtain ⟨v1, h2, h⟩ := bnd h
 refine Tri.seqJ (v := v1) (fun (_ : Unit) => ⟨[], []⟩) (fun z => .inl z) ?_ ?_
 ·refine Tri.seq (Tri.regionL ?_)
  refine Oc om (Oc (op_len_e' und117 rfl (List.length_map _)) (Oc om ?_))
  refine OpsL.nilS ⟨[(5, .b (.one (.sl 18 (l0.map eBig)))), (6, I (l0.length : Int)), (7, I 0)], []⟩ rfl (Tri.block (Tri.loopJ h2 (fun (x_1 : Int) => ⟨[(5, .b (.one (.sl 18 (l0.map eBig)))), (6, I (l0.length : Int)), (7, I x_1)], []⟩) [5, 6, 7] [] rfl ?_))
  rintro x_1 o3 h4 hy5
  refine Tri.seq (Tri.regionL ?_)
  refine Oc (op_lss rfl rfl) (OpsL.nilS ⟨[(5, .b (.one (.sl 18 (l0.map eBig)))), (6, I (l0.length : Int)), (7, I x_1), (8, B (decide (x_1 < (l0.length : Int))))], []⟩ rfl (Tri.seq (Tri.ite h4 rfl (fun _ h4 => ?_) (fun _ h4 => ?_))))
  ·refine Tri.skip (Fin.keepS ⟨[(5, .b (.one (.sl 18 (l0.map eBig)))), (6, I (l0.length : Int)), (7, I x_1)], []⟩ rfl (Fin.then (Tri.seq (Tri.block (Tri.seq (Tri.regionL ?_))))))
   obtain ⟨x_2, e6, h4⟩ := bnd h4
   refine Oc (op_index_e tySl117 (ix_lo e6) (ix_map (e := eBig) e6) rfl rfl) (Oc (op_load_e tyAgg25 rfl rfl rfl) (Oc (op_alloc (k := 101) tyZero25 rfl) (Oc (op_store_p tyAgg25 rfl rfl rfl rfl (Nat.le_of_ble_eq_true rfl) rfl) ?_)))
   refine OpsL.nilS ⟨[(4, Pt 101 0), (5, .b (.one (.sl 18 (l0.map eBig)))), (6, I (l0.length : Int)), (7, I x_1)], [(101, .box 25 (eBig x_2))]⟩ rfl (Tri.seq (Tri.regionL ?_))
   refine Oc (op_field_p tyFld25_0 rfl rfl) (Oc (op_load_p1 tyOne4 rfl rfl rfl) (Oc om ?_))
   refine CgF (!x_2.Bad) [] (fun g7 => trivial) (fun g7 => lp tyAgg25) ?_
   obtain ⟨x_3, e9, h4⟩ := bnd h4
   refine CgF (!x_2.Bad) [14] (fun g8 => ⟨g8, trivial⟩) (fun g8 => op_call0 (w_Valid_spec (gc e9 g8)) goes112 rfl rfl) (CgF (!x_2.Bad) [15] (fun g10 => ⟨g10, trivial⟩) (fun g10 => op_not rfl) (Oc (op_pick_or (fun e => by rw [e]; rfl) rfl rfl rfl rfl) (OpsL.nilS ⟨[(5, .b (.one (.sl 18 (l0.map eBig)))), (6, I (l0.length : Int)), (7, I x_1), (17, B (x_2.Bad || (!x_3)))], []⟩ rfl (Tri.ite h4 rfl (fun _ h4 => ?_) (fun _ h4 => ?_)))))
   ·refine Tri.seq (Tri.regionL ?_)
    refine Oc oa (OpsL.nilS ⟨[(2, B false)], []⟩ rfl (Tri.ret (Fin.block_ret (Fin.then_ret ?_))))
    obtain rfl := hy5 _ (Option.some.inj h4).symm
    refine Fin.then_ret (Fin.block_ret (Fin.then_ret ?_))
    obtain rfl := Option.some.inj h
    refine Fin.keepS ⟨[(2, B false)], []⟩ rfl (Fin.result' [.one (.bool false)] (.inl rfl) rfl (.cons (.tmp rfl) .nil) ⟨rfl, rfl⟩)
   ·refine Tri.skip (Fin.block_normal (Fin.keepS ⟨[(5, .b (.one (.sl 18 (l0.map eBig)))), (6, I (l0.length : Int)), (7, I x_1)], []⟩ rfl (Fin.then (Tri.regionL ?_))))
    refine Oc (op_add rfl rfl) (Oc om ?_)
    refine OpsL.nil ?_
    exact Fin.againJ [5, 6, 7] [] (IntKind.i64.wrap (x_1 + 1)) (Option.some.inj h4) rfl
  ·refine Tri.exit (Fin.then_exit ?_)
   obtain rfl := hy5 _ (Option.some.inj h4).symm
   refine Fin.then_exit (Fin.block_exit ?_)
   exact Fin.join [] [] () rfl rfl
 ·rintro _ hv
  subst v1
  refine Tri.seq (Tri.regionL ?_)
  refine Oc oa (OpsL.nilS ⟨[(2, B true)], []⟩ rfl (Tri.ret ?_))
  obtain rfl := Option.some.inj h
  refine Fin.keepS ⟨[(2, B true)], []⟩ rfl (Fin.result' [.one (.bool true)] (.inl rfl) rfl (.cons (.tmp rfl) .nil) ⟨rfl, rfl⟩)
def w_Sign_S (F : Nat) (x0 : Big) : Option Int :=
 (w_good_S F [x0]).bind fun x_1 => if ((!x_1) || (decide (x0.W = A16.zero))) = true then (some 0) else (if x0.Neg = true then (some (-1)) else (some 1))
theorem w_Sign_spec {F : Nat} {x0 : Big} {r : Int} (h : w_Sign_S F x0 = some r) : Meets Tryz.prog (tabs mx) 72 [] [.agg (eBig x0)] (Is [] (.b (.one (.i r)))) := by
 unfold w_Sign_S at h
 refine Meets.intro 17 Tryz.func72 Tryz.ntmps72 rfl (by simp) fun E => ?_
 show Tri _ E ⟨17, [], []⟩ _ ⟨[(0, .b (.agg (eBig x0)))], []⟩ _
 refine Tri.seq (Tri.regionL ?_)
 refine Oc (op_box (k := 101) rfl rfl) (Oc oa ?_)
 refine OpsL.nilS ⟨[(1, Pt 101 0)], [(101, .box 25 (eBig x0))]⟩ rfl (Tri.seq (Tri.block (Tri.seq (Tri.regionL ?_))))
 refine Oc (lp tyAgg25) (Oc (op_buildSlice (k := 102) (es := [x0].map eBig) tySl117 rfl rfl (uni_map fun _ => rfl) rfl (by decide) (by decide) rfl) ?_)
 obtain ⟨x_1, e1, h⟩ := bnd h
 refine Oc (op_callB (w_good_spec e1) goes113 rfl CP.flat_bool) (Oc (op_not rfl) ?_)
 refine OpsL.keepS ⟨[(1, Pt 101 0), (7, B (!x_1))], [(101, .box 25 (eBig x0))]⟩ rfl (Oc om (CgF (!(!x_1)) [] (fun g2 => by exact trivial) (fun g2 => op_field_p tyFld25_2 rfl rfl) (CgF (!(!x_1)) [9] (fun g3 => by exact ⟨g3, trivial⟩) (fun g3 => lp tyAgg23) (CgF (!(!x_1)) [] (fun g4 => by exact trivial) (fun g4 => op_buildA tyBuild23 rfl rfl) (CgF (!(!x_1)) [10, 11] (fun g5 => by exact ⟨g5, g5, trivial⟩) (fun g5 => op_eql_agg (eqAgg23 x0.W A16.zero) rfl rfl) ?_)))))
 refine Oc (op_pick_or (fun e => by rw [e]; rfl) rfl rfl rfl rfl) (Oc oa ?_)
 refine OpsL.nilS ⟨[(1, Pt 101 0), (3, B ((!x_1) || (decide (x0.W = A16.zero))))], [(101, .box 25 (eBig x0))]⟩ rfl (Tri.ite h rfl (fun _ h => ?_) (fun _ h => ?_))
 ·refine Tri.seq (Tri.regionL ?_)
  refine Oc oa (OpsL.nilS ⟨[(2, I 0)], []⟩ rfl (Tri.ret (Fin.block_ret (Fin.then_ret ?_))))
  obtain rfl := Option.some.inj h
  refine Fin.keepS ⟨[(2, I 0)], []⟩ rfl (Fin.result' [.one (.i 0)] (.inl rfl) rfl (.cons (.tmp rfl) .nil) ⟨rfl, rfl⟩)
 ·refine Tri.seq (Tri.regionL ?_)
  refine Oc (op_field_p tyFld25_1 rfl rfl) (Oc (op_load_p1 tyOne4 rfl rfl rfl) (Oc oa ?_))
  refine OpsL.nilS ⟨[(14, B x0.Neg)], []⟩ rfl (Tri.ite h rfl (fun _ h => ?_) (fun _ h => ?_))
  ·refine Tri.seq (Tri.regionL ?_)
   refine Oc oa (OpsL.nilS ⟨[(2, I (-1))], []⟩ rfl (Tri.ret (Fin.block_ret (Fin.then_ret ?_))))
   obtain rfl := Option.some.inj h
   refine Fin.keepS ⟨[(2, I (-1))], []⟩ rfl (Fin.result' [.one (.i (-1))] (.inl rfl) rfl (.cons (.tmp rfl) .nil) ⟨rfl, rfl⟩)
  ·refine Tri.skip (Fin.block_normal (Fin.keepS ⟨[], []⟩ rfl (Fin.then (Tri.seq (Tri.regionL ?_)))))
   refine Oc oa (OpsL.nilS ⟨[(2, I 1)], []⟩ rfl (Tri.ret ?_))
   obtain rfl := Option.some.inj h
   refine Fin.keepS ⟨[(2, I 1)], []⟩ rfl (Fin.result' [.one (.i 1)] (.inl rfl) rfl (.cons (.tmp rfl) .nil) ⟨rfl, rfl⟩)
def w_Bad_S (F : Nat) : Option Big :=
 some (⟨true, false, A16.zero⟩ : Big)
theorem w_Bad_spec {F : Nat} {r : Big} (h : w_Bad_S F = some r) : Meets Tryz.prog (tabs mx) 92 [] [] (Is [] (.b (.agg (eBig r)))) := by
 unfold w_Bad_S at h
 refine Meets.intro 2 Tryz.func92 Tryz.ntmps92 rfl (by simp) fun E => ?_
 show Tri _ E ⟨2, [], []⟩ _ ⟨[], []⟩ _
 refine Tri.seq (Tri.regionL ?_)
 refine Oc (op_alloc (k := 101) tyZero25 rfl) (OpsL.nilS ⟨[(0, Pt 101 0)], [(101, .box 25 zBig)]⟩ rfl (Tri.seq (Tri.regionL ?_)))
 refine Oc (op_build tyBuild25 rfl rfl) (Oc (op_store_p tyAgg25 rfl rfl rfl rfl (Nat.le_of_ble_eq_true rfl) rfl) ?_)
 refine OpsL.nilS ⟨[(0, Pt 101 0)], [(101, .box 25 (.bool true :: .bool false :: (eW A16.zero)))]⟩ rfl (Tri.ret ?_)
 obtain rfl := Option.some.inj h
 refine Fin.keepS ⟨[(0, Pt 101 0)], [(101, .box 25 (.bool true :: .bool false :: (eW A16.zero)))]⟩ rfl (Fin.result' [.agg (.bool true :: .bool false :: (eW A16.zero))] (.inl rfl) rfl (.cons (.agg tyAgg25 rfl rfl rfl rfl) .nil) ⟨rfl, rfl⟩)
def q_one_S (F : Nat) : Option Big :=
 (w_Of_S F 1).bind fun x_1 => some x_1
theorem q_one_spec {F : Nat} {r : Big} (h : q_one_S F = some r) : Meets Tryz.prog (tabs mx) 90 [] [] (Is [] (.b (.agg (eBig r)))) := by
 unfold q_one_S at h
 refine Meets.intro 2 Tryz.func90 Tryz.ntmps90 rfl (by simp) fun E => ?_
 show Tri _ E ⟨2, [], []⟩ _ ⟨[], []⟩ _
 refine Tri.seq (Tri.regionL ?_)
 refine Oc (op_alloc (k := 101) tyZero25 rfl) (OpsL.nilS ⟨[(0, Pt 101 0)], [(101, .box 25 zBig)]⟩ rfl (Tri.seq (Tri.regionL ?_)))
 obtain ⟨x_1, e1, h⟩ := bnd h
 refine Oc (op_call0 (w_Of_spec e1) goes91 rfl rfl) (Oc (op_store_p tyAgg25 rfl rfl rfl rfl (Nat.le_of_ble_eq_true rfl) rfl) ?_)
 refine OpsL.nilS ⟨[(0, Pt 101 0)], [(101, .box 25 (eBig x_1))]⟩ rfl (Tri.ret ?_)
 obtain rfl := Option.some.inj h
 refine Fin.keepS ⟨[(0, Pt 101 0)], [(101, .box 25 (eBig x_1))]⟩ rfl (Fin.result' [.agg (eBig x_1)] (.inl rfl) rfl (.cons (.agg tyAgg25 rfl rfl rfl rfl) .nil) ⟨rfl, rfl⟩)
def q_Bad_S (F : Nat) : Option Frc :=
 (w_Bad_S F).bind fun x_1 => (q_one_S F).bind fun x_2 => some (⟨x_1, x_2⟩ : Frc)
theorem q_Bad_spec {F : Nat} {r : Frc} (h : q_Bad_S F = some r) : Meets Tryz.prog (tabs mx) 27 [] [] (Is [] (.b (.agg (eFrc r)))) := by
 unfold q_Bad_S at h
 refine Meets.intro 4 Tryz.func27 Tryz.ntmps27 rfl (by simp) fun E => ?_
 show Tri _ E ⟨4, [], []⟩ _ ⟨[], []⟩ _
 refine Tri.seq (Tri.regionL ?_)
 refine Oc (op_alloc (k := 101) tyZero27 rfl) (OpsL.nilS ⟨[(0, Pt 101 0)], [(101, .box 27 zFrc)]⟩ rfl (Tri.seq (Tri.regionL ?_)))
 obtain ⟨x_1, e1, h⟩ := bnd h
 refine Oc (op_call0 (w_Bad_spec e1) goes92 rfl rfl) ?_
 obtain ⟨x_2, e2, h⟩ := bnd h
 refine Oc (op_call0 (q_one_spec e2) goes90 rfl rfl) (Oc (op_build tyBuild27 rfl rfl) (Oc (op_store_p tyAgg27 rfl rfl rfl rfl (Nat.le_of_ble_eq_true rfl) rfl) ?_))
 refine OpsL.nilS ⟨[(0, Pt 101 0)], [(101, .box 27 (eBig x_1 ++ (eBig x_2)))]⟩ rfl (Tri.ret ?_)
 obtain rfl := Option.some.inj h
 refine Fin.keepS ⟨[(0, Pt 101 0)], [(101, .box 27 (eBig x_1 ++ (eBig x_2)))]⟩ rfl (Fin.result' [.agg (eBig x_1 ++ (eBig x_2))] (.inl rfl) rfl (.cons (.agg tyAgg27 rfl rfl rfl rfl) .nil) ⟨rfl, rfl⟩)
def w_size_S (F : Nat) (w0 : A16) : Option Int :=
 Option.bind (iter F (fun n_2 => (gcall (decide (0 < n_2)) (idx? w0.l (IntKind.i64.wrap (n_2 - 1)))).bind fun x_4 => if ((decide (0 < n_2)) && (decide (x_4 = 0))) = true then (some (.inl (IntKind.i64.wrap (n_2 - 1)))) else (some (.inr n_2))) 16) (fun n_1 => some n_1)
theorem w_size_spec {F : Nat} {w0 : A16} {r : Int} (h : w_size_S F w0 = some r) : Meets Tryz.prog (tabs mx) 114 [] [.agg (eW w0)] (Is [] (.b (.one (.i r)))) := by
 unfold w_size_S at h
 refine Meets.intro 16 Tryz.func114 Tryz.ntmps114 rfl (by simp) fun E => ?_
 show Tri _ E ⟨16, [], []⟩ _ ⟨[(0, .b (.agg (eW w0)))], []⟩ _
 refine Tri.seq (Tri.regionL ?_)
 refine Oc (op_box (k := 101) rfl rfl) (Oc oa ?_)
 refine OpsL.nilS ⟨[(1, Pt 101 0)], [(101, .box 23 (eW w0))]⟩ rfl (Tri.seq (Tri.regionL ?_))
 refine Oc oa (OpsL.nilS ⟨[(1, Pt 101 0), (3, I 16)], [(101, .box 23 (eW w0))]⟩ rfl ?_)
 obtain ⟨v1, h2, h⟩ := bnd h
 refine Tri.seqJ (v := v1) (fun (n_1 : Int) => ⟨[(3, I n_1)], []⟩) (fun z => z) ?_ ?_
 ·refine Tri.block (Tri.loopJ h2 (fun (n_2 : Int) => ⟨[(1, Pt 101 0), (3, I n_2)], [(101, .box 23 (eW w0))]⟩) [1, 3] [101] rfl ?_)
  rintro n_2 o3 h4 hy5
  refine Tri.seq (Tri.seq (Tri.regionL ?_))
  refine Oc om (Oc (op_gtr rfl rfl) (Oc om ?_))
  refine CgT (decide (0 < n_2)) [] (fun g6 => trivial) (fun g6 => om) (CgT (decide (0 < n_2)) [7] (fun g7 => by exact ⟨g7, trivial⟩) (fun g7 => op_sub rfl rfl) ?_)
  obtain ⟨x_4, e9, h4⟩ := bnd h4
  refine CgT (decide (0 < n_2)) [8] (fun g8 => ⟨g8, trivial⟩) (fun g8 => op_index_p tyArr23 (ix_lo (gc e9 g8)) (ix_hi (gc e9 g8)) rfl rfl rfl) (CgT (decide (0 < n_2)) [9] (fun g10 => ⟨g10, trivial⟩) (fun g10 => op_load_p1 tyOne22 rfl rfl (arr_get (post := []) (k := .u32) [] (gc e9 g10) rfl rfl rfl)) (CgT (decide (0 < n_2)) [10] (fun g11 => ⟨g11, trivial⟩) (fun g11 => op_eql rfl rfl) (Oc (op_pick_and (fun e => e) rfl rfl rfl rfl) (OpsL.nilS ⟨[(1, Pt 101 0), (3, I n_2), (12, B ((decide (0 < n_2)) && (decide (x_4 = 0))))], [(101, .box 23 (eW w0))]⟩ rfl (Tri.ite h4 rfl (fun _ h4 => ?_) (fun _ h4 => ?_))))))
  ·refine Tri.skip (Fin.keepS ⟨[(1, Pt 101 0), (3, I n_2)], [(101, .box 23 (eW w0))]⟩ rfl (Fin.then (Tri.block (Tri.regionL ?_))))
   refine Oc om (Oc (op_sub rfl rfl) (Oc oa ?_))
   refine OpsL.nil (Fin.block_normal ?_)
   exact Fin.againJ [1, 3] [101] (IntKind.i64.wrap (n_2 - 1)) (Option.some.inj h4) rfl
  ·refine Tri.exit (Fin.then_exit ?_)
   obtain rfl := hy5 _ (Option.some.inj h4).symm
   refine Fin.then_exit (Fin.block_exit ?_)
   exact Fin.join [3] [] n_2 rfl rfl
 ·rintro n_1 hv
  subst v1
  refine Tri.seq (Tri.regionL ?_)
  refine Oc om (Oc oa ?_)
  refine OpsL.nilS ⟨[(2, I n_1)], []⟩ rfl (Tri.ret ?_)
  obtain rfl := Option.some.inj h
  refine Fin.keepS ⟨[(2, I n_1)], []⟩ rfl (Fin.result' [.one (.i n_1)] (.inl rfl) rfl (.cons (.tmp rfl) .nil) ⟨rfl, rfl⟩)
def cmp_isNaN_S (F : Nat) (x0 : Int) : Option Bool :=
 some (decide (x0 ≠ x0))
theorem cmp_isNaN_spec {F : Nat} {x0 : Int} {r : Bool} (h : cmp_isNaN_S F x0 = some r) : Meets Tryz.prog (tabs mx) 156 [] [.one (.int .u32 x0)] (Is [] (.b (.one (.bool r)))) := by
 unfold cmp_isNaN_S at h
 refine Meets.intro 6 Tryz.func156 Tryz.ntmps156 rfl (by simp) fun E => ?_
 show Tri _ E ⟨6, [], []⟩ _ ⟨[(0, .b (.one (.int .u32 x0)))], []⟩ _
 refine Tri.seq (Tri.regionL ?_)
 refine Oc oa (OpsL.nilS ⟨[(0, .b (.one (.int .u32 x0)))], []⟩ rfl (Tri.seq (Tri.regionL ?_)))
 refine Oc om (Oc om (Oc (op_neq rfl rfl) (Oc oa ?_)))
 refine OpsL.nilS ⟨[(2, B (decide (x0 ≠ x0)))], []⟩ rfl (Tri.ret ?_)
 obtain rfl := Option.some.inj h
 refine Fin.keepS ⟨[(2, B (decide (x0 ≠ x0)))], []⟩ rfl (Fin.result' [.one (.bool (decide (x0 ≠ x0)))] (.inl rfl) rfl (.cons (.tmp rfl) .nil) ⟨rfl, rfl⟩)
def cmp_Compare_S (F : Nat) (x0 : Int) (y0 : Int) : Option Int :=
 (cmp_isNaN_S F x0).bind fun x_1 => (cmp_isNaN_S F y0).bind fun x_2 => if x_1 = true then (if x_2 = true then (some 0) else (some (-1))) else (if x_2 = true then (some 1) else (if (decide (x0 < y0)) = true then (some (-1)) else (if (decide (y0 < x0)) = true then (some 1) else (some 0))))
theorem cmp_Compare_spec {F : Nat} {x0 : Int} {y0 : Int} {r : Int} (h : cmp_Compare_S F x0 y0 = some r) : Meets Tryz.prog (tabs mx) 147 [] [.one (.int .u32 x0), .one (.int .u32 y0)] (Is [] (.b (.one (.i r)))) := by
 unfold cmp_Compare_S at h
 refine Meets.intro 20 Tryz.func147 Tryz.ntmps147 rfl (by simp) fun E => ?_
 show Tri _ E ⟨20, [], []⟩ _ ⟨[(0, .b (.one (.int .u32 x0))), (1, .b (.one (.int .u32 y0)))], []⟩ _
 refine Tri.seq (Tri.regionL ?_)
 refine Oc oa (OpsL.nilS ⟨[(0, .b (.one (.int .u32 x0))), (1, .b (.one (.int .u32 y0)))], []⟩ rfl (Tri.seq (Tri.regionL ?_)))
 refine Oc om ?_
 obtain ⟨x_1, e1, h⟩ := bnd h
 refine Oc (op_call0 (cmp_isNaN_spec e1) goes156 rfl rfl) (Oc oa ?_)
 refine OpsL.nilS ⟨[(0, .b (.one (.int .u32 x0))), (1, .b (.one (.int .u32 y0))), (5, B x_1)], []⟩ rfl (Tri.seq (Tri.regionL ?_))
 refine Oc om ?_
 obtain ⟨x_2, e2, h⟩ := bnd h
 refine Oc (op_call0 (cmp_isNaN_spec e2) goes156 rfl rfl) (Oc oa ?_)
 refine OpsL.nilS ⟨[(0, .b (.one (.int .u32 x0))), (1, .b (.one (.int .u32 y0))), (5, B x_1), (6, B x_2)], []⟩ rfl (Tri.seq (Tri.seq (Tri.regionL ?_)))
 refine Oc om (OpsL.nilS ⟨[(0, .b (.one (.int .u32 x0))), (1, .b (.one (.int .u32 y0))), (6, B x_2), (11, B x_1)], []⟩ rfl (Tri.ite h rfl (fun _ h => ?_) (fun _ h => ?_)))
 ·refine Tri.seq (Tri.seq (Tri.regionL ?_))
  refine Oc om (OpsL.nilS ⟨[(12, B x_2)], []⟩ rfl (Tri.ite h rfl (fun _ h => ?_) (fun _ h => ?_)))
  ·refine Tri.seq (Tri.regionL ?_)
   refine Oc oa (OpsL.nilS ⟨[(4, I 0)], []⟩ rfl (Tri.ret (Fin.then_ret (Fin.then_ret ?_))))
   obtain rfl := Option.some.inj h
   refine Fin.keepS ⟨[(4, I 0)], []⟩ rfl (Fin.result' [.one (.i 0)] (.inl rfl) rfl (.cons (.tmp rfl) .nil) ⟨rfl, rfl⟩)
  ·refine Tri.skip (Fin.keepS ⟨[], []⟩ rfl (Fin.then (Tri.seq (Tri.regionL ?_))))
   refine Oc oa (OpsL.nilS ⟨[(4, I (-1))], []⟩ rfl (Tri.ret (Fin.then_ret ?_)))
   obtain rfl := Option.some.inj h
   refine Fin.keepS ⟨[(4, I (-1))], []⟩ rfl (Fin.result' [.one (.i (-1))] (.inl rfl) rfl (.cons (.tmp rfl) .nil) ⟨rfl, rfl⟩)
 ·refine Tri.skip (Fin.keepS ⟨[(0, .b (.one (.int .u32 x0))), (1, .b (.one (.int .u32 y0))), (6, B x_2)], []⟩ rfl (Fin.then (Tri.seq (Tri.seq (Tri.regionL ?_)))))
  refine Oc om (OpsL.nilS ⟨[(0, .b (.one (.int .u32 x0))), (1, .b (.one (.int .u32 y0))), (13, B x_2)], []⟩ rfl (Tri.ite h rfl (fun _ h => ?_) (fun _ h => ?_)))
  ·refine Tri.seq (Tri.regionL ?_)
   refine Oc oa (OpsL.nilS ⟨[(4, I 1)], []⟩ rfl (Tri.ret (Fin.then_ret ?_)))
   obtain rfl := Option.some.inj h
   refine Fin.keepS ⟨[(4, I 1)], []⟩ rfl (Fin.result' [.one (.i 1)] (.inl rfl) rfl (.cons (.tmp rfl) .nil) ⟨rfl, rfl⟩)
  ·refine Tri.skip (Fin.keepS ⟨[(0, .b (.one (.int .u32 x0))), (1, .b (.one (.int .u32 y0)))], []⟩ rfl (Fin.then (Tri.seq (Tri.seq (Tri.regionL ?_)))))
   refine Oc om (Oc om (Oc (op_lss rfl rfl) ?_))
   refine OpsL.nilS ⟨[(0, .b (.one (.int .u32 x0))), (1, .b (.one (.int .u32 y0))), (16, B (decide (x0 < y0)))], []⟩ rfl (Tri.ite h rfl (fun _ h => ?_) (fun _ h => ?_))
   ·refine Tri.seq (Tri.regionL ?_)
    refine Oc oa (OpsL.nilS ⟨[(4, I (-1))], []⟩ rfl (Tri.ret (Fin.then_ret ?_)))
    obtain rfl := Option.some.inj h
    refine Fin.keepS ⟨[(4, I (-1))], []⟩ rfl (Fin.result' [.one (.i (-1))] (.inl rfl) rfl (.cons (.tmp rfl) .nil) ⟨rfl, rfl⟩)
   ·refine Tri.skip (Fin.keepS ⟨[(0, .b (.one (.int .u32 x0))), (1, .b (.one (.int .u32 y0)))], []⟩ rfl (Fin.then (Tri.seq (Tri.seq (Tri.regionL ?_)))))
    refine Oc om (Oc om (Oc (op_gtr rfl rfl) ?_))
    refine OpsL.nilS ⟨[(19, B (decide (y0 < x0)))], []⟩ rfl (Tri.ite h rfl (fun _ h => ?_) (fun _ h => ?_))
    ·refine Tri.seq (Tri.regionL ?_)
     refine Oc oa (OpsL.nilS ⟨[(4, I 1)], []⟩ rfl (Tri.ret (Fin.then_ret ?_)))
     obtain rfl := Option.some.inj h
     refine Fin.keepS ⟨[(4, I 1)], []⟩ rfl (Fin.result' [.one (.i 1)] (.inl rfl) rfl (.cons (.tmp rfl) .nil) ⟨rfl, rfl⟩)
    ·refine Tri.skip (Fin.keepS ⟨[], []⟩ rfl (Fin.then (Tri.seq (Tri.regionL ?_))))
     refine Oc oa (OpsL.nilS ⟨[(4, I 0)], []⟩ rfl (Tri.ret ?_))
     obtain rfl := Option.some.inj h
     refine Fin.keepS ⟨[(4, I 0)], []⟩ rfl (Fin.result' [.one (.i 0)] (.inl rfl) rfl (.cons (.tmp rfl) .nil) ⟨rfl, rfl⟩)
def w_order_S (F : Nat) (a0 : A16) (b0 : A16) : Option Int :=
 Option.bind (iter F (fun k_1 => if (decide (0 ≤ k_1)) = true then ((idx? a0.l k_1).bind fun x_2 => (idx? b0.l k_1).bind fun x_3 => if (decide (x_2 ≠ x_3)) = true then ((idx? a0.l k_1).bind fun x_4 => (idx? b0.l k_1).bind fun x_5 => (cmp_Compare_S F x_4 x_5).bind fun x_6 => some (.inr (.inr x_6))) else (some (.inl (IntKind.i64.wrap (k_1 - 1))))) else (some (.inr (.inl ())))) 15) (alt2 (fun _ => some 0) (fun y => some y))
theorem w_order_spec {F : Nat} {a0 : A16} {b0 : A16} {r : Int} (h : w_order_S F a0 b0 = some r) : Meets Tryz.prog (tabs mx) 127 [] [.agg (eW a0), .agg (eW b0)] (Is [] (.b (.one (.i r)))) := by
 unfold w_order_S at h
 refine Meets.intro 24 Tryz.func127 Tryz.ntmps127 rfl (by simp) fun E => ?_
 show Tri _ E ⟨24, [], []⟩ _ ⟨[(0, .b (.agg (eW a0))), (1, .b (.agg (eW b0)))], []⟩ _
 refine Tri.seq (Tri.regionL ?_)
 refine Oc (op_box (k := 101) rfl rfl) (Oc (op_box (k := 102) rfl rfl) (Oc oa ?_))
 refine OpsL.nilS ⟨[(2, Pt 101 0), (3, Pt 102 0)], [(101, .box 23 (eW a0)), (102, .box 23 (eW b0))]⟩ rfl ?_
 obtain ⟨v1, h2, h⟩ := bnd h
 refine Tri.seqJ (v := v1) (fun (_ : Unit) => ⟨[], []⟩) (fun z => .inl z) ?_ ?_
 ·refine Tri.seq (Tri.regionL ?_)
  refine Oc oa (OpsL.nilS ⟨[(2, Pt 101 0), (3, Pt 102 0), (5, I 15)], [(101, .box 23 (eW a0)), (102, .box 23 (eW b0))]⟩ rfl (Tri.block (Tri.loopJ h2 (fun (k_1 : Int) => ⟨[(2, Pt 101 0), (3, Pt 102 0), (5, I k_1)], [(101, .box 23 (eW a0)), (102, .box 23 (eW b0))]⟩) [2, 3, 5] [101, 102] rfl ?_)))
  rintro k_1 o3 h4 hy5
  refine Tri.seq (Tri.seq (Tri.regionL ?_))
  refine Oc om (Oc (op_geq rfl rfl) ?_)
  refine OpsL.nilS ⟨[(2, Pt 101 0), (3, Pt 102 0), (5, I k_1), (7, B (decide (0 ≤ k_1)))], [(101, .box 23 (eW a0)), (102, .box 23 (eW b0))]⟩ rfl (Tri.ite h4 rfl (fun _ h4 => ?_) (fun _ h4 => ?_))
  ·refine Tri.skip (Fin.keepS ⟨[(2, Pt 101 0), (3, Pt 102 0), (5, I k_1)], [(101, .box 23 (eW a0)), (102, .box 23 (eW b0))]⟩ rfl (Fin.then (Tri.seq (Tri.block (Tri.seq ?_)))))
   refine Tri.keepS ⟨[(2, Pt 101 0), (3, Pt 102 0), (5, I k_1)], [(101, .box 23 (eW a0)), (102, .box 23 (eW b0))]⟩ rfl ?_
   obtain ⟨x_2, e6, h4⟩ := bnd h4
   obtain ⟨x_3, e7, h4⟩ := bnd h4
   refine Tri.regionY mixed 7 [I k_1, .b (.ptr 101 (0 + (k_1 : Int).toNat * 1)), .b (.one (.int .u32 x_2)), I k_1, .b (.ptr 102 (0 + (k_1 : Int).toNat * 1)), .b (.one (.int .u32 x_3)), B (decide (x_2 ≠ x_3))] [2, 3, 5, 16] [101, 102] (s' := ⟨[(2, Pt 101 0), (3, Pt 102 0), (5, I k_1), (16, B (decide (x_2 ≠ x_3)))], [(101, .box 23 (eW a0)), (102, .box 23 (eW b0))]⟩) rfl ⟨fun _ => .p om, fun _ => .p (op_index_p tyArr23 (ix_lo e6) (ix_hi e6) rfl rfl rfl), fun _ => .p (op_load_p1 tyOne22 rfl rfl (arr_get (post := []) (k := .u32) [] e6 rfl rfl rfl)), fun _ => .p om, fun _ => .p (op_index_p tyArr23 (ix_lo e7) (ix_hi e7) rfl rfl rfl), fun _ => .p (op_load_p1 tyOne22 rfl rfl (arr_get (post := []) (k := .u32) [] e7 rfl rfl rfl)), fun _ => .p (op_neq rfl rfl), trivial⟩ rfl rfl (Tri.ite h4 rfl (fun _ h4 => ?_) (fun _ h4 => ?_))
   ·refine Tri.seq (Tri.keepS ⟨[(2, Pt 101 0), (3, Pt 102 0), (5, I k_1)], [(101, .box 23 (eW a0)), (102, .box 23 (eW b0))]⟩ rfl ?_)
    obtain ⟨x_4, e8, h4⟩ := bnd h4
    obtain ⟨x_5, e9, h4⟩ := bnd h4
    obtain ⟨x_6, e10, h4⟩ := bnd h4
    refine Tri.regionY mixed 8 [I k_1, .b (.ptr 101 (0 + (k_1 : Int).toNat * 1)), .b (.one (.int .u32 x_4)), I k_1, .b (.ptr 102 (0 + (k_1 : Int).toNat * 1)), .b (.one (.int .u32 x_5)), I x_6, I x_6] [4] [] (s' := ⟨[(4, I x_6)], []⟩) rfl ⟨fun _ => .p om, fun _ => .p (op_index_p tyArr23 (ix_lo e8) (ix_hi e8) rfl rfl rfl), fun _ => .p (op_load_p1 tyOne22 rfl rfl (arr_get (post := []) (k := .u32) [] e8 rfl rfl rfl)), fun _ => .p om, fun _ => .p (op_index_p tyArr23 (ix_lo e9) (ix_hi e9) rfl rfl rfl), fun _ => .p (op_load_p1 tyOne22 rfl rfl (arr_get (post := []) (k := .u32) [] e9 rfl rfl rfl)), fun _ => .p (op_call0 (cmp_Compare_spec e10) goes147 rfl rfl), fun _ => .p oa, trivial⟩ rfl rfl (Tri.ret (Fin.block_ret (Fin.then_ret ?_)))
    obtain rfl := hy5 _ (Option.some.inj h4).symm
    refine Fin.then_ret (Fin.block_ret (Fin.then_ret ?_))
    obtain rfl := Option.some.inj h
    refine Fin.keepS ⟨[(4, I x_6)], []⟩ rfl (Fin.result' [.one (.i x_6)] (.inl rfl) rfl (.cons (.tmp rfl) .nil) ⟨rfl, rfl⟩)
   ·refine Tri.skip (Fin.block_normal (Fin.keepS ⟨[(2, Pt 101 0), (3, Pt 102 0), (5, I k_1)], [(101, .box 23 (eW a0)), (102, .box 23 (eW b0))]⟩ rfl (Fin.then (Tri.regionL ?_))))
    refine Oc om (Oc (op_sub rfl rfl) (Oc oa ?_))
    refine OpsL.nil ?_
    exact Fin.againJ [2, 3, 5] [101, 102] (IntKind.i64.wrap (k_1 - 1)) (Option.some.inj h4) rfl
  ·refine Tri.exit (Fin.then_exit ?_)
   obtain rfl := hy5 _ (Option.some.inj h4).symm
   refine Fin.then_exit (Fin.block_exit ?_)
   exact Fin.join [] [] () rfl rfl
 ·rintro _ hv
  subst v1
  refine Tri.seq (Tri.regionL ?_)
  refine Oc oa (OpsL.nilS ⟨[(4, I 0)], []⟩ rfl (Tri.ret ?_))
  obtain rfl := Option.some.inj h
  refine Fin.keepS ⟨[(4, I 0)], []⟩ rfl (Fin.result' [.one (.i 0)] (.inl rfl) rfl (.cons (.tmp rfl) .nil) ⟨rfl, rfl⟩)
def w_short_S (F : Nat) (a0 : A16) (b0 : Int) : Option (A16 × Int) :=
 Option.bind (iter F (un3 fun q_3 r_4 k_5 => if (decide (0 ≤ k_5)) = true then ((idx? a0.l k_5).bind fun x_8 => letN (ior .u64 (IntKind.u64.wrap (r_4 * 4294967296)) (IntKind.u64.wrap x_8)) fun x_9 => (quo? .u64 x_9 (IntKind.u64.wrap b0)).bind fun x_10 => (idx? q_3.l k_5).bind fun x_11 => (rem? x_9 (IntKind.u64.wrap b0)).bind fun x_12 => some (.inl (q_3.set k_5 (IntKind.u32.wrap x_10), x_12, IntKind.i64.wrap (k_5 - 1)))) else (some (.inr (q_3, r_4)))) (A16.zero, 0, 15)) (un2 fun q_1 r_2 => some (q_1, IntKind.u32.wrap r_2))
theorem w_short_spec {F : Nat} {a0 : A16} {b0 : Int} {r : A16 × Int} (h : w_short_S F a0 b0 = some r) : Meets Tryz.prog (tabs mx) 134 [] [.agg (eW a0), .one (.int .u32 b0)] (Is [] (.tup [.agg (eW r.1), .one (.int .u32 r.2)])) := by
 unfold w_short_S at h
 refine Meets.intro 33 Tryz.func134 Tryz.ntmps134 rfl (by simp) fun E => ?_
 show Tri _ E ⟨33, [], []⟩ _ ⟨[(0, .b (.agg (eW a0))), (1, .b (.one (.int .u32 b0)))], []⟩ _
 refine Tri.seq (Tri.regionL ?_)
 refine Oc (op_box (k := 101) rfl rfl) (Oc (op_alloc (k := 102) tyZero23 rfl) (Oc oa ?_))
 refine OpsL.nilS ⟨[(1, .b (.one (.int .u32 b0))), (2, Pt 101 0), (4, Pt 102 0)], [(101, .box 23 (eW a0)), (102, .box 23 (eW A16.zero))]⟩ rfl (Tri.seq (Tri.regionL ?_))
 refine Oc oa (OpsL.nilS ⟨[(1, .b (.one (.int .u32 b0))), (2, Pt 101 0), (4, Pt 102 0), (6, .b (.one (.int .u64 0)))], [(101, .box 23 (eW a0)), (102, .box 23 (eW A16.zero))]⟩ rfl ?_)
 obtain ⟨v1, h2, h⟩ := bnd h
 refine Tri.seqJ (v := v1) (un2 fun (q_1 : A16) (r_2 : Int) => ⟨[(4, Pt 102 0), (6, .b (.one (.int .u64 r_2)))], [(102, .box 23 (eW q_1))]⟩) (fun z => z) ?_ ?_
 ·refine Tri.seq (Tri.regionL ?_)
  refine Oc oa (OpsL.nilS ⟨[(1, .b (.one (.int .u32 b0))), (2, Pt 101 0), (4, Pt 102 0), (6, .b (.one (.int .u64 0))), (7, I 15)], [(101, .box 23 (eW a0)), (102, .box 23 (eW A16.zero))]⟩ rfl (Tri.block (Tri.loopJ h2 (un3 fun (q_3 : A16) (r_4 : Int) (k_5 : Int) => ⟨[(1, .b (.one (.int .u32 b0))), (2, Pt 101 0), (4, Pt 102 0), (6, .b (.one (.int .u64 r_4))), (7, I k_5)], [(101, .box 23 (eW a0)), (102, .box 23 (eW q_3))]⟩) [1, 2, 4, 6, 7] [101, 102] rfl ?_)))
  rintro ⟨q_3, r_4, k_5⟩ o3 h4 hy5
  refine Tri.seq (Tri.seq (Tri.regionL ?_))
  refine Oc om (Oc (op_geq rfl rfl) ?_)
  refine OpsL.nilS ⟨[(1, .b (.one (.int .u32 b0))), (2, Pt 101 0), (4, Pt 102 0), (6, .b (.one (.int .u64 r_4))), (7, I k_5), (9, B (decide (0 ≤ k_5)))], [(101, .box 23 (eW a0)), (102, .box 23 (eW q_3))]⟩ rfl (Tri.ite h4 rfl (fun _ h4 => ?_) (fun _ h4 => ?_))
  ·refine Tri.skip (Fin.keepS ⟨[(1, .b (.one (.int .u32 b0))), (2, Pt 101 0), (4, Pt 102 0), (6, .b (.one (.int .u64 r_4))), (7, I k_5)], [(101, .box 23 (eW a0)), (102, .box 23 (eW q_3))]⟩ rfl (Fin.then (Tri.seq (Tri.block (Tri.seq (Tri.regionL ?_))))))
   refine Oc om (Oc (op_shl0 (m := 32) (q := 4294967296) (by decide) rfl rfl (by decide)) (Oc om ?_))
   obtain ⟨x_8, e6, h4⟩ := bnd h4
   refine Oc (op_index_p tyArr23 (ix_lo e6) (ix_hi e6) rfl rfl rfl) (Oc (op_load_p1 tyOne22 rfl rfl (arr_get (post := []) (k := .u32) [] e6 rfl rfl rfl)) (Oc (op_conv_wrap undi22 undi79 rfl) ?_))
   refine OpsL.consI .u64 h4 rfl (op_or rfl rfl) (fun x_9 h4 => ?_)
   refine Oc oa (OpsL.nilS ⟨[(1, .b (.one (.int .u32 b0))), (2, Pt 101 0), (4, Pt 102 0), (6, .b (.one (.int .u64 x_9))), (7, I k_5)], [(101, .box 23 (eW a0)), (102, .box 23 (eW q_3))]⟩ rfl (Tri.seq (Tri.regionL ?_)))
   refine Oc om (Oc om (Oc om (Oc (op_conv_wrap undi22 undi79 rfl) ?_)))
   obtain ⟨x_10, e7, h4⟩ := bnd h4
   refine Oc (op_quo2 e7 rfl rfl) (Oc (op_conv_wrap undi79 undi22 rfl) ?_)
   obtain ⟨x_11, e8, h4⟩ := bnd h4
   refine Oc (op_index_p tyArr23 (ix_lo e8) (ix_hi e8) rfl rfl rfl) (Oc (op_store_p1 tyOne22 rfl rfl rfl (arr_lt (post := []) (k := .u32) [] e8 rfl rfl rfl) (arr_set (post := []) (k := .u32) [] e8 rfl rfl (A16.set_l q_3 k_5 (IntKind.u32.wrap x_10)) rfl rfl)) ?_)
   refine OpsL.nilS ⟨[(1, .b (.one (.int .u32 b0))), (2, Pt 101 0), (4, Pt 102 0), (6, .b (.one (.int .u64 x_9))), (7, I k_5)], [(101, .box 23 (eW a0)), (102, .box 23 (eW (q_3.set k_5 (IntKind.u32.wrap x_10))))]⟩ rfl (Tri.regionL (Oc om (Oc om (Oc (op_conv_wrap undi22 undi79 rfl) ?_))))
   obtain ⟨x_12, e9, h4⟩ := bnd h4
   refine Oc (op_rem2 e9 rfl rfl) (Oc oa ?_)
   refine OpsL.nil (Fin.block_normal (Fin.keepS ⟨[(1, .b (.one (.int .u32 b0))), (2, Pt 101 0), (4, Pt 102 0), (6, .b (.one (.int .u64 x_12))), (7, I k_5)], [(101, .box 23 (eW a0)), (102, .box 23 (eW (q_3.set k_5 (IntKind.u32.wrap x_10))))]⟩ rfl (Fin.then (Tri.regionL ?_))))
   refine Oc om (Oc (op_sub rfl rfl) (Oc oa ?_))
   refine OpsL.nil ?_
   exact Fin.againJ [1, 2, 4, 6, 7] [101, 102] (q_3.set k_5 (IntKind.u32.wrap x_10), x_12, IntKind.i64.wrap (k_5 - 1)) (Option.some.inj h4) rfl
  ·refine Tri.exit (Fin.then_exit ?_)
   obtain rfl := hy5 _ (Option.some.inj h4).symm
   refine Fin.then_exit (Fin.block_exit ?_)
   exact Fin.join [4, 6] [102] (q_3, r_4) rfl rfl
 ·rintro ⟨q_1, r_2⟩ hv
  subst v1
  refine Tri.seq (Tri.regionL ?_)
  refine Oc (lp tyAgg23) (Oc om (Oc (op_conv_wrap undi79 undi22 rfl) (Oc (op_store_p tyAgg23 rfl rfl rfl rfl (Nat.le_of_ble_eq_true rfl) rfl) (Oc oa ?_))))
  refine OpsL.nilS ⟨[(4, Pt 102 0), (5, .b (.one (.int .u32 (IntKind.u32.wrap r_2))))], [(102, .box 23 (eW q_1))]⟩ rfl (Tri.ret ?_)
  obtain rfl := Option.some.inj h
  refine Fin.keepS ⟨[(4, Pt 102 0), (5, .b (.one (.int .u32 (IntKind.u32.wrap r_2))))], [(102, .box 23 (eW q_1))]⟩ rfl (Fin.result' [.agg (eW q_1), .one (.int .u32 (IntKind.u32.wrap r_2))] (.inl rfl) rfl (.cons (.agg tyAgg23 rfl rfl rfl rfl) (.cons (.tmp rfl) .nil)) ⟨rfl, rfl⟩)
def bits_Len32_S (F : Nat) (x0 : Int) : Option Int :=
 Option.bind (if (decide (65536 ≤ x0)) = true then (some (x0 / 65536, 16)) else (some (x0, 0))) (un2 fun x_1 n_2 => Option.bind (if (decide (256 ≤ x_1)) = true then (some (x_1 / 256, IntKind.i64.wrap (n_2 + 8))) else (some (x_1, n_2))) (un2 fun x_3 n_4 => (idx? ([0, 1, 2, 2, 3, 3, 3, 3, 4, 4, 4, 4, 4, 4, 4, 4, 5, 5, 5, 5, 5, 5, 5, 5, 5, 5, 5, 5, 5, 5, 5, 5, 6, 6, 6, 6, 6, 6, 6, 6, 6, 6, 6, 6, 6, 6, 6, 6, 6, 6, 6, 6, 6, 6, 6, 6, 6, 6, 6, 6, 6, 6, 6, 6, 7, 7, 7, 7, 7, 7, 7, 7, 7, 7, 7, 7, 7, 7, 7, 7, 7, 7, 7, 7, 7, 7, 7, 7, 7, 7, 7, 7, 7, 7, 7, 7, 7, 7, 7, 7, 7, 7, 7, 7, 7, 7, 7, 7, 7, 7, 7, 7, 7, 7, 7, 7, 7, 7, 7, 7, 7, 7, 7, 7, 7, 7, 7, 7, 8, 8, 8, 8, 8, 8, 8, 8, 8, 8, 8, 8, 8, 8, 8, 8, 8, 8, 8, 8, 8, 8, 8, 8, 8, 8, 8, 8, 8, 8, 8, 8, 8, 8, 8, 8, 8, 8, 8, 8, 8, 8, 8, 8, 8, 8, 8, 8, 8, 8, 8, 8, 8, 8, 8, 8, 8, 8, 8, 8, 8, 8, 8, 8, 8, 8, 8, 8, 8, 8, 8, 8, 8, 8, 8, 8, 8, 8, 8, 8, 8, 8, 8, 8, 8, 8, 8, 8, 8, 8, 8, 8, 8, 8, 8, 8, 8, 8, 8, 8, 8, 8, 8, 8, 8, 8, 8, 8, 8, 8, 8, 8, 8, 8, 8, 8, 8, 8, 8, 8, 8, 8, 8, 8, 8, 8, 8, 8] : Str) (IntKind.u8.wrap x_3)).bind fun x_5 => letN (IntKind.i64.wrap (n_4 + (IntKind.i64.wrap (x_5.toNat : Int)))) fun x_6 => some x_6))
theorem bits_Len32_spec {F : Nat} {x0 : Int} {r : Int} (h : bits_Len32_S F x0 = some r) : Meets Tryz.prog (tabs mx) 145 [] [.one (.int .u32 x0)] (Is [] (.b (.one (.i r)))) := by
 unfold bits_Len32_S at h
 refine Meets.intro 19 Tryz.func145 Tryz.ntmps145 rfl (by simp) fun E => ?_
 show Tri _ E ⟨19, [], []⟩ _ ⟨[(0, .b (.one (.int .u32 x0)))], []⟩ _
 refine Tri.seq (Tri.regionL ?_)
 refine Oc oa (OpsL.nilS ⟨[(0, .b (.one (.int .u32 x0))), (2, I 0)], []⟩ rfl ?_)
 obtain ⟨v1, h2, h⟩ := bnd h
 refine Tri.seqJ (v := v1) (un2 fun (x_1 : Int) (n_2 : Int) => ⟨[(0, .b (.one (.int .u32 x_1))), (2, I n_2)], []⟩) (fun z => z) ?_ ?_
 ·refine Tri.seq (Tri.regionL ?_)
  refine Oc om (Oc (op_geq rfl rfl) ?_)
  refine OpsL.nilS ⟨[(0, .b (.one (.int .u32 x0))), (2, I 0), (4, B (decide (65536 ≤ x0)))], []⟩ rfl (Tri.ite h2 rfl (fun _ h2 => ?_) (fun _ h2 => ?_))
  ·refine Tri.seq (Tri.regionL ?_)
   refine Oc om (Oc (op_shr2 (m := 16) (by decide) rfl rfl rfl) (Oc oa ?_))
   refine OpsL.nilS ⟨[(0, .b (.one (.int .u32 (x0 / 65536))))], []⟩ rfl (Tri.regionL (Oc oa (OpsL.nil ?_)))
   exact Fin.join [0, 2] [] (x0 / 65536, 16) (Option.some.inj h2) rfl
  ·refine Tri.skip ?_
   exact Fin.join [0, 2] [] (x0, 0) (Option.some.inj h2) rfl
 ·rintro ⟨x_1, n_2⟩ hv
  subst v1
  obtain ⟨v3, h4, h⟩ := bnd h
  refine Tri.seqJ (v := v3) (un2 fun (x_3 : Int) (n_4 : Int) => ⟨[(0, .b (.one (.int .u32 x_3))), (2, I n_4)], []⟩) (fun z => z) ?_ ?_
  ·refine Tri.seq (Tri.regionL ?_)
   refine Oc om (Oc (op_geq rfl rfl) ?_)
   refine OpsL.nilS ⟨[(0, .b (.one (.int .u32 x_1))), (2, I n_2), (8, B (decide (256 ≤ x_1)))], []⟩ rfl (Tri.ite h4 rfl (fun _ h4 => ?_) (fun _ h4 => ?_))
   ·refine Tri.seq (Tri.regionL ?_)
    refine Oc om (Oc (op_shr2 (m := 8) (by decide) rfl rfl rfl) (Oc oa ?_))
    refine OpsL.nilS ⟨[(0, .b (.one (.int .u32 (x_1 / 256)))), (2, I n_2)], []⟩ rfl (Tri.regionL (Oc om (Oc (op_add rfl rfl) (Oc oa ?_))))
    refine OpsL.nil ?_
    exact Fin.join [0, 2] [] (x_1 / 256, IntKind.i64.wrap (n_2 + 8)) (Option.some.inj h4) rfl
   ·refine Tri.skip ?_
    exact Fin.join [0, 2] [] (x_1, n_2) (Option.some.inj h4) rfl
  ·rintro ⟨x_3, n_4⟩ hv
   subst v3
   refine Tri.seq (Tri.regionL ?_)
   refine Oc om (Oc om (Oc (op_conv_wrap undi22 undi5 rfl) ?_))
   obtain ⟨x_5, e5, h⟩ := bnd h
   refine Oc (op_index_str und9 rfl rfl (ix_lo e5) (ix_get e5)) (Oc (op_conv_wrap undi5 undi3 rfl) ?_)
   refine OpsL.consI .i64 h rfl (op_add rfl rfl) (fun x_6 h => ?_)
   refine Oc oa (OpsL.nilS ⟨[(2, I x_6)], []⟩ rfl (Tri.ret ?_))
   obtain rfl := Option.some.inj h
   refine Fin.keepS ⟨[(2, I x_6)], []⟩ rfl (Fin.result' [.one (.i x_6)] (.inl rfl) rfl (.cons (.tmp rfl) .nil) ⟨rfl, rfl⟩)
def bits_LeadingZeros32_S (F : Nat) (x0 : Int) : Option Int :=
 (bits_Len32_S F x0).bind fun x_1 => some (IntKind.i64.wrap (32 - x_1))
theorem bits_LeadingZeros32_spec {F : Nat} {x0 : Int} {r : Int} (h : bits_LeadingZeros32_S F x0 = some r) : Meets Tryz.prog (tabs mx) 139 [] [.one (.int .u32 x0)] (Is [] (.b (.one (.i r)))) := by
 unfold bits_LeadingZeros32_S at h
 refine Meets.intro 6 Tryz.func139 Tryz.ntmps139 rfl (by simp) fun E => ?_
 show Tri _ E ⟨6, [], []⟩ _ ⟨[(0, .b (.one (.int .u32 x0)))], []⟩ _
 refine Tri.seq (Tri.regionL ?_)
 refine Oc oa (OpsL.nilS ⟨[(0, .b (.one (.int .u32 x0)))], []⟩ rfl (Tri.seq (Tri.regionL ?_)))
 refine Oc om ?_
 obtain ⟨x_1, e1, h⟩ := bnd h
 refine Oc (op_call0 (bits_Len32_spec e1) goes145 rfl rfl) (Oc (op_sub rfl rfl) (Oc oa ?_))
 refine OpsL.nilS ⟨[(2, I (IntKind.i64.wrap (32 - x_1)))], []⟩ rfl (Tri.ret ?_)
 obtain rfl := Option.some.inj h
 refine Fin.keepS ⟨[(2, I (IntKind.i64.wrap (32 - x_1)))], []⟩ rfl (Fin.result' [.one (.i (IntKind.i64.wrap (32 - x_1)))] (.inl rfl) rfl (.cons (.tmp rfl) .nil) ⟨rfl, rfl⟩)
def w_up_S (F : Nat) (w0 : A16) (n0 : Int) : Option (A16 × Int) :=
 Option.bind (iter F (un3 fun out_3 carry_4 x_5 => if (decide (x_5 < 16)) = true then ((idx? w0.l x_5).bind fun x_8 => Option.bind (shl? .u64 (IntKind.u64.wrap x_8) n0) (fun x_9 => letN (IntKind.u32.wrap (ior .u64 carry_4 x_9)) fun x_10 => (idx? out_3.l x_5).bind fun x_11 => some (.inl (out_3.set x_5 x_10, (ior .u64 carry_4 x_9) / 4294967296, IntKind.i64.wrap (x_5 + 1))))) else (some (.inr (out_3, carry_4)))) (A16.zero, 0, 0)) (un2 fun out_1 carry_2 => some (out_1, IntKind.u32.wrap carry_2))
theorem w_up_spec {F : Nat} {w0 : A16} {n0 : Int} {r : A16 × Int} (h : w_up_S F w0 n0 = some r) : Meets Tryz.prog (tabs mx) 125 [] [.agg (eW w0), .one (.i n0)] (Is [] (.tup [.agg (eW r.1), .one (.int .u32 r.2)])) := by
 unfold w_up_S at h
 refine Meets.intro 30 Tryz.func125 Tryz.ntmps125 rfl (by simp) fun E => ?_
 show Tri _ E ⟨30, [], []⟩ _ ⟨[(0, .b (.agg (eW w0))), (1, I n0)], []⟩ _
 refine Tri.seq (Tri.regionL ?_)
 refine Oc (op_box (k := 101) rfl rfl) (Oc (op_alloc (k := 102) tyZero23 rfl) (Oc oa ?_))
 refine OpsL.nilS ⟨[(1, I n0), (2, Pt 101 0), (4, Pt 102 0)], [(101, .box 23 (eW w0)), (102, .box 23 (eW A16.zero))]⟩ rfl (Tri.seq (Tri.regionL ?_))
 refine Oc (op_alloc (k := 103) tyZero23 rfl) (OpsL.nilS ⟨[(1, I n0), (2, Pt 101 0), (4, Pt 102 0), (6, Pt 103 0)], [(101, .box 23 (eW w0)), (102, .box 23 (eW A16.zero)), (103, .box 23 (eW A16.zero))]⟩ rfl (Tri.seq (Tri.regionL ?_)))
 refine Oc oa (OpsL.nilS ⟨[(1, I n0), (2, Pt 101 0), (4, Pt 102 0), (6, Pt 103 0), (7, .b (.one (.int .u64 0)))], [(101, .box 23 (eW w0)), (102, .box 23 (eW A16.zero)), (103, .box 23 (eW A16.zero))]⟩ rfl ?_)
 obtain ⟨v1, h2, h⟩ := bnd h
 refine Tri.seqJ (v := v1) (un2 fun (out_1 : A16) (carry_2 : Int) => ⟨[(4, Pt 102 0), (6, Pt 103 0), (7, .b (.one (.int .u64 carry_2)))], [(102, .box 23 (eW A16.zero)), (103, .box 23 (eW out_1))]⟩) (fun z => z) ?_ ?_
 ·refine Tri.seq (Tri.regionL ?_)
  refine Oc om (OpsL.nilS ⟨[(1, I n0), (2, Pt 101 0), (4, Pt 102 0), (6, Pt 103 0), (7, .b (.one (.int .u64 0))), (9, I 0)], [(101, .box 23 (eW w0)), (102, .box 23 (eW A16.zero)), (103, .box 23 (eW A16.zero))]⟩ rfl (Tri.block (Tri.loopJ h2 (un3 fun (out_3 : A16) (carry_4 : Int) (x_5 : Int) => ⟨[(1, I n0), (2, Pt 101 0), (4, Pt 102 0), (6, Pt 103 0), (7, .b (.one (.int .u64 carry_4))), (9, I x_5)], [(101, .box 23 (eW w0)), (102, .box 23 (eW A16.zero)), (103, .box 23 (eW out_3))]⟩) [1, 2, 4, 6, 7, 9] [101, 102, 103] rfl ?_)))
  rintro ⟨out_3, carry_4, x_5⟩ o3 h4 hy5
  refine Tri.seq (Tri.regionL ?_)
  refine Oc (op_lss rfl rfl) (OpsL.nilS ⟨[(1, I n0), (2, Pt 101 0), (4, Pt 102 0), (6, Pt 103 0), (7, .b (.one (.int .u64 carry_4))), (9, I x_5), (10, B (decide (x_5 < 16)))], [(101, .box 23 (eW w0)), (102, .box 23 (eW A16.zero)), (103, .box 23 (eW out_3))]⟩ rfl (Tri.seq (Tri.ite h4 rfl (fun _ h4 => ?_) (fun _ h4 => ?_))))
  ·refine Tri.skip (Fin.keepS ⟨[(1, I n0), (2, Pt 101 0), (4, Pt 102 0), (6, Pt 103 0), (7, .b (.one (.int .u64 carry_4))), (9, I x_5)], [(101, .box 23 (eW w0)), (102, .box 23 (eW A16.zero)), (103, .box 23 (eW out_3))]⟩ rfl (Fin.then (Tri.seq (Tri.block (Tri.seq (Tri.regionL ?_))))))
   refine Oc om (Oc oa ?_)
   refine OpsL.nilS ⟨[(1, I n0), (2, Pt 101 0), (4, Pt 102 0), (6, Pt 103 0), (7, .b (.one (.int .u64 carry_4))), (8, I x_5), (9, I x_5)], [(101, .box 23 (eW w0)), (102, .box 23 (eW A16.zero)), (103, .box 23 (eW out_3))]⟩ rfl (Tri.seq (Tri.regionL ?_))
   refine Oc om (Oc om ?_)
   obtain ⟨x_8, e6, h4⟩ := bnd h4
   refine Oc (op_index_p tyArr23 (ix_lo e6) (ix_hi e6) rfl rfl rfl) (Oc (op_load_p1 tyOne22 rfl rfl (arr_get (post := []) (k := .u32) [] e6 rfl rfl rfl)) (Oc (op_conv_wrap undi22 undi79 rfl) (Oc om ?_)))
   obtain ⟨x_9, e7, h4⟩ := bnd h4
   refine Oc (op_shl e7 rfl rfl) (Oc (op_or rfl rfl) (Oc oa ?_))
   refine OpsL.nilS ⟨[(1, I n0), (2, Pt 101 0), (4, Pt 102 0), (6, Pt 103 0), (7, .b (.one (.int .u64 (ior .u64 carry_4 x_9)))), (8, I x_5), (9, I x_5)], [(101, .box 23 (eW w0)), (102, .box 23 (eW A16.zero)), (103, .box 23 (eW out_3))]⟩ rfl (Tri.seq (Tri.regionL ?_))
   refine Oc om (Oc om ?_)
   refine OpsL.consI .u32 h4 rfl (op_conv_wrap undi79 undi22 rfl) (fun x_10 h4 => ?_)
   obtain ⟨x_11, e8, h4⟩ := bnd h4
   refine Oc (op_index_p tyArr23 (ix_lo e8) (ix_hi e8) rfl rfl rfl) (Oc (op_store_p1 tyOne22 rfl rfl rfl (arr_lt (post := []) (k := .u32) [] e8 rfl rfl rfl) (arr_set (post := []) (k := .u32) [] e8 rfl rfl (A16.set_l out_3 x_5 x_10) rfl rfl)) ?_)
   refine OpsL.nilS ⟨[(1, I n0), (2, Pt 101 0), (4, Pt 102 0), (6, Pt 103 0), (7, .b (.one (.int .u64 (ior .u64 carry_4 x_9)))), (9, I x_5)], [(101, .box 23 (eW w0)), (102, .box 23 (eW A16.zero)), (103, .box 23 (eW (out_3.set x_5 x_10)))]⟩ rfl (Tri.regionL (Oc om (Oc (op_shr2 (m := 32) (by decide) rfl rfl rfl) (Oc oa ?_))))
   refine OpsL.nil (Fin.block_normal (Fin.keepS ⟨[(1, I n0), (2, Pt 101 0), (4, Pt 102 0), (6, Pt 103 0), (7, .b (.one (.int .u64 ((ior .u64 carry_4 x_9) / 4294967296)))), (9, I x_5)], [(101, .box 23 (eW w0)), (102, .box 23 (eW A16.zero)), (103, .box 23 (eW (out_3.set x_5 x_10)))]⟩ rfl (Fin.then (Tri.regionL ?_))))
   refine Oc (op_add rfl rfl) (Oc om ?_)
   refine OpsL.nil ?_
   exact Fin.againJ [1, 2, 4, 6, 7, 9] [101, 102, 103] (out_3.set x_5 x_10, (ior .u64 carry_4 x_9) / 4294967296, IntKind.i64.wrap (x_5 + 1)) (Option.some.inj h4) rfl
  ·refine Tri.exit (Fin.then_exit ?_)
   obtain rfl := hy5 _ (Option.some.inj h4).symm
   refine Fin.then_exit (Fin.block_exit ?_)
   exact Fin.join [4, 6, 7] [102, 103] (out_3, carry_4) rfl rfl
 ·rintro ⟨out_1, carry_2⟩ hv
  subst v1
  refine Tri.seq (Tri.regionL ?_)
  refine Oc (lp tyAgg23) (Oc om (Oc (op_conv_wrap undi79 undi22 rfl) (Oc (op_store_p tyAgg23 rfl rfl rfl rfl (Nat.le_of_ble_eq_true rfl) rfl) (Oc oa ?_))))
  refine OpsL.nilS ⟨[(4, Pt 102 0), (5, .b (.one (.int .u32 (IntKind.u32.wrap carry_2))))], [(102, .box 23 (eW out_1))]⟩ rfl (Tri.ret ?_)
  obtain rfl := Option.some.inj h
  refine Fin.keepS ⟨[(4, Pt 102 0), (5, .b (.one (.int .u32 (IntKind.u32.wrap carry_2))))], [(102, .box 23 (eW out_1))]⟩ rfl (Fin.result' [.agg (eW out_1), .one (.int .u32 (IntKind.u32.wrap carry_2))] (.inl rfl) rfl (.cons (.agg tyAgg23 rfl rfl rfl rfl) (.cons (.tmp rfl) .nil)) ⟨rfl, rfl⟩)
def w_guess_S (F : Nat) (v0 : A16) (n0 : Int) (j0 : Int) (u0v : A17) : Option Int :=
 (idx? u0v.l (IntKind.i64.wrap (j0 + n0))).bind fun x_1 => (idx? u0v.l (IntKind.i64.wrap ((IntKind.i64.wrap (j0 + n0)) - 1))).bind fun x_2 => (idx? v0.l (IntKind.i64.wrap (n0 - 1))).bind fun x_3 => (quo? .u64 (ior .u64 (IntKind.u64.wrap ((IntKind.u64.wrap x_1) * 4294967296)) (IntKind.u64.wrap x_2)) (IntKind.u64.wrap x_3)).bind fun x_4 => (rem? (ior .u64 (IntKind.u64.wrap ((IntKind.u64.wrap x_1) * 4294967296)) (IntKind.u64.wrap x_2)) (IntKind.u64.wrap x_3)).bind fun x_5 => Option.bind (iter F (un2 fun d_7 rest_8 => (gcall ((decide (rest_8 < 4294967296)) && !(decide (4294967296 ≤ d_7))) (idx? v0.l (IntKind.i64.wrap (n0 - 2)))).bind fun x_10 => (gcall ((decide (rest_8 < 4294967296)) && !(decide (4294967296 ≤ d_7))) (idx? u0v.l (IntKind.i64.wrap ((IntKind.i64.wrap (j0 + n0)) - 2)))).bind fun x_11 => if ((decide (rest_8 < 4294967296)) && ((decide (4294967296 ≤ d_7)) || (decide ((ior .u64 (IntKind.u64.wrap (rest_8 * 4294967296)) (IntKind.u64.wrap x_11)) < (IntKind.u64.wrap (d_7 * (IntKind.u64.wrap x_10))))))) = true then (letN (IntKind.u64.wrap (rest_8 + (IntKind.u64.wrap x_3))) fun x_12 => some (.inl (IntKind.u64.wrap (d_7 - 1), x_12))) else (some (.inr d_7))) (x_4, x_5)) (fun d_6 => some d_6)
theorem w_guess_spec {F : Nat} {v0 : A16} {n0 : Int} {j0 : Int} {u0v : A17} {r : Int} (h : w_guess_S F v0 n0 j0 u0v = some r) : Meets Tryz.prog (tabs mx) 140 [(1, .box 119 ((eA17 .u32) u0v))] [.ptr 1 0, .agg (eW v0), .one (.i n0), .one (.i j0)] (Is [(1, .box 119 ((eA17 .u32) u0v))] (.b (.one (.int .u64 r)))) := by
 unfold w_guess_S at h
 refine Meets.intro 77 Tryz.func140 Tryz.ntmps140 rfl (by simp) fun E => ?_
 show Tri _ E ⟨77, [1], [1]⟩ _ ⟨[(0, Pt 1 0), (1, .b (.agg (eW v0))), (2, I n0), (3, I j0)], [(1, .box 119 ((eA17 .u32) u0v))]⟩ _
 refine Tri.seq (Tri.regionL ?_)
 refine Oc (op_box (k := 101) rfl rfl) (Oc oa ?_)
 refine OpsL.nilS ⟨[(0, Pt 1 0), (2, I n0), (3, I j0), (5, Pt 101 0)], [(1, .box 119 ((eA17 .u32) u0v)), (101, .box 23 (eW v0))]⟩ rfl (Tri.seq ?_)
 obtain ⟨x_1, e1, h⟩ := bnd h
 obtain ⟨x_2, e2, h⟩ := bnd h
 refine Tri.regionY mixed 20 [Pt 1 0, I j0, I n0, I (IntKind.i64.wrap (j0 + n0)), Pt 1 0, .b (.ptr 1 (0 + (IntKind.i64.wrap (j0 + n0) : Int).toNat * 1)), .b (.one (.int .u32 x_1)), .b (.one (.int .u64 (IntKind.u64.wrap x_1))), .b (.one (.int .u64 (IntKind.u64.wrap ((IntKind.u64.wrap x_1) * 4294967296)))), Pt 1 0, I j0, I n0, I (IntKind.i64.wrap (j0 + n0)), I (IntKind.i64.wrap ((IntKind.i64.wrap (j0 + n0)) - 1)), Pt 1 0, .b (.ptr 1 (0 + (IntKind.i64.wrap ((IntKind.i64.wrap (j0 + n0)) - 1) : Int).toNat * 1)), .b (.one (.int .u32 x_2)), .b (.one (.int .u64 (IntKind.u64.wrap x_2))), .b (.one (.int .u64 (ior .u64 (IntKind.u64.wrap ((IntKind.u64.wrap x_1) * 4294967296)) (IntKind.u64.wrap x_2)))), .b (.one (.int .u64 (ior .u64 (IntKind.u64.wrap ((IntKind.u64.wrap x_1) * 4294967296)) (IntKind.u64.wrap x_2))))] [0, 2, 3, 5, 9] [1, 101] (s' := ⟨[(0, Pt 1 0), (2, I n0), (3, I j0), (5, Pt 101 0), (9, .b (.one (.int .u64 (ior .u64 (IntKind.u64.wrap ((IntKind.u64.wrap x_1) * 4294967296)) (IntKind.u64.wrap x_2)))))], [(1, .box 119 ((eA17 .u32) u0v)), (101, .box 23 (eW v0))]⟩) rfl ⟨fun _ => .p om, fun _ => .p om, fun _ => .p om, fun _ => .p (op_add rfl rfl), fun _ => .p (op_nilCheck_p rfl), fun _ => .p (op_index_p tyArr119 (ix_lo e1) (ix_hi e1) rfl rfl rfl), fun _ => .p (op_load_p1 tyOne22 rfl rfl (arr_get (post := []) (k := .u32) [] e1 rfl rfl rfl)), fun _ => .p (op_conv_wrap undi22 undi79 rfl), fun _ => .p (op_shl0 (m := 32) (q := 4294967296) (by decide) rfl rfl (by decide)), fun _ => .p om, fun _ => .p om, fun _ => .p om, fun _ => .p (op_add rfl rfl), fun _ => .p (op_sub rfl rfl), fun _ => .p (op_nilCheck_p rfl), fun _ => .p (op_index_p tyArr119 (ix_lo e2) (ix_hi e2) rfl rfl rfl), fun _ => .p (op_load_p1 tyOne22 rfl rfl (arr_get (post := []) (k := .u32) [] e2 rfl rfl rfl)), fun _ => .p (op_conv_wrap undi22 undi79 rfl), fun _ => .p (op_or rfl rfl), fun _ => .p oa, trivial⟩ rfl rfl (Tri.seq (Tri.regionL ?_))
 refine Oc om (Oc (op_sub rfl rfl) ?_)
 obtain ⟨x_3, e3, h⟩ := bnd h
 refine Oc (op_index_p tyArr23 (ix_lo e3) (ix_hi e3) rfl rfl rfl) (Oc (op_load_p1 tyOne22 rfl rfl (arr_get (post := []) (k := .u32) [] e3 rfl rfl rfl)) (Oc (op_conv_wrap undi22 undi79 rfl) (Oc oa ?_)))
 refine OpsL.nilS ⟨[(0, Pt 1 0), (2, I n0), (3, I j0), (5, Pt 101 0), (9, .b (.one (.int .u64 (ior .u64 (IntKind.u64.wrap ((IntKind.u64.wrap x_1) * 4294967296)) (IntKind.u64.wrap x_2))))), (10, .b (.one (.int .u64 (IntKind.u64.wrap x_3))))], [(1, .box 119 ((eA17 .u32) u0v)), (101, .box 23 (eW v0))]⟩ rfl (Tri.seq ?_)
 obtain ⟨x_4, e4, h⟩ := bnd h
 obtain ⟨x_5, e5, h⟩ := bnd h
 refine Tri.regionY mixed 8 [.b (.one (.int .u64 (ior .u64 (IntKind.u64.wrap ((IntKind.u64.wrap x_1) * 4294967296)) (IntKind.u64.wrap x_2)))), .b (.one (.int .u64 (IntKind.u64.wrap x_3))), .b (.one (.int .u64 x_4)), .b (.one (.int .u64 (ior .u64 (IntKind.u64.wrap ((IntKind.u64.wrap x_1) * 4294967296)) (IntKind.u64.wrap x_2)))), .b (.one (.int .u64 (IntKind.u64.wrap x_3))), .b (.one (.int .u64 x_5)), .b (.one (.int .u64 x_4)), .b (.one (.int .u64 x_5))] [0, 2, 3, 5, 10, 11, 12] [1, 101] (s' := ⟨[(0, Pt 1 0), (2, I n0), (3, I j0), (5, Pt 101 0), (10, .b (.one (.int .u64 (IntKind.u64.wrap x_3)))), (11, .b (.one (.int .u64 x_4))), (12, .b (.one (.int .u64 x_5)))], [(1, .box 119 ((eA17 .u32) u0v)), (101, .box 23 (eW v0))]⟩) rfl ⟨fun _ => .p om, fun _ => .p om, fun _ => .p (op_quo2 e4 rfl rfl), fun _ => .p om, fun _ => .p om, fun _ => .p (op_rem2 e5 rfl rfl), fun _ => .p oa, fun _ => .p oa, trivial⟩ rfl rfl ?_
 obtain ⟨v6, h7, h⟩ := bnd h
 refine Tri.seqJ (v := v6) (fun (d_6 : Int) => ⟨[(11, .b (.one (.int .u64 d_6)))], [(1, .box 119 ((eA17 .u32) u0v))]⟩) (fun z => z) ?_ ?_
 ·refine Tri.block (Tri.loopJ h7 (un2 fun (d_7 : Int) (rest_8 : Int) => ⟨[(0, Pt 1 0), (2, I n0), (3, I j0), (5, Pt 101 0), (10, .b (.one (.int .u64 (IntKind.u64.wrap x_3)))), (11, .b (.one (.int .u64 d_7))), (12, .b (.one (.int .u64 rest_8)))], [(1, .box 119 ((eA17 .u32) u0v)), (101, .box 23 (eW v0))]⟩) [0, 2, 3, 5, 10, 11, 12] [1, 101] rfl ?_)
  rintro ⟨d_7, rest_8⟩ o8 h9 hy10
  refine Tri.seq (Tri.seq ?_)
  refine Tri.keepS ⟨[(0, Pt 1 0), (2, I n0), (3, I j0), (5, Pt 101 0), (10, .b (.one (.int .u64 (IntKind.u64.wrap x_3)))), (11, .b (.one (.int .u64 d_7))), (12, .b (.one (.int .u64 rest_8)))], [(1, .box 119 ((eA17 .u32) u0v)), (101, .box 23 (eW v0))]⟩ rfl ?_
  obtain ⟨x_10, e18, h9⟩ := bnd h9
  obtain ⟨x_11, e31, h9⟩ := bnd h9
  refine Tri.regionY mixed 28 [.b (.one (.int .u64 rest_8)), B (decide (rest_8 < 4294967296)), B (decide (rest_8 < 4294967296)), .opt (decide (rest_8 < 4294967296)) (.one (.int .u64 d_7)), .opt (decide (rest_8 < 4294967296)) (.one (.bool (decide (4294967296 ≤ d_7)))), .opt (decide (rest_8 < 4294967296)) (.one (.bool (decide (4294967296 ≤ d_7)))), .opt ((decide (rest_8 < 4294967296)) && !(decide (4294967296 ≤ d_7))) (.one (.int .u64 d_7)), .opt ((decide (rest_8 < 4294967296)) && !(decide (4294967296 ≤ d_7))) (.one (.i n0)), .opt ((decide (rest_8 < 4294967296)) && !(decide (4294967296 ≤ d_7))) (.one (.i (IntKind.i64.wrap (n0 - 2)))), .opt ((decide (rest_8 < 4294967296)) && !(decide (4294967296 ≤ d_7))) (.ptr 101 (0 + (IntKind.i64.wrap (n0 - 2) : Int).toNat * 1)), .opt ((decide (rest_8 < 4294967296)) && !(decide (4294967296 ≤ d_7))) (.one (.int .u32 x_10)), .opt ((decide (rest_8 < 4294967296)) && !(decide (4294967296 ≤ d_7))) (.one (.int .u64 (IntKind.u64.wrap x_10))), .opt ((decide (rest_8 < 4294967296)) && !(decide (4294967296 ≤ d_7))) (.one (.int .u64 (IntKind.u64.wrap (d_7 * (IntKind.u64.wrap x_10))))), .opt ((decide (rest_8 < 4294967296)) && !(decide (4294967296 ≤ d_7))) (.one (.int .u64 rest_8)), .opt ((decide (rest_8 < 4294967296)) && !(decide (4294967296 ≤ d_7))) (.one (.int .u64 (IntKind.u64.wrap (rest_8 * 4294967296)))), .opt ((decide (rest_8 < 4294967296)) && !(decide (4294967296 ≤ d_7))) (.ptr 1 0), .opt ((decide (rest_8 < 4294967296)) && !(decide (4294967296 ≤ d_7))) (.one (.i j0)), .opt ((decide (rest_8 < 4294967296)) && !(decide (4294967296 ≤ d_7))) (.one (.i n0)), .opt ((decide (rest_8 < 4294967296)) && !(decide (4294967296 ≤ d_7))) (.one (.i (IntKind.i64.wrap (j0 + n0)))), .opt ((decide (rest_8 < 4294967296)) && !(decide (4294967296 ≤ d_7))) (.one (.i (IntKind.i64.wrap ((IntKind.i64.wrap (j0 + n0)) - 2)))), .opt ((decide (rest_8 < 4294967296)) && !(decide (4294967296 ≤ d_7))) (.ptr 1 0), .opt ((decide (rest_8 < 4294967296)) && !(decide (4294967296 ≤ d_7))) (.ptr 1 (0 + (IntKind.i64.wrap ((IntKind.i64.wrap (j0 + n0)) - 2) : Int).toNat * 1)), .opt ((decide (rest_8 < 4294967296)) && !(decide (4294967296 ≤ d_7))) (.one (.int .u32 x_11)), .opt ((decide (rest_8 < 4294967296)) && !(decide (4294967296 ≤ d_7))) (.one (.int .u64 (IntKind.u64.wrap x_11))), .opt ((decide (rest_8 < 4294967296)) && !(decide (4294967296 ≤ d_7))) (.one (.int .u64 (ior .u64 (IntKind.u64.wrap (rest_8 * 4294967296)) (IntKind.u64.wrap x_11)))), .opt ((decide (rest_8 < 4294967296)) && !(decide (4294967296 ≤ d_7))) (.one (.bool (decide ((ior .u64 (IntKind.u64.wrap (rest_8 * 4294967296)) (IntKind.u64.wrap x_11)) < (IntKind.u64.wrap (d_7 * (IntKind.u64.wrap x_10))))))), .opt (decide (rest_8 < 4294967296)) (.one (.bool ((decide (4294967296 ≤ d_7)) || (decide ((ior .u64 (IntKind.u64.wrap (rest_8 * 4294967296)) (IntKind.u64.wrap x_11)) < (IntKind.u64.wrap (d_7 * (IntKind.u64.wrap x_10)))))))), B ((decide (rest_8 < 4294967296)) && ((decide (4294967296 ≤ d_7)) || (decide ((ior .u64 (IntKind.u64.wrap (rest_8 * 4294967296)) (IntKind.u64.wrap x_11)) < (IntKind.u64.wrap (d_7 * (IntKind.u64.wrap x_10)))))))] [0, 2, 3, 5, 10, 11, 12, 70] [1, 101] (s' := ⟨[(0, Pt 1 0), (2, I n0), (3, I j0), (5, Pt 101 0), (10, .b (.one (.int .u64 (IntKind.u64.wrap x_3)))), (11, .b (.one (.int .u64 d_7))), (12, .b (.one (.int .u64 rest_8))), (70, B ((decide (rest_8 < 4294967296)) && ((decide (4294967296 ≤ d_7)) || (decide ((ior .u64 (IntKind.u64.wrap (rest_8 * 4294967296)) (IntKind.u64.wrap x_11)) < (IntKind.u64.wrap (d_7 * (IntKind.u64.wrap x_10))))))))], [(1, .box 119 ((eA17 .u32) u0v)), (101, .box 23 (eW v0))]⟩) rfl ⟨fun _ => .p om, fun _ => .p (op_lss rfl rfl), fun _ => .p om, fun _ => by exact .guard (decide (rest_8 < 4294967296)) 1 [] (.plain rfl) (eq_t _) rfl rfl (fun g11 => trivial) (fun g11 => om), fun _ => by exact .guard (decide (rest_8 < 4294967296)) 2 [46] (.plain rfl) (eq_t _) rfl rfl (fun g12 => ⟨g12, trivial⟩) (fun g12 => op_geq rfl rfl), fun _ => by exact .guard (decide (rest_8 < 4294967296)) 3 [47] (.plain rfl) (eq_t _) rfl rfl (fun g13 => ⟨g13, trivial⟩) (fun g13 => om), fun _ => by exact .guard ((decide (rest_8 < 4294967296)) && !(decide (4294967296 ≤ d_7))) 1 [] (.under rfl) (and_f _ _) rfl rfl (fun g14 => trivial) (fun g14 => om), fun _ => by exact .guard ((decide (rest_8 < 4294967296)) && !(decide (4294967296 ≤ d_7))) 1 [] (.under rfl) (and_f _ _) rfl rfl (fun g15 => trivial) (fun g15 => om), fun _ => by exact .guard ((decide (rest_8 < 4294967296)) && !(decide (4294967296 ≤ d_7))) 2 [50] (.under rfl) (and_f _ _) rfl rfl (fun g16 => ⟨g16, trivial⟩) (fun g16 => op_sub rfl rfl), fun _ => by exact .guard ((decide (rest_8 < 4294967296)) && !(decide (4294967296 ≤ d_7))) 2 [51] (.under rfl) (and_f _ _) rfl rfl (fun g17 => ⟨g17, trivial⟩) (fun g17 => op_index_p tyArr23 (ix_lo (gc e18 g17)) (ix_hi (gc e18 g17)) rfl rfl rfl), fun _ => by exact .guard ((decide (rest_8 < 4294967296)) && !(decide (4294967296 ≤ d_7))) 2 [52] (.under rfl) (and_f _ _) rfl rfl (fun g19 => ⟨g19, trivial⟩) (fun g19 => op_load_p1 tyOne22 rfl rfl (arr_get (post := []) (k := .u32) [] (gc e18 g19) rfl rfl rfl)), fun _ => by exact .guard ((decide (rest_8 < 4294967296)) && !(decide (4294967296 ≤ d_7))) 2 [53] (.under rfl) (and_f _ _) rfl rfl (fun g20 => ⟨g20, trivial⟩) (fun g20 => op_conv_wrap undi22 undi79 rfl), fun _ => by exact .guard ((decide (rest_8 < 4294967296)) && !(decide (4294967296 ≤ d_7))) 3 [49, 54] (.under rfl) (and_f _ _) rfl rfl (fun g21 => ⟨g21, g21, trivial⟩) (fun g21 => op_mul rfl rfl), fun _ => by exact .guard ((decide (rest_8 < 4294967296)) && !(decide (4294967296 ≤ d_7))) 1 [] (.under rfl) (and_f _ _) rfl rfl (fun g22 => trivial) (fun g22 => om), fun _ => by exact .guard ((decide (rest_8 < 4294967296)) && !(decide (4294967296 ≤ d_7))) 2 [56] (.under rfl) (and_f _ _) rfl rfl (fun g23 => ⟨g23, trivial⟩) (fun g23 => op_shl0 (m := 32) (q := 4294967296) (by decide) rfl rfl (by decide)), fun _ => by exact .guard ((decide (rest_8 < 4294967296)) && !(decide (4294967296 ≤ d_7))) 1 [] (.under rfl) (and_f _ _) rfl rfl (fun g24 => trivial) (fun g24 => om), fun _ => by exact .guard ((decide (rest_8 < 4294967296)) && !(decide (4294967296 ≤ d_7))) 1 [] (.under rfl) (and_f _ _) rfl rfl (fun g25 => trivial) (fun g25 => om), fun _ => by exact .guard ((decide (rest_8 < 4294967296)) && !(decide (4294967296 ≤ d_7))) 1 [] (.under rfl) (and_f _ _) rfl rfl (fun g26 => trivial) (fun g26 => om), fun _ => by exact .guard ((decide (rest_8 < 4294967296)) && !(decide (4294967296 ≤ d_7))) 3 [59, 60] (.under rfl) (and_f _ _) rfl rfl (fun g27 => ⟨g27, g27, trivial⟩) (fun g27 => op_add rfl rfl), fun _ => by exact .guard ((decide (rest_8 < 4294967296)) && !(decide (4294967296 ≤ d_7))) 2 [61] (.under rfl) (and_f _ _) rfl rfl (fun g28 => ⟨g28, trivial⟩) (fun g28 => op_sub rfl rfl), fun _ => by exact .guard ((decide (rest_8 < 4294967296)) && !(decide (4294967296 ≤ d_7))) 2 [58] (.under rfl) (and_f _ _) rfl rfl (fun g29 => ⟨g29, trivial⟩) (fun g29 => op_nilCheck_p rfl), fun _ => by exact .guard ((decide (rest_8 < 4294967296)) && !(decide (4294967296 ≤ d_7))) 3 [62, 63] (.under rfl) (and_f _ _) rfl rfl (fun g30 => ⟨g30, g30, trivial⟩) (fun g30 => op_index_p tyArr119 (ix_lo (gc e31 g30)) (ix_hi (gc e31 g30)) rfl rfl rfl), fun _ => by exact .guard ((decide (rest_8 < 4294967296)) && !(decide (4294967296 ≤ d_7))) 2 [64] (.under rfl) (and_f _ _) rfl rfl (fun g32 => ⟨g32, trivial⟩) (fun g32 => op_load_p1 tyOne22 rfl rfl (arr_get (post := []) (k := .u32) [] (gc e31 g32) rfl rfl rfl)), fun _ => by exact .guard ((decide (rest_8 < 4294967296)) && !(decide (4294967296 ≤ d_7))) 2 [65] (.under rfl) (and_f _ _) rfl rfl (fun g33 => ⟨g33, trivial⟩) (fun g33 => op_conv_wrap undi22 undi79 rfl), fun _ => by exact .guard ((decide (rest_8 < 4294967296)) && !(decide (4294967296 ≤ d_7))) 3 [57, 66] (.under rfl) (and_f _ _) rfl rfl (fun g34 => ⟨g34, g34, trivial⟩) (fun g34 => op_or rfl rfl), fun _ => by exact .guard ((decide (rest_8 < 4294967296)) && !(decide (4294967296 ≤ d_7))) 3 [55, 67] (.under rfl) (and_f _ _) rfl rfl (fun g35 => ⟨g35, g35, trivial⟩) (fun g35 => op_gtr rfl rfl), fun _ => by exact .guard (decide (rest_8 < 4294967296)) 3 [48] (.plain rfl) (eq_t _) rfl rfl (fun g36 => ⟨g36, trivial⟩) (fun g36 => op_pick_or (fun e => by rw [g36, e]; rfl) rfl rfl rfl rfl), fun _ => .p (op_pick_and (fun e => e) rfl rfl rfl rfl), trivial⟩ rfl rfl ?_
  refine Tri.ite h9 rfl (fun _ h9 => ?_) (fun _ h9 => ?_)
  ·refine Tri.skip (Fin.keepS ⟨[(0, Pt 1 0), (2, I n0), (3, I j0), (5, Pt 101 0), (10, .b (.one (.int .u64 (IntKind.u64.wrap x_3)))), (11, .b (.one (.int .u64 d_7))), (12, .b (.one (.int .u64 rest_8)))], [(1, .box 119 ((eA17 .u32) u0v)), (101, .box 23 (eW v0))]⟩ rfl (Fin.then (Tri.block (Tri.seq (Tri.regionL ?_)))))
   refine Oc om (Oc (op_sub rfl rfl) (Oc oa ?_))
   refine OpsL.nilS ⟨[(0, Pt 1 0), (2, I n0), (3, I j0), (5, Pt 101 0), (10, .b (.one (.int .u64 (IntKind.u64.wrap x_3)))), (11, .b (.one (.int .u64 (IntKind.u64.wrap (d_7 - 1))))), (12, .b (.one (.int .u64 rest_8)))], [(1, .box 119 ((eA17 .u32) u0v)), (101, .box 23 (eW v0))]⟩ rfl (Tri.regionL (Oc om (Oc om ?_)))
   refine OpsL.consI .u64 h9 rfl (op_add rfl rfl) (fun x_12 h9 => ?_)
   refine Oc oa (OpsL.nil (Fin.block_normal ?_))
   exact Fin.againJ [0, 2, 3, 5, 10, 11, 12] [1, 101] (IntKind.u64.wrap (d_7 - 1), x_12) (Option.some.inj h9) rfl
  ·refine Tri.exit (Fin.then_exit ?_)
   obtain rfl := hy10 _ (Option.some.inj h9).symm
   refine Fin.then_exit (Fin.block_exit ?_)
   exact Fin.join [11] [1] d_7 rfl rfl
 ·rintro d_6 hv
  subst v6
  refine Tri.seq (Tri.regionL ?_)
  refine Oc om (Oc oa ?_)
  refine OpsL.nilS ⟨[(8, .b (.one (.int .u64 d_6)))], [(1, .box 119 ((eA17 .u32) u0v))]⟩ rfl (Tri.ret ?_)
  obtain rfl := Option.some.inj h
  refine Fin.keepS ⟨[(8, .b (.one (.int .u64 d_6)))], [(1, .box 119 ((eA17 .u32) u0v))]⟩ rfl ?_
  exact Fin.result [.one (.int .u64 d_6)] (.inl rfl) rfl (.cons (.tmp rfl) .nil) ⟨rfl, rfl⟩
def w_take_S (F : Nat) (v0 : A16) (n0 : Int) (j0 : Int) (d0 : Int) (u0v : A17) : Option (Bool × A17) :=
 Option.bind (iter F (un4 fun u_4 carry_5 borrow_6 x_7 => if (decide (x_7 < n0)) = true then ((idx? v0.l x_7).bind fun x_11 => letN (IntKind.u64.wrap (d0 * (IntKind.u64.wrap x_11))) fun x_12 => (idx? u_4.l (IntKind.i64.wrap (j0 + x_7))).bind fun x_13 => letN (IntKind.u32.wrap (IntKind.u64.wrap (carry_5 + x_12))) fun x_14 => letN (IntKind.u64.wrap ((IntKind.u64.wrap x_13) - (IntKind.u64.wrap x_14))) fun x_15 => letN (IntKind.u32.wrap (IntKind.u64.wrap (x_15 - borrow_6))) fun x_16 => (idx? u_4.l (IntKind.i64.wrap (j0 + x_7))).bind fun x_17 => letN ((IntKind.u64.wrap (x_15 - borrow_6)) / 9223372036854775808) fun x_18 => letN ((IntKind.u64.wrap (carry_5 + x_12)) / 4294967296) fun x_19 => some (.inl (u_4.set (IntKind.i64.wrap (j0 + x_7)) x_16, x_19, x_18, IntKind.i64.wrap (x_7 + 1)))) else (some (.inr (u_4, carry_5, borrow_6)))) (u0v, 0, 0, 0)) (un3 fun u_1 carry_2 borrow_3 => (idx? u_1.l (IntKind.i64.wrap (j0 + n0))).bind fun x_20 => letN (IntKind.u64.wrap ((IntKind.u64.wrap x_20) - carry_2)) fun x_21 => letN (IntKind.u32.wrap (IntKind.u64.wrap (x_21 - borrow_3))) fun x_22 => (idx? u_1.l (IntKind.i64.wrap (j0 + n0))).bind fun x_23 => letN ((IntKind.u64.wrap (x_21 - borrow_3)) / 9223372036854775808) fun x_24 => some (decide (x_24 = 1), u_1.set (IntKind.i64.wrap (j0 + n0)) x_22))
theorem w_take_spec {F : Nat} {v0 : A16} {n0 : Int} {j0 : Int} {d0 : Int} {u0v : A17} {r : Bool × A17} (h : w_take_S F v0 n0 j0 d0 u0v = some r) : Meets Tryz.prog (tabs mx) 141 [(1, .box 119 ((eA17 .u32) u0v))] [.ptr 1 0, .agg (eW v0), .one (.i n0), .one (.i j0), .one (.int .u64 d0)] (Is [(1, .box 119 ((eA17 .u32) r.2))] (.b (.one (.bool r.1)))) := by
 unfold w_take_S at h
 refine Meets.intro 78 Tryz.func141 Tryz.ntmps141 rfl (by simp) fun E => ?_
 show Tri _ E ⟨78, [1], [1]⟩ _ ⟨[(0, Pt 1 0), (1, .b (.agg (eW v0))), (2, I n0), (3, I j0), (4, .b (.one (.int .u64 d0)))], [(1, .box 119 ((eA17 .u32) u0v))]⟩ _
 refine Tri.seq (Tri.regionL ?_)
 refine Oc (op_box (k := 101) rfl rfl) (Oc oa ?_)
 refine OpsL.nilS ⟨[(0, Pt 1 0), (2, I n0), (3, I j0), (4, .b (.one (.int .u64 d0))), (6, Pt 101 0)], [(1, .box 119 ((eA17 .u32) u0v)), (101, .box 23 (eW v0))]⟩ rfl (Tri.seq (Tri.regionL ?_))
 refine Oc oa (Oc oa ?_)
 refine OpsL.nilS ⟨[(0, Pt 1 0), (2, I n0), (3, I j0), (4, .b (.one (.int .u64 d0))), (6, Pt 101 0), (11, .b (.one (.int .u64 0))), (12, .b (.one (.int .u64 0)))], [(1, .box 119 ((eA17 .u32) u0v)), (101, .box 23 (eW v0))]⟩ rfl ?_
 obtain ⟨v1, h2, h⟩ := bnd h
 refine Tri.seqJ (v := v1) (un3 fun (u_1 : A17) (carry_2 : Int) (borrow_3 : Int) => ⟨[(0, Pt 1 0), (2, I n0), (3, I j0), (11, .b (.one (.int .u64 carry_2))), (12, .b (.one (.int .u64 borrow_3)))], [(1, .box 119 ((eA17 .u32) u_1))]⟩) (fun z => z) ?_ ?_
 ·refine Tri.seq (Tri.regionL ?_)
  refine Oc om (Oc om ?_)
  refine OpsL.nilS ⟨[(0, Pt 1 0), (2, I n0), (3, I j0), (4, .b (.one (.int .u64 d0))), (6, Pt 101 0), (11, .b (.one (.int .u64 0))), (12, .b (.one (.int .u64 0))), (16, I n0), (17, I 0)], [(1, .box 119 ((eA17 .u32) u0v)), (101, .box 23 (eW v0))]⟩ rfl (Tri.block (Tri.loopJ h2 (un4 fun (u_4 : A17) (carry_5 : Int) (borrow_6 : Int) (x_7 : Int) => ⟨[(0, Pt 1 0), (2, I n0), (3, I j0), (4, .b (.one (.int .u64 d0))), (6, Pt 101 0), (11, .b (.one (.int .u64 carry_5))), (12, .b (.one (.int .u64 borrow_6))), (16, I n0), (17, I x_7)], [(1, .box 119 ((eA17 .u32) u_4)), (101, .box 23 (eW v0))]⟩) [0, 2, 3, 4, 6, 11, 12, 16, 17] [1, 101] rfl ?_))
  rintro ⟨u_4, carry_5, borrow_6, x_7⟩ o3 h4 hy5
  refine Tri.seq (Tri.regionL ?_)
  refine Oc (op_lss rfl rfl) (OpsL.nilS ⟨[(0, Pt 1 0), (2, I n0), (3, I j0), (4, .b (.one (.int .u64 d0))), (6, Pt 101 0), (11, .b (.one (.int .u64 carry_5))), (12, .b (.one (.int .u64 borrow_6))), (16, I n0), (17, I x_7), (18, B (decide (x_7 < n0)))], [(1, .box 119 ((eA17 .u32) u_4)), (101, .box 23 (eW v0))]⟩ rfl (Tri.seq (Tri.ite h4 rfl (fun _ h4 => ?_) (fun _ h4 => ?_))))
  ·refine Tri.skip (Fin.keepS ⟨[(0, Pt 1 0), (2, I n0), (3, I j0), (4, .b (.one (.int .u64 d0))), (6, Pt 101 0), (11, .b (.one (.int .u64 carry_5))), (12, .b (.one (.int .u64 borrow_6))), (16, I n0), (17, I x_7)], [(1, .box 119 ((eA17 .u32) u_4)), (101, .box 23 (eW v0))]⟩ rfl (Fin.then (Tri.seq (Tri.block (Tri.seq (Tri.regionL ?_))))))
   refine Oc om (Oc oa ?_)
   refine OpsL.nilS ⟨[(0, Pt 1 0), (2, I n0), (3, I j0), (4, .b (.one (.int .u64 d0))), (6, Pt 101 0), (11, .b (.one (.int .u64 carry_5))), (12, .b (.one (.int .u64 borrow_6))), (13, I x_7), (16, I n0), (17, I x_7)], [(1, .box 119 ((eA17 .u32) u_4)), (101, .box 23 (eW v0))]⟩ rfl (Tri.seq (Tri.regionL ?_))
   refine Oc om (Oc om (Oc om ?_))
   obtain ⟨x_11, e6, h4⟩ := bnd h4
   refine Oc (op_index_p tyArr23 (ix_lo e6) (ix_hi e6) rfl rfl rfl) (Oc (op_load_p1 tyOne22 rfl rfl (arr_get (post := []) (k := .u32) [] e6 rfl rfl rfl)) (Oc (op_conv_wrap undi22 undi79 rfl) ?_))
   refine OpsL.consI .u64 h4 rfl (op_mul rfl rfl) (fun x_12 h4 => ?_)
   refine Oc (op_add rfl rfl) (Oc oa ?_)
   refine OpsL.nilS ⟨[(0, Pt 1 0), (2, I n0), (3, I j0), (4, .b (.one (.int .u64 d0))), (6, Pt 101 0), (11, .b (.one (.int .u64 (IntKind.u64.wrap (carry_5 + x_12))))), (12, .b (.one (.int .u64 borrow_6))), (13, I x_7), (16, I n0), (17, I x_7)], [(1, .box 119 ((eA17 .u32) u_4)), (101, .box 23 (eW v0))]⟩ rfl (Tri.seq (Tri.regionL ?_))
   refine Oc om (Oc om (Oc om (Oc (op_add rfl rfl) (Oc (op_nilCheck_p rfl) ?_))))
   obtain ⟨x_13, e7, h4⟩ := bnd h4
   refine Oc (op_index_p tyArr119 (ix_lo e7) (ix_hi e7) rfl rfl rfl) (Oc (op_load_p1 tyOne22 rfl rfl (arr_get (post := []) (k := .u32) [] e7 rfl rfl rfl)) ?_)
   refine OpsL.keepS ⟨[(0, Pt 1 0), (2, I n0), (3, I j0), (4, .b (.one (.int .u64 d0))), (6, Pt 101 0), (11, .b (.one (.int .u64 (IntKind.u64.wrap (carry_5 + x_12))))), (12, .b (.one (.int .u64 borrow_6))), (13, I x_7), (16, I n0), (17, I x_7), (34, .b (.one (.int .u32 x_13)))], [(1, .box 119 ((eA17 .u32) u_4)), (101, .box 23 (eW v0))]⟩ rfl (Oc (op_conv_wrap undi22 undi79 rfl) (Oc om ?_))
   refine OpsL.consI .u32 h4 rfl (op_conv_wrap undi79 undi22 rfl) (fun x_14 h4 => ?_)
   refine Oc (op_conv_wrap undi22 undi79 rfl) (OpsL.consI .u64 h4 rfl (op_sub rfl rfl) (fun x_15 h4 => ?_))
   refine Oc om (Oc (op_sub rfl rfl) (Oc oa ?_))
   refine OpsL.nilS ⟨[(0, Pt 1 0), (2, I n0), (3, I j0), (4, .b (.one (.int .u64 d0))), (6, Pt 101 0), (11, .b (.one (.int .u64 (IntKind.u64.wrap (carry_5 + x_12))))), (13, I x_7), (14, .b (.one (.int .u64 (IntKind.u64.wrap (x_15 - borrow_6))))), (16, I n0), (17, I x_7)], [(1, .box 119 ((eA17 .u32) u_4)), (101, .box 23 (eW v0))]⟩ rfl (Tri.seq (Tri.regionL ?_))
   refine Oc om (Oc om (Oc om (Oc (op_add rfl rfl) (Oc om ?_))))
   refine OpsL.consI .u32 h4 rfl (op_conv_wrap undi79 undi22 rfl) (fun x_16 h4 => ?_)
   refine Oc (op_nilCheck_p rfl) ?_
   obtain ⟨x_17, e8, h4⟩ := bnd h4
   refine Oc (op_index_p tyArr119 (ix_lo e8) (ix_hi e8) rfl rfl rfl) (Oc (op_store_p1 tyOne22 rfl rfl rfl (arr_lt (post := []) (k := .u32) [] e8 rfl rfl rfl) (arr_set (post := []) (k := .u32) [] e8 rfl rfl (A17.set_l u_4 (IntKind.i64.wrap (j0 + x_7)) x_16) rfl rfl)) ?_)
   refine OpsL.nilS ⟨[(0, Pt 1 0), (2, I n0), (3, I j0), (4, .b (.one (.int .u64 d0))), (6, Pt 101 0), (11, .b (.one (.int .u64 (IntKind.u64.wrap (carry_5 + x_12))))), (14, .b (.one (.int .u64 (IntKind.u64.wrap (x_15 - borrow_6))))), (16, I n0), (17, I x_7)], [(1, .box 119 ((eA17 .u32) (u_4.set (IntKind.i64.wrap (j0 + x_7)) x_16))), (101, .box 23 (eW v0))]⟩ rfl (Tri.seq (Tri.regionL ?_))
   refine Oc om (OpsL.consI .u64 h4 rfl (op_shr2 (m := 63) (by decide) rfl rfl rfl) (fun x_18 h4 => ?_))
   refine Oc oa (OpsL.nilS ⟨[(0, Pt 1 0), (2, I n0), (3, I j0), (4, .b (.one (.int .u64 d0))), (6, Pt 101 0), (11, .b (.one (.int .u64 (IntKind.u64.wrap (carry_5 + x_12))))), (12, .b (.one (.int .u64 x_18))), (16, I n0), (17, I x_7)], [(1, .box 119 ((eA17 .u32) (u_4.set (IntKind.i64.wrap (j0 + x_7)) x_16))), (101, .box 23 (eW v0))]⟩ rfl (Tri.regionL (Oc om (OpsL.consI .u64 h4 rfl (op_shr2 (m := 32) (by decide) rfl rfl rfl) (fun x_19 h4 => ?_)))))
   refine Oc oa (OpsL.nil (Fin.block_normal (Fin.keepS ⟨[(0, Pt 1 0), (2, I n0), (3, I j0), (4, .b (.one (.int .u64 d0))), (6, Pt 101 0), (11, .b (.one (.int .u64 x_19))), (12, .b (.one (.int .u64 x_18))), (16, I n0), (17, I x_7)], [(1, .box 119 ((eA17 .u32) (u_4.set (IntKind.i64.wrap (j0 + x_7)) x_16))), (101, .box 23 (eW v0))]⟩ rfl (Fin.then (Tri.regionL ?_)))))
   refine Oc (op_add rfl rfl) (Oc om ?_)
   refine OpsL.nil ?_
   exact Fin.againJ [0, 2, 3, 4, 6, 11, 12, 16, 17] [1, 101] (u_4.set (IntKind.i64.wrap (j0 + x_7)) x_16, x_19, x_18, IntKind.i64.wrap (x_7 + 1)) (Option.some.inj h4) rfl
  ·refine Tri.exit (Fin.then_exit ?_)
   obtain rfl := hy5 _ (Option.some.inj h4).symm
   refine Fin.then_exit (Fin.block_exit ?_)
   exact Fin.join [0, 2, 3, 11, 12] [1] (u_4, carry_5, borrow_6) rfl rfl
 ·rintro ⟨u_1, carry_2, borrow_3⟩ hv
  subst v1
  refine Tri.seq (Tri.regionL ?_)
  refine Oc om (Oc om (Oc om (Oc (op_add rfl rfl) (Oc (op_nilCheck_p rfl) ?_))))
  obtain ⟨x_20, e9, h⟩ := bnd h
  refine Oc (op_index_p tyArr119 (ix_lo e9) (ix_hi e9) rfl rfl rfl) (Oc (op_load_p1 tyOne22 rfl rfl (arr_get (post := []) (k := .u32) [] e9 rfl rfl rfl)) ?_)
  refine OpsL.keepS ⟨[(0, Pt 1 0), (2, I n0), (3, I j0), (11, .b (.one (.int .u64 carry_2))), (12, .b (.one (.int .u64 borrow_3))), (61, .b (.one (.int .u32 x_20)))], [(1, .box 119 ((eA17 .u32) u_1))]⟩ rfl (Oc (op_conv_wrap undi22 undi79 rfl) (Oc om ?_))
  refine OpsL.consI .u64 h rfl (op_sub rfl rfl) (fun x_21 h => ?_)
  refine Oc om (Oc (op_sub rfl rfl) (Oc oa ?_))
  refine OpsL.nilS ⟨[(0, Pt 1 0), (2, I n0), (3, I j0), (15, .b (.one (.int .u64 (IntKind.u64.wrap (x_21 - borrow_3)))))], [(1, .box 119 ((eA17 .u32) u_1))]⟩ rfl (Tri.seq (Tri.regionL ?_))
  refine Oc om (Oc om (Oc om (Oc (op_add rfl rfl) (Oc om ?_))))
  refine OpsL.consI .u32 h rfl (op_conv_wrap undi79 undi22 rfl) (fun x_22 h => ?_)
  refine Oc (op_nilCheck_p rfl) ?_
  obtain ⟨x_23, e10, h⟩ := bnd h
  refine Oc (op_index_p tyArr119 (ix_lo e10) (ix_hi e10) rfl rfl rfl) (Oc (op_store_p1 tyOne22 rfl rfl rfl (arr_lt (post := []) (k := .u32) [] e10 rfl rfl rfl) (arr_set (post := []) (k := .u32) [] e10 rfl rfl (A17.set_l u_1 (IntKind.i64.wrap (j0 + n0)) x_22) rfl rfl)) ?_)
  refine OpsL.nilS ⟨[(15, .b (.one (.int .u64 (IntKind.u64.wrap (x_21 - borrow_3)))))], [(1, .box 119 ((eA17 .u32) (u_1.set (IntKind.i64.wrap (j0 + n0)) x_22)))]⟩ rfl (Tri.seq (Tri.regionL ?_))
  refine Oc om (OpsL.consI .u64 h rfl (op_shr2 (m := 63) (by decide) rfl rfl rfl) (fun x_24 h => ?_))
  refine Oc (op_eql rfl rfl) (Oc oa ?_)
  refine OpsL.nilS ⟨[(10, B (decide (x_24 = 1)))], [(1, .box 119 ((eA17 .u32) (u_1.set (IntKind.i64.wrap (j0 + n0)) x_22)))]⟩ rfl (Tri.ret ?_)
  obtain rfl := Option.some.inj h
  refine Fin.keepS ⟨[(10, B (decide (x_24 = 1)))], [(1, .box 119 ((eA17 .u32) (u_1.set (IntKind.i64.wrap (j0 + n0)) x_22)))]⟩ rfl ?_
  exact Fin.result [.one (.bool (decide (x_24 = 1)))] (.inl rfl) rfl (.cons (.tmp rfl) .nil) ⟨rfl, rfl⟩
def w_give_S (F : Nat) (v0 : A16) (n0 : Int) (j0 : Int) (u0v : A17) : Option A17 :=
 Option.bind (iter F (un3 fun u_3 carry_4 x_5 => if (decide (x_5 < n0)) = true then ((idx? u_3.l (IntKind.i64.wrap (j0 + x_5))).bind fun x_8 => (idx? v0.l x_5).bind fun x_9 => letN (IntKind.u64.wrap (carry_4 + (IntKind.u64.wrap ((IntKind.u64.wrap x_8) + (IntKind.u64.wrap x_9))))) fun x_10 => (idx? u_3.l (IntKind.i64.wrap (j0 + x_5))).bind fun x_11 => letN (IntKind.u64.wrap (carry_4 + (IntKind.u64.wrap ((IntKind.u64.wrap x_8) + (IntKind.u64.wrap x_9))))) fun x_12 => some (.inl (u_3.set (IntKind.i64.wrap (j0 + x_5)) (IntKind.u32.wrap x_10), x_12 / 4294967296, IntKind.i64.wrap (x_5 + 1)))) else (some (.inr (u_3, carry_4)))) (u0v, 0, 0)) (un2 fun u_1 carry_2 => (idx? u_1.l (IntKind.i64.wrap (j0 + n0))).bind fun x_13 => (idx? u_1.l (IntKind.i64.wrap (j0 + n0))).bind fun x_14 => some (u_1.set (IntKind.i64.wrap (j0 + n0)) (IntKind.u32.wrap (x_13 + (IntKind.u32.wrap carry_2)))))
theorem w_give_spec {F : Nat} {v0 : A16} {n0 : Int} {j0 : Int} {u0v : A17} {r : A17} (h : w_give_S F v0 n0 j0 u0v = some r) : Meets Tryz.prog (tabs mx) 142 [(1, .box 119 ((eA17 .u32) u0v))] [.ptr 1 0, .agg (eW v0), .one (.i n0), .one (.i j0)] (Is [(1, .box 119 ((eA17 .u32) r))] (.tup [])) := by
 unfold w_give_S at h
 refine Meets.intro 52 Tryz.func142 Tryz.ntmps142 rfl (by simp) fun E => ?_
 show Tri _ E ⟨52, [1], [1]⟩ _ ⟨[(0, Pt 1 0), (1, .b (.agg (eW v0))), (2, I n0), (3, I j0)], [(1, .box 119 ((eA17 .u32) u0v))]⟩ _
 refine Tri.seq (Tri.regionL ?_)
 refine Oc (op_box (k := 101) rfl rfl) (OpsL.nilS ⟨[(0, Pt 1 0), (2, I n0), (3, I j0), (5, Pt 101 0)], [(1, .box 119 ((eA17 .u32) u0v)), (101, .box 23 (eW v0))]⟩ rfl (Tri.seq (Tri.regionL ?_)))
 refine Oc oa (OpsL.nilS ⟨[(0, Pt 1 0), (2, I n0), (3, I j0), (5, Pt 101 0), (8, .b (.one (.int .u64 0)))], [(1, .box 119 ((eA17 .u32) u0v)), (101, .box 23 (eW v0))]⟩ rfl ?_)
 obtain ⟨v1, h2, h⟩ := bnd h
 refine Tri.seqJ (v := v1) (un2 fun (u_1 : A17) (carry_2 : Int) => ⟨[(0, Pt 1 0), (2, I n0), (3, I j0), (8, .b (.one (.int .u64 carry_2)))], [(1, .box 119 ((eA17 .u32) u_1))]⟩) (fun z => z) ?_ ?_
 ·refine Tri.seq (Tri.regionL ?_)
  refine Oc om (Oc om ?_)
  refine OpsL.nilS ⟨[(0, Pt 1 0), (2, I n0), (3, I j0), (5, Pt 101 0), (8, .b (.one (.int .u64 0))), (10, I n0), (11, I 0)], [(1, .box 119 ((eA17 .u32) u0v)), (101, .box 23 (eW v0))]⟩ rfl (Tri.block (Tri.loopJ h2 (un3 fun (u_3 : A17) (carry_4 : Int) (x_5 : Int) => ⟨[(0, Pt 1 0), (2, I n0), (3, I j0), (5, Pt 101 0), (8, .b (.one (.int .u64 carry_4))), (10, I n0), (11, I x_5)], [(1, .box 119 ((eA17 .u32) u_3)), (101, .box 23 (eW v0))]⟩) [0, 2, 3, 5, 8, 10, 11] [1, 101] rfl ?_))
  rintro ⟨u_3, carry_4, x_5⟩ o3 h4 hy5
  refine Tri.seq (Tri.regionL ?_)
  refine Oc (op_lss rfl rfl) (OpsL.nilS ⟨[(0, Pt 1 0), (2, I n0), (3, I j0), (5, Pt 101 0), (8, .b (.one (.int .u64 carry_4))), (10, I n0), (11, I x_5), (12, B (decide (x_5 < n0)))], [(1, .box 119 ((eA17 .u32) u_3)), (101, .box 23 (eW v0))]⟩ rfl (Tri.seq (Tri.ite h4 rfl (fun _ h4 => ?_) (fun _ h4 => ?_))))
  ·refine Tri.skip (Fin.keepS ⟨[(0, Pt 1 0), (2, I n0), (3, I j0), (5, Pt 101 0), (8, .b (.one (.int .u64 carry_4))), (10, I n0), (11, I x_5)], [(1, .box 119 ((eA17 .u32) u_3)), (101, .box 23 (eW v0))]⟩ rfl (Fin.then (Tri.seq (Tri.block (Tri.seq (Tri.regionL ?_))))))
   refine Oc om (Oc oa ?_)
   refine OpsL.nilS ⟨[(0, Pt 1 0), (2, I n0), (3, I j0), (5, Pt 101 0), (8, .b (.one (.int .u64 carry_4))), (9, I x_5), (10, I n0), (11, I x_5)], [(1, .box 119 ((eA17 .u32) u_3)), (101, .box 23 (eW v0))]⟩ rfl (Tri.seq ?_)
   obtain ⟨x_8, e6, h4⟩ := bnd h4
   obtain ⟨x_9, e7, h4⟩ := bnd h4
   refine Tri.regionY mixed 15 [.b (.one (.int .u64 carry_4)), Pt 1 0, I j0, I x_5, I (IntKind.i64.wrap (j0 + x_5)), Pt 1 0, .b (.ptr 1 (0 + (IntKind.i64.wrap (j0 + x_5) : Int).toNat * 1)), .b (.one (.int .u32 x_8)), .b (.one (.int .u64 (IntKind.u64.wrap x_8))), I x_5, .b (.ptr 101 (0 + (x_5 : Int).toNat * 1)), .b (.one (.int .u32 x_9)), .b (.one (.int .u64 (IntKind.u64.wrap x_9))), .b (.one (.int .u64 (IntKind.u64.wrap ((IntKind.u64.wrap x_8) + (IntKind.u64.wrap x_9))))), .b (.one (.int .u64 (IntKind.u64.wrap (carry_4 + (IntKind.u64.wrap ((IntKind.u64.wrap x_8) + (IntKind.u64.wrap x_9)))))))] [0, 2, 3, 5, 8, 9, 10, 11] [1, 101] (s' := ⟨[(0, Pt 1 0), (2, I n0), (3, I j0), (5, Pt 101 0), (8, .b (.one (.int .u64 (IntKind.u64.wrap (carry_4 + (IntKind.u64.wrap ((IntKind.u64.wrap x_8) + (IntKind.u64.wrap x_9)))))))), (9, I x_5), (10, I n0), (11, I x_5)], [(1, .box 119 ((eA17 .u32) u_3)), (101, .box 23 (eW v0))]⟩) rfl ⟨fun _ => .p om, fun _ => .p om, fun _ => .p om, fun _ => .p om, fun _ => .p (op_add rfl rfl), fun _ => .p (op_nilCheck_p rfl), fun _ => .p (op_index_p tyArr119 (ix_lo e6) (ix_hi e6) rfl rfl rfl), fun _ => .p (op_load_p1 tyOne22 rfl rfl (arr_get (post := []) (k := .u32) [] e6 rfl rfl rfl)), fun _ => .p (op_conv_wrap undi22 undi79 rfl), fun _ => .p om, fun _ => .p (op_index_p tyArr23 (ix_lo e7) (ix_hi e7) rfl rfl rfl), fun _ => .p (op_load_p1 tyOne22 rfl rfl (arr_get (post := []) (k := .u32) [] e7 rfl rfl rfl)), fun _ => .p (op_conv_wrap undi22 undi79 rfl), fun _ => .p (op_add rfl rfl), fun _ => .p (op_add rfl rfl), trivial⟩ ⟨_, by exact .p oa, rfl⟩ rfl (Tri.seq (Tri.regionL ?_))
   refine Oc om (Oc om (Oc om (Oc (op_add rfl rfl) ?_)))
   refine OpsL.consI .u64 h4 rfl om (fun x_10 h4 => ?_)
   refine Oc (op_conv_wrap undi79 undi22 rfl) (Oc (op_nilCheck_p rfl) ?_)
   obtain ⟨x_11, e8, h4⟩ := bnd h4
   refine Oc (op_index_p tyArr119 (ix_lo e8) (ix_hi e8) rfl rfl rfl) (Oc (op_store_p1 tyOne22 rfl rfl rfl (arr_lt (post := []) (k := .u32) [] e8 rfl rfl rfl) (arr_set (post := []) (k := .u32) [] e8 rfl rfl (A17.set_l u_3 (IntKind.i64.wrap (j0 + x_5)) (IntKind.u32.wrap x_10)) rfl rfl)) ?_)
   refine OpsL.nilS ⟨[(0, Pt 1 0), (2, I n0), (3, I j0), (5, Pt 101 0), (8, .b (.one (.int .u64 (IntKind.u64.wrap (carry_4 + (IntKind.u64.wrap ((IntKind.u64.wrap x_8) + (IntKind.u64.wrap x_9)))))))), (10, I n0), (11, I x_5)], [(1, .box 119 ((eA17 .u32) (u_3.set (IntKind.i64.wrap (j0 + x_5)) (IntKind.u32.wrap x_10)))), (101, .box 23 (eW v0))]⟩ rfl (Tri.regionL (OpsL.consI .u64 h4 rfl om (fun x_12 h4 => ?_)))
   refine Oc (op_shr2 (m := 32) (by decide) rfl rfl rfl) (Oc oa ?_)
   refine OpsL.nil (Fin.block_normal (Fin.keepS ⟨[(0, Pt 1 0), (2, I n0), (3, I j0), (5, Pt 101 0), (8, .b (.one (.int .u64 (x_12 / 4294967296)))), (10, I n0), (11, I x_5)], [(1, .box 119 ((eA17 .u32) (u_3.set (IntKind.i64.wrap (j0 + x_5)) (IntKind.u32.wrap x_10)))), (101, .box 23 (eW v0))]⟩ rfl (Fin.then (Tri.regionL ?_))))
   refine Oc (op_add rfl rfl) (Oc om ?_)
   refine OpsL.nil ?_
   exact Fin.againJ [0, 2, 3, 5, 8, 10, 11] [1, 101] (u_3.set (IntKind.i64.wrap (j0 + x_5)) (IntKind.u32.wrap x_10), x_12 / 4294967296, IntKind.i64.wrap (x_5 + 1)) (Option.some.inj h4) rfl
  ·refine Tri.exit (Fin.then_exit ?_)
   obtain rfl := hy5 _ (Option.some.inj h4).symm
   refine Fin.then_exit (Fin.block_exit ?_)
   exact Fin.join [0, 2, 3, 8] [1] (u_3, carry_4) rfl rfl
 ·rintro ⟨u_1, carry_2⟩ hv
  subst v1
  refine Tri.keepS ⟨[(0, Pt 1 0), (2, I n0), (3, I j0), (8, .b (.one (.int .u64 carry_2)))], [(1, .box 119 ((eA17 .u32) u_1))]⟩ rfl ?_
  obtain ⟨x_13, e9, h⟩ := bnd h
  obtain ⟨x_14, e10, h⟩ := bnd h
  refine Tri.regionYF mixed 12 [Pt 1 0, I j0, I n0, I (IntKind.i64.wrap (j0 + n0)), Pt 1 0, .b (.ptr 1 (0 + (IntKind.i64.wrap (j0 + n0) : Int).toNat * 1)), .b (.one (.int .u32 x_13)), .b (.one (.int .u64 carry_2)), .b (.one (.int .u32 (IntKind.u32.wrap carry_2))), .b (.one (.int .u32 (IntKind.u32.wrap (x_13 + (IntKind.u32.wrap carry_2))))), Pt 1 0, .b (.ptr 1 (0 + (IntKind.i64.wrap (j0 + n0) : Int).toNat * 1))] [] [1] (s' := ⟨[], [(1, .box 119 ((eA17 .u32) (u_1.set (IntKind.i64.wrap (j0 + n0)) (IntKind.u32.wrap (x_13 + (IntKind.u32.wrap carry_2))))))]⟩) rfl ⟨fun _ => .p om, fun _ => .p om, fun _ => .p om, fun _ => .p (op_add rfl rfl), fun _ => .p (op_nilCheck_p rfl), fun _ => .p (op_index_p tyArr119 (ix_lo e9) (ix_hi e9) rfl rfl rfl), fun _ => .p (op_load_p1 tyOne22 rfl rfl (arr_get (post := []) (k := .u32) [] e9 rfl rfl rfl)), fun _ => .p om, fun _ => .p (op_conv_wrap undi79 undi22 rfl), fun _ => .p (op_add rfl rfl), fun _ => .p (op_nilCheck_p rfl), fun _ => .p (op_index_p tyArr119 (ix_lo e10) (ix_hi e10) rfl rfl rfl), trivial⟩ ⟨_, by exact .p (op_store_p1 tyOne22 rfl rfl rfl (arr_lt (post := []) (k := .u32) [] e10 rfl rfl rfl) (arr_set (post := []) (k := .u32) [] e10 rfl rfl (A17.set_l u_1 (IntKind.i64.wrap (j0 + n0)) (IntKind.u32.wrap (x_13 + (IntKind.u32.wrap carry_2)))) rfl rfl)), rfl⟩ rfl ?_
  obtain rfl := Option.some.inj h
  refine Fin.keepS ⟨[], [(1, .box 119 ((eA17 .u32) (u_1.set (IntKind.i64.wrap (j0 + n0)) (IntKind.u32.wrap (x_13 + (IntKind.u32.wrap carry_2))))))]⟩ rfl ?_
  exact Fin.result [] (.inr rfl) rfl (.nil) ⟨rfl, rfl⟩
def w_down_S (F : Nat) (w0 : A16) (n0 : Int) : Option A16 :=
 Option.bind (iter F (un2 fun out_2 x_3 => if (decide (x_3 < 16)) = true then (Option.bind (Option.bind (if (decide ((IntKind.i64.wrap (x_3 + 1)) < 16)) = true then ((idx? w0.l (IntKind.i64.wrap (x_3 + 1))).bind fun x_7 => some (IntKind.u64.wrap x_7)) else (some 0)) (fun next_6 => letN (IntKind.u64.wrap (next_6 * 4294967296)) fun x_8 => (idx? w0.l x_3).bind fun x_9 => Option.bind (shr? .u64 (ior .u64 x_8 (IntKind.u64.wrap x_9)) n0) (fun x_10 => (idx? out_2.l x_3).bind fun x_11 => some (out_2.set x_3 (IntKind.u32.wrap x_10))))) (fun out_5 => some (.inl (out_5, IntKind.i64.wrap (x_3 + 1))))) else (some (.inr out_2))) (A16.zero, 0)) (fun out_1 => some out_1)
theorem w_down_spec {F : Nat} {w0 : A16} {n0 : Int} {r : A16} (h : w_down_S F w0 n0 = some r) : Meets Tryz.prog (tabs mx) 126 [] [.agg (eW w0), .one (.i n0)] (Is [] (.b (.agg (eW r)))) := by
 unfold w_down_S at h
 refine Meets.intro 33 Tryz.func126 Tryz.ntmps126 rfl (by simp) fun E => ?_
 show Tri _ E ⟨33, [], []⟩ _ ⟨[(0, .b (.agg (eW w0))), (1, I n0)], []⟩ _
 refine Tri.seq (Tri.regionL ?_)
 refine Oc (op_box (k := 101) rfl rfl) (Oc (op_alloc (k := 102) tyZero23 rfl) ?_)
 refine OpsL.nilS ⟨[(1, I n0), (2, Pt 101 0), (4, Pt 102 0)], [(101, .box 23 (eW w0)), (102, .box 23 (eW A16.zero))]⟩ rfl (Tri.seq (Tri.regionL ?_))
 refine Oc (op_alloc (k := 103) tyZero23 rfl) (OpsL.nilS ⟨[(1, I n0), (2, Pt 101 0), (4, Pt 102 0), (5, Pt 103 0)], [(101, .box 23 (eW w0)), (102, .box 23 (eW A16.zero)), (103, .box 23 (eW A16.zero))]⟩ rfl ?_)
 obtain ⟨v1, h2, h⟩ := bnd h
 refine Tri.seqJ (v := v1) (fun (out_1 : A16) => ⟨[(4, Pt 102 0), (5, Pt 103 0)], [(102, .box 23 (eW A16.zero)), (103, .box 23 (eW out_1))]⟩) (fun z => z) ?_ ?_
 ·refine Tri.seq (Tri.regionL ?_)
  refine Oc om (OpsL.nilS ⟨[(1, I n0), (2, Pt 101 0), (4, Pt 102 0), (5, Pt 103 0), (8, I 0)], [(101, .box 23 (eW w0)), (102, .box 23 (eW A16.zero)), (103, .box 23 (eW A16.zero))]⟩ rfl (Tri.block (Tri.loopJ h2 (un2 fun (out_2 : A16) (x_3 : Int) => ⟨[(1, I n0), (2, Pt 101 0), (4, Pt 102 0), (5, Pt 103 0), (8, I x_3)], [(101, .box 23 (eW w0)), (102, .box 23 (eW A16.zero)), (103, .box 23 (eW out_2))]⟩) [1, 2, 4, 5, 8] [101, 102, 103] rfl ?_)))
  rintro ⟨out_2, x_3⟩ o3 h4 hy5
  refine Tri.seq (Tri.regionL ?_)
  refine Oc (op_lss rfl rfl) (OpsL.nilS ⟨[(1, I n0), (2, Pt 101 0), (4, Pt 102 0), (5, Pt 103 0), (8, I x_3), (9, B (decide (x_3 < 16)))], [(101, .box 23 (eW w0)), (102, .box 23 (eW A16.zero)), (103, .box 23 (eW out_2))]⟩ rfl (Tri.seq (Tri.ite h4 rfl (fun _ h4 => ?_) (fun _ h4 => ?_))))
  ·refine Tri.skip (Fin.keepS ⟨[(1, I n0), (2, Pt 101 0), (4, Pt 102 0), (5, Pt 103 0), (8, I x_3)], [(101, .box 23 (eW w0)), (102, .box 23 (eW A16.zero)), (103, .box 23 (eW out_2))]⟩ rfl (Fin.then ?_))
   obtain ⟨v6, h7, h4⟩ := bnd h4
   refine Tri.seqJ (v := v6) (fun (out_5 : A16) => ⟨[(1, I n0), (2, Pt 101 0), (4, Pt 102 0), (5, Pt 103 0), (8, I x_3)], [(101, .box 23 (eW w0)), (102, .box 23 (eW A16.zero)), (103, .box 23 (eW out_5))]⟩) (fun z => z) ?_ ?_
   ·refine Tri.block (Tri.seq (Tri.regionL ?_))
    refine Oc om (Oc oa ?_)
    refine OpsL.nilS ⟨[(1, I n0), (2, Pt 101 0), (4, Pt 102 0), (5, Pt 103 0), (6, I x_3), (8, I x_3)], [(101, .box 23 (eW w0)), (102, .box 23 (eW A16.zero)), (103, .box 23 (eW out_2))]⟩ rfl (Tri.seq (Tri.regionL ?_))
    refine Oc oa (OpsL.nilS ⟨[(1, I n0), (2, Pt 101 0), (4, Pt 102 0), (5, Pt 103 0), (6, I x_3), (7, .b (.one (.int .u64 0))), (8, I x_3)], [(101, .box 23 (eW w0)), (102, .box 23 (eW A16.zero)), (103, .box 23 (eW out_2))]⟩ rfl ?_)
    obtain ⟨v8, h9, h7⟩ := bnd h7
    refine Tri.seqJ (v := v8) (fun (next_6 : Int) => ⟨[(1, I n0), (2, Pt 101 0), (4, Pt 102 0), (5, Pt 103 0), (6, I x_3), (7, .b (.one (.int .u64 next_6))), (8, I x_3)], [(101, .box 23 (eW w0)), (102, .box 23 (eW A16.zero)), (103, .box 23 (eW out_2))]⟩) (fun z => z) ?_ ?_
    ·refine Tri.seq (Tri.regionL ?_)
     refine Oc om (Oc (op_add rfl rfl) (Oc (op_lss rfl rfl) ?_))
     refine OpsL.nilS ⟨[(1, I n0), (2, Pt 101 0), (4, Pt 102 0), (5, Pt 103 0), (6, I x_3), (7, .b (.one (.int .u64 0))), (8, I x_3), (13, B (decide ((IntKind.i64.wrap (x_3 + 1)) < 16)))], [(101, .box 23 (eW w0)), (102, .box 23 (eW A16.zero)), (103, .box 23 (eW out_2))]⟩ rfl (Tri.ite h9 rfl (fun _ h9 => ?_) (fun _ h9 => ?_))
     ·refine Tri.regionL (Oc om (Oc (op_add rfl rfl) ?_))
      obtain ⟨x_7, e10, h9⟩ := bnd h9
      refine Oc (op_index_p tyArr23 (ix_lo e10) (ix_hi e10) rfl rfl rfl) (Oc (op_load_p1 tyOne22 rfl rfl (arr_get (post := []) (k := .u32) [] e10 rfl rfl rfl)) (Oc (op_conv_wrap undi22 undi79 rfl) (Oc oa ?_)))
      refine OpsL.nil ?_
      exact Fin.join [1, 2, 4, 5, 6, 7, 8] [101, 102, 103] (IntKind.u64.wrap x_7) (Option.some.inj h9) rfl
     ·refine Tri.skip ?_
      exact Fin.join [1, 2, 4, 5, 6, 7, 8] [101, 102, 103] 0 (Option.some.inj h9) rfl
    ·rintro next_6 hv
     subst v8
     refine Tri.regionL (Oc om (Oc om ?_))
     refine OpsL.consI .u64 h7 rfl (op_shl0 (m := 32) (q := 4294967296) (by decide) rfl rfl (by decide)) (fun x_8 h7 => ?_)
     refine Oc om ?_
     obtain ⟨x_9, e11, h7⟩ := bnd h7
     refine Oc (op_index_p tyArr23 (ix_lo e11) (ix_hi e11) rfl rfl rfl) (Oc (op_load_p1 tyOne22 rfl rfl (arr_get (post := []) (k := .u32) [] e11 rfl rfl rfl)) (Oc (op_conv_wrap undi22 undi79 rfl) ?_))
     refine OpsL.keepS ⟨[(1, I n0), (2, Pt 101 0), (4, Pt 102 0), (5, Pt 103 0), (8, I x_3), (19, I x_3), (21, .b (.one (.int .u64 x_8))), (25, .b (.one (.int .u64 (IntKind.u64.wrap x_9))))], [(101, .box 23 (eW w0)), (102, .box 23 (eW A16.zero)), (103, .box 23 (eW out_2))]⟩ rfl (Oc (op_or rfl rfl) (Oc om ?_))
     obtain ⟨x_10, e12, h7⟩ := bnd h7
     refine Oc (op_shr3 e12 rfl rfl) (Oc (op_conv_wrap undi79 undi22 rfl) ?_)
     obtain ⟨x_11, e13, h7⟩ := bnd h7
     refine Oc (op_index_p tyArr23 (ix_lo e13) (ix_hi e13) rfl rfl rfl) (Oc (op_store_p1 tyOne22 rfl rfl rfl (arr_lt (post := []) (k := .u32) [] e13 rfl rfl rfl) (arr_set (post := []) (k := .u32) [] e13 rfl rfl (A16.set_l out_2 x_3 (IntKind.u32.wrap x_10)) rfl rfl)) ?_)
     refine OpsL.nil (Fin.block_normal ?_)
     exact Fin.join [1, 2, 4, 5, 8] [101, 102, 103] (out_2.set x_3 (IntKind.u32.wrap x_10)) (Option.some.inj h7) rfl
   ·rintro out_5 hv
    subst v6
    refine Tri.regionL (Oc (op_add rfl rfl) (Oc om ?_))
    refine OpsL.nil ?_
    exact Fin.againJ [1, 2, 4, 5, 8] [101, 102, 103] (out_5, IntKind.i64.wrap (x_3 + 1)) (Option.some.inj h4) rfl
  ·refine Tri.exit (Fin.then_exit ?_)
   obtain rfl := hy5 _ (Option.some.inj h4).symm
   refine Fin.then_exit (Fin.block_exit ?_)
   exact Fin.join [4, 5] [102, 103] out_2 rfl rfl
 ·rintro out_1 hv
  subst v1
  refine Tri.seq (Tri.regionL ?_)
  refine Oc (lp tyAgg23) (Oc (op_store_p tyAgg23 rfl rfl rfl rfl (Nat.le_of_ble_eq_true rfl) rfl) ?_)
  refine OpsL.nilS ⟨[(4, Pt 102 0)], [(102, .box 23 (eW out_1))]⟩ rfl (Tri.ret ?_)
  obtain rfl := Option.some.inj h
  refine Fin.keepS ⟨[(4, Pt 102 0)], [(102, .box 23 (eW out_1))]⟩ rfl (Fin.result' [.agg (eW out_1)] (.inl rfl) rfl (.cons (.agg tyAgg23 rfl rfl rfl rfl) .nil) ⟨rfl, rfl⟩)
end Go.Proofs.YtdjnlmmhbeeihaaGreatDoor

