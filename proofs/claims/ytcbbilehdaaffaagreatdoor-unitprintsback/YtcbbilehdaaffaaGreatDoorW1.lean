/- printed walks -/
import Derived.Test.YtcbbilehdaaffaaGreatDoorT1
namespace Go.Proofs.YtcbbilehdaaffaaGreatDoor
open Go.Sk
set_option maxHeartbeats 1000000
set_option maxRecDepth 4000
set_option linter.unusedSimpArgs false
set_option linter.unusedVariables false
variable {mx : Int}
/-- the named units -/
def unitNames : List Named := [⟨[109, 109], 1, 1000, ⟨1, 0, 0⟩⟩, ⟨[99, 109], 1, 100, ⟨1, 0, 0⟩⟩, ⟨[109], 1, 1, ⟨1, 0, 0⟩⟩, ⟨[107, 109], 1000, 1, ⟨1, 0, 0⟩⟩, ⟨[103], 1, 1000, ⟨0, 1, 0⟩⟩, ⟨[107, 103], 1, 1, ⟨0, 1, 0⟩⟩, ⟨[116], 1000, 1, ⟨0, 1, 0⟩⟩, ⟨[109, 115], 1, 1000, ⟨0, 0, 1⟩⟩, ⟨[115], 1, 1, ⟨0, 0, 1⟩⟩, ⟨[109, 105, 110], 60, 1, ⟨0, 0, 1⟩⟩, ⟨[104], 3600, 1, ⟨0, 0, 1⟩⟩, ⟨[78], 1, 1, ⟨1, 1, (-2)⟩⟩, ⟨[107, 78], 1000, 1, ⟨1, 1, (-2)⟩⟩, ⟨[77, 78], 1000000, 1, ⟨1, 1, (-2)⟩⟩, ⟨[80, 97], 1, 1, ⟨(-1), 1, (-2)⟩⟩, ⟨[107, 80, 97], 1000, 1, ⟨(-1), 1, (-2)⟩⟩, ⟨[77, 80, 97], 1000000, 1, ⟨(-1), 1, (-2)⟩⟩, ⟨[74], 1, 1, ⟨2, 1, (-2)⟩⟩, ⟨[107, 74], 1000, 1, ⟨2, 1, (-2)⟩⟩, ⟨[87], 1, 1, ⟨2, 1, (-3)⟩⟩, ⟨[107, 87], 1000, 1, ⟨2, 1, (-3)⟩⟩, ⟨[49], 1, 1, ⟨0, 0, 0⟩⟩, ⟨[37], 1, 100, ⟨0, 0, 0⟩⟩]
/-- the cells of a named unit -/
def vNamed (x : Named) : List Value := [.string ⟨⟨x.name⟩⟩, .int .i64 x.n, .int .i64 x.d, .int .i64 x.unit.M, .int .i64 x.unit.Kg, .int .i64 x.unit.S]
/-- the tables (mx: what internal/bytealg.MaxLen holds, whatever it is) -/
def tabs (mx : Int) : Tabs := [(3, Lib.deBruijn32tab.map fun z : Nat => Value.int .u8 (z : Int)), (2, Lib.pow10Tab.map fun z : Int => Value.int .u64 z), (0, (unitNames.map vNamed).flatten), (1, [Value.int .i64 mx])]
theorem names_mem : (0, (unitNames.map vNamed).flatten) ∈ tabs mx := by simp [tabs]
def okInt (z : Int) : Bool := decide (IntKind.min .i64 ≤ z ∧ z ≤ IntKind.max .i64)
def okNm (x : Named) : Bool := decide (x.name.length ≤ maxLen) && okInt x.n && okInt x.d && okInt x.unit.M && okInt x.unit.Kg && okInt x.unit.S
theorem nm_rel (h : PH) {x : Named} (ok : okNm x = true) : cellsRel h (eNamed x) (vNamed x) := by
 simp only [okNm, okInt, Bool.and_eq_true, decide_eq_true_eq] at ok
 exact .cons ⟨rfl, ok.1.1.1.1.1⟩ (.cons ⟨rfl, ok.1.1.1.1.2⟩ (.cons ⟨rfl, ok.1.1.1.2⟩ (.cons ⟨rfl, ok.1.1.2⟩ (.cons ⟨rfl, ok.1.2⟩ (.cons ⟨rfl, ok.2⟩ .nil)))))
theorem nms_rel (h : PH) : ∀ {l : List Named}, l.all okNm = true → cellsRel h (l.map eNamed).flatten (l.map vNamed).flatten
 | [], _ => .nil
 | x :: l, ok => by
  simp only [List.all_cons, Bool.and_eq_true] at ok
  exact All2.append (nm_rel h ok.1) (nms_rel h ok.2)
theorem names_rel (h : PH) : cellsRel h (unitNames.map eNamed).flatten (unitNames.map vNamed).flatten := nms_rel h (by decide)
theorem tyFld25_2 : TyField Tryz.prog 25 2 2 23 := ⟨⟨_, _, Tryz.t23, Tryz.underlying25, rfl, rfl, rfl, by kernel_rfl, by decide⟩⟩
theorem tyAgg23 : TyAgg Tryz.prog 23 16 := ⟨⟨_, Tryz.underlying23, rfl⟩, ⟨Tryz.t23, by kernel_rfl, by kernel_rfl⟩⟩
theorem tyBuild23 : TyBuildA Tryz.prog 23 1 (eW A16.zero) := ⟨⟨Tryz.t23, _, _, _, Tryz.t22, by kernel_rfl, rfl, rfl, Tryz.underlying23, by kernel_rfl, by kernel_rfl⟩⟩
theorem tyOne22 : TyOne Tryz.prog 22 := ⟨⟨_, Tryz.underlying22, rfl⟩, ⟨Tryz.t22, by kernel_rfl, by kernel_rfl⟩⟩
theorem eqPart23 (x y : A16) {d : Nat} : EqPart Tryz.prog (d + 2) 23 16 (eW x) (eW y) (decide (x = y)) :=
 (EqPart.arr (l := x.l) (l' := y.l) tyAgg23 Tryz.underlying23 tyOne22 Tryz.underlying22).cast (by rw [Bool.eq_iff_iff]; simp [A16.l_inj])
theorem eqAgg23 (x y : A16) : EqAgg Tryz.prog 23 (eW x) (eW y) (decide (x = y)) := EqAgg.ofPart (by kernel_rfl) tyAgg23 (eqPart23 x y (d := 9998)) rfl rfl
theorem tyFld25_0 : TyField Tryz.prog 25 0 0 4 := ⟨⟨_, _, Tryz.t4, Tryz.underlying25, rfl, rfl, rfl, by kernel_rfl, by decide⟩⟩
theorem tyOne4 : TyOne Tryz.prog 4 := ⟨⟨_, Tryz.underlying4, rfl⟩, ⟨Tryz.t4, by kernel_rfl, by kernel_rfl⟩⟩
theorem tyFld25_1 : TyField Tryz.prog 25 1 1 4 := ⟨⟨_, _, Tryz.t4, Tryz.underlying25, rfl, rfl, rfl, by kernel_rfl, by decide⟩⟩
theorem tyAgg25 : TyAgg Tryz.prog 25 18 := ⟨⟨_, Tryz.underlying25, rfl⟩, ⟨Tryz.t25, by kernel_rfl, by kernel_rfl⟩⟩
theorem goes166 : Goes Tryz.prog 166 := ⟨Tryz.call166⟩
theorem und170 : Tryz.prog.underlying 170 = some (.slice 25) := Tryz.underlying170
theorem tySl170 : TySl Tryz.prog 170 25 18 68 zBig := ⟨Tryz.underlying170, ⟨Tryz.t25, _, by kernel_rfl, rfl, rfl, rfl, rfl, by decide, rfl⟩⟩
theorem tyZero25 : TyZero Tryz.prog 25 zBig := ⟨⟨Tryz.t25, _, by kernel_rfl, rfl, rfl⟩⟩
theorem goes124 : Goes Tryz.prog 124 := ⟨Tryz.call124⟩
theorem tyBuild25 : TyBuild Tryz.prog 25 [(0, 1), (1, 1), (2, 16)] zBig := ⟨⟨Tryz.t25, _, _, by kernel_rfl, rfl, rfl, Tryz.underlying25, by kernel_rfl⟩⟩
theorem tyArr23 : TyArr Tryz.prog 23 22 16 1 := ⟨Tryz.underlying23, ⟨Tryz.t22, by kernel_rfl, by kernel_rfl⟩⟩
theorem mixed : Tryz.prog.follows .mixedOrders = true := by kernel_rfl
theorem goes203 : Goes Tryz.prog 203 := ⟨Tryz.call203⟩
theorem goes183 : Goes Tryz.prog 183 := ⟨Tryz.call183⟩
theorem tyZero23 : TyZero Tryz.prog 23 (eW A16.zero) := ⟨⟨Tryz.t23, _, by kernel_rfl, rfl, rfl⟩⟩
theorem undi22 : Tryz.prog.underlying 22 = some (.int .u32) := Tryz.underlying22
theorem undi145 : Tryz.prog.underlying 145 = some (.int .u64) := Tryz.underlying145
theorem undi5 : Tryz.prog.underlying 5 = some (.int .u8) := Tryz.underlying5
theorem und9 : Tryz.prog.underlying 9 = some .string := Tryz.underlying9
theorem undi3 : Tryz.prog.underlying 3 = some (.int .i64) := Tryz.underlying3
theorem goes201 : Goes Tryz.prog 201 := ⟨Tryz.call201⟩
theorem tyArr186 : TyArr Tryz.prog 186 22 17 1 := ⟨Tryz.underlying186, ⟨Tryz.t22, by kernel_rfl, by kernel_rfl⟩⟩
theorem goes137 : Goes Tryz.prog 137 := ⟨Tryz.call137⟩
theorem goes142 : Goes Tryz.prog 142 := ⟨Tryz.call142⟩
theorem goes125 : Goes Tryz.prog 125 := ⟨Tryz.call125⟩
theorem goes175 : Goes Tryz.prog 175 := ⟨Tryz.call175⟩
theorem goes176 : Goes Tryz.prog 176 := ⟨Tryz.call176⟩
theorem tyZero186 : TyZero Tryz.prog 186 ((eA17 .u32) A17.zero) := ⟨⟨Tryz.t186, _, by kernel_rfl, rfl, rfl⟩⟩
theorem tySl158 : TySl Tryz.prog 158 22 1 4 [.int .u32 0] := ⟨Tryz.underlying158, ⟨Tryz.t22, _, by kernel_rfl, rfl, rfl, rfl, rfl, by decide, rfl⟩⟩
theorem goes177 : Goes Tryz.prog 177 := ⟨Tryz.call177⟩
theorem goes178 : Goes Tryz.prog 178 := ⟨Tryz.call178⟩
theorem goes179 : Goes Tryz.prog 179 := ⟨Tryz.call179⟩
theorem goes180 : Goes Tryz.prog 180 := ⟨Tryz.call180⟩
theorem goes136 : Goes Tryz.prog 136 := ⟨Tryz.call136⟩
theorem goes135 : Goes Tryz.prog 135 := ⟨Tryz.call135⟩
theorem goes138 : Goes Tryz.prog 138 := ⟨Tryz.call138⟩
theorem goes77 : Goes Tryz.prog 77 := ⟨Tryz.call77⟩
theorem goes139 : Goes Tryz.prog 139 := ⟨Tryz.call139⟩
theorem goes74 : Goes Tryz.prog 74 := ⟨Tryz.call74⟩
theorem tyFld27_0 : TyField Tryz.prog 27 0 0 25 := ⟨⟨_, _, Tryz.t25, Tryz.underlying27, rfl, rfl, rfl, by kernel_rfl, by decide⟩⟩
theorem goes123 : Goes Tryz.prog 123 := ⟨Tryz.call123⟩
theorem tyFld27_1 : TyField Tryz.prog 27 1 18 25 := ⟨⟨_, _, Tryz.t25, Tryz.underlying27, rfl, rfl, rfl, by kernel_rfl, by decide⟩⟩
theorem goes90 : Goes Tryz.prog 90 := ⟨Tryz.call90⟩
theorem goes63 : Goes Tryz.prog 63 := ⟨Tryz.call63⟩
theorem eqPart25 (x y : Big) {d : Nat} : EqPart Tryz.prog (d + 3) 25 18 (eBig x) (eBig y) (decide (x = y)) :=
 (EqPart.struct (d := d + 2) (rs := [x.Bad == y.Bad, x.Neg == y.Neg, decide (x.W = y.W)]) tyAgg25 Tryz.stoodInHeld25 Tryz.underlying25 (⟨by decide, ⟨_, [.bool x.Bad], [.bool y.Bad], rfl, rfl, rfl, rfl, (.bool tyOne4 Tryz.underlying4)⟩, ⟨by decide, ⟨_, [.bool x.Neg], [.bool y.Neg], rfl, rfl, rfl, rfl, (.bool tyOne4 Tryz.underlying4)⟩, ⟨by decide, ⟨_, (eW x.W), (eW y.W), rfl, rfl, rfl, rfl, eqPart23 _ _⟩, trivial⟩⟩⟩) rfl).cast
  (by cases x; cases y; rw [Bool.eq_iff_iff]; simp [Big.mk.injEq])
theorem eqAgg25 (x y : Big) : EqAgg Tryz.prog 25 (eBig x) (eBig y) (decide (x = y)) := EqAgg.ofPart (by kernel_rfl) tyAgg25 (eqPart25 x y (d := 9997)) rfl rfl
theorem tyZero27 : TyZero Tryz.prog 27 zFrc := ⟨⟨Tryz.t27, _, by kernel_rfl, rfl, rfl⟩⟩
theorem tyBuild27 : TyBuild Tryz.prog 27 [(0, 18), (18, 18)] zFrc := ⟨⟨Tryz.t27, _, _, by kernel_rfl, rfl, rfl, Tryz.underlying27, by kernel_rfl⟩⟩
theorem tyAgg27 : TyAgg Tryz.prog 27 36 := ⟨⟨_, Tryz.underlying27, rfl⟩, ⟨Tryz.t27, by kernel_rfl, by kernel_rfl⟩⟩
theorem goes202 : Goes Tryz.prog 202 := ⟨Tryz.call202⟩
theorem und4 : Tryz.prog.underlying 4 = some .bool := Tryz.underlying4
theorem goes141 : Goes Tryz.prog 141 := ⟨Tryz.call141⟩
theorem goes143 : Goes Tryz.prog 143 := ⟨Tryz.call143⟩
theorem goes81 : Goes Tryz.prog 81 := ⟨Tryz.call81⟩
theorem goes79 : Goes Tryz.prog 79 := ⟨Tryz.call79⟩
theorem goes181 : Goes Tryz.prog 181 := ⟨Tryz.call181⟩
theorem goes182 : Goes Tryz.prog 182 := ⟨Tryz.call182⟩
theorem goes140 : Goes Tryz.prog 140 := ⟨Tryz.call140⟩
theorem tyZero157 : TyZero Tryz.prog 157 ((eA32 .u32) A32.zero) := ⟨⟨Tryz.t157, _, by kernel_rfl, rfl, rfl⟩⟩
theorem tyArr157 : TyArr Tryz.prog 157 22 32 1 := ⟨Tryz.underlying157, ⟨Tryz.t22, by kernel_rfl, by kernel_rfl⟩⟩
theorem goes75 : Goes Tryz.prog 75 := ⟨Tryz.call75⟩
theorem goes78 : Goes Tryz.prog 78 := ⟨Tryz.call78⟩
theorem goes62 : Goes Tryz.prog 62 := ⟨Tryz.call62⟩
theorem goes80 : Goes Tryz.prog 80 := ⟨Tryz.call80⟩
theorem goes76 : Goes Tryz.prog 76 := ⟨Tryz.call76⟩
theorem goes24 : Goes Tryz.prog 24 := ⟨Tryz.call24⟩
theorem goes22 : Goes Tryz.prog 22 := ⟨Tryz.call22⟩
theorem goes25 : Goes Tryz.prog 25 := ⟨Tryz.call25⟩
theorem goes94 : Goes Tryz.prog 94 := ⟨Tryz.call94⟩
theorem goes21 : Goes Tryz.prog 21 := ⟨Tryz.call21⟩
theorem tyZero29 : TyZero Tryz.prog 29 [.i 0, .i 0, .i 0] := ⟨⟨Tryz.t29, _, by kernel_rfl, rfl, rfl⟩⟩
theorem tyAgg29 : TyAgg Tryz.prog 29 3 := ⟨⟨_, Tryz.underlying29, rfl⟩, ⟨Tryz.t29, by kernel_rfl, by kernel_rfl⟩⟩
theorem tyOne3 : TyOne Tryz.prog 3 := ⟨⟨_, Tryz.underlying3, rfl⟩, ⟨Tryz.t3, by kernel_rfl, by kernel_rfl⟩⟩
theorem eqPart29 (x y : MUnit) {d : Nat} : EqPart Tryz.prog (d + 2) 29 3 (eMUnit x) (eMUnit y) (decide (x = y)) :=
 (EqPart.struct (d := d + 1) (rs := [decide (x.M = y.M), decide (x.Kg = y.Kg), decide (x.S = y.S)]) tyAgg29 Tryz.stoodInHeld29 Tryz.underlying29 (⟨by decide, ⟨_, [.i x.M], [.i y.M], rfl, rfl, rfl, rfl, EqPart.int tyOne3 Tryz.underlying3⟩, ⟨by decide, ⟨_, [.i x.Kg], [.i y.Kg], rfl, rfl, rfl, rfl, EqPart.int tyOne3 Tryz.underlying3⟩, ⟨by decide, ⟨_, [.i x.S], [.i y.S], rfl, rfl, rfl, rfl, EqPart.int tyOne3 Tryz.underlying3⟩, trivial⟩⟩⟩) rfl).cast
  (by cases x; cases y; rw [Bool.eq_iff_iff]; simp [MUnit.mk.injEq])
theorem eqAgg29 (x y : MUnit) : EqAgg Tryz.prog 29 (eMUnit x) (eMUnit y) (decide (x = y)) := EqAgg.ofPart (by kernel_rfl) tyAgg29 (eqPart29 x y (d := 9998)) rfl rfl
theorem tyBuild29 : TyBuild Tryz.prog 29 [(0, 1), (1, 1), (2, 1)] [.i 0, .i 0, .i 0] := ⟨⟨Tryz.t29, _, _, by kernel_rfl, rfl, rfl, Tryz.underlying29, by kernel_rfl⟩⟩
theorem tyZero97 : TyZero Tryz.prog 97 ((eA3 .i64) A3.zero) := ⟨⟨Tryz.t97, _, by kernel_rfl, rfl, rfl⟩⟩
theorem tyFld29_0 : TyField Tryz.prog 29 0 0 3 := ⟨⟨_, _, Tryz.t3, Tryz.underlying29, rfl, rfl, rfl, by kernel_rfl, by decide⟩⟩
theorem tyFld29_1 : TyField Tryz.prog 29 1 1 3 := ⟨⟨_, _, Tryz.t3, Tryz.underlying29, rfl, rfl, rfl, by kernel_rfl, by decide⟩⟩
theorem tyFld29_2 : TyField Tryz.prog 29 2 2 3 := ⟨⟨_, _, Tryz.t3, Tryz.underlying29, rfl, rfl, rfl, by kernel_rfl, by decide⟩⟩
theorem tyBuild97 : TyBuildA Tryz.prog 97 1 ((eA3 .i64) A3.zero) := ⟨⟨Tryz.t97, _, _, _, Tryz.t3, by kernel_rfl, rfl, rfl, Tryz.underlying97, by kernel_rfl, by kernel_rfl⟩⟩
theorem tyAgg97 : TyAgg Tryz.prog 97 3 := ⟨⟨_, Tryz.underlying97, rfl⟩, ⟨Tryz.t97, by kernel_rfl, by kernel_rfl⟩⟩
theorem goes71 : Goes Tryz.prog 71 := ⟨Tryz.call71⟩
theorem tyArr97 : TyArr Tryz.prog 97 3 3 1 := ⟨Tryz.underlying97, ⟨Tryz.t3, by kernel_rfl, by kernel_rfl⟩⟩
theorem goes85 : Goes Tryz.prog 85 := ⟨Tryz.call85⟩
theorem goes32 : Goes Tryz.prog 32 := ⟨Tryz.call32⟩
theorem goes82 : Goes Tryz.prog 82 := ⟨Tryz.call82⟩
theorem goes87 : Goes Tryz.prog 87 := ⟨Tryz.call87⟩
theorem goes26 : Goes Tryz.prog 26 := ⟨Tryz.call26⟩
theorem goes27 : Goes Tryz.prog 27 := ⟨Tryz.call27⟩
theorem goes120 : Goes Tryz.prog 120 := ⟨Tryz.call120⟩
theorem goes173 : Goes Tryz.prog 173 := ⟨Tryz.call173⟩
theorem goes119 : Goes Tryz.prog 119 := ⟨Tryz.call119⟩
theorem goes129 : Goes Tryz.prog 129 := ⟨Tryz.call129⟩
theorem und89 : Tryz.prog.underlying 89 = some (.slice 3) := Tryz.underlying89
theorem tySl89 : TySl Tryz.prog 89 3 1 8 [.i 0] := ⟨Tryz.underlying89, ⟨Tryz.t3, _, by kernel_rfl, rfl, rfl, rfl, rfl, by decide, rfl⟩⟩
theorem goes130 : Goes Tryz.prog 130 := ⟨Tryz.call130⟩
theorem goes65 : Goes Tryz.prog 65 := ⟨Tryz.call65⟩
theorem goes66 : Goes Tryz.prog 66 := ⟨Tryz.call66⟩
theorem goes151 : Goes Tryz.prog 151 := ⟨Tryz.call151⟩
theorem goes131 : Goes Tryz.prog 131 := ⟨Tryz.call131⟩
theorem goes156 : Goes Tryz.prog 156 := ⟨Tryz.call156⟩
theorem goes155 : Goes Tryz.prog 155 := ⟨Tryz.call155⟩
theorem goes186 : Goes Tryz.prog 186 := ⟨Tryz.call186⟩
theorem goes185 : Goes Tryz.prog 185 := ⟨Tryz.call185⟩
theorem goes150 : Goes Tryz.prog 150 := ⟨Tryz.call150⟩
theorem goes157 : Goes Tryz.prog 157 := ⟨Tryz.call157⟩
theorem goes152 : Goes Tryz.prog 152 := ⟨Tryz.call152⟩
theorem goes107 : Goes Tryz.prog 107 := ⟨Tryz.call107⟩
theorem goes161 : Goes Tryz.prog 161 := ⟨Tryz.call161⟩
theorem goes154 : Goes Tryz.prog 154 := ⟨Tryz.call154⟩
theorem goes103 : Goes Tryz.prog 103 := ⟨Tryz.call103⟩
theorem goes115 : Goes Tryz.prog 115 := ⟨Tryz.call115⟩
theorem goes108 : Goes Tryz.prog 108 := ⟨Tryz.call108⟩
theorem goes84 : Goes Tryz.prog 84 := ⟨Tryz.call84⟩
theorem tyFld31_0 : TyField Tryz.prog 31 0 0 27 := ⟨⟨_, _, Tryz.t27, Tryz.underlying31, rfl, rfl, rfl, by kernel_rfl, by decide⟩⟩
theorem goes58 : Goes Tryz.prog 58 := ⟨Tryz.call58⟩
theorem tyFld31_1 : TyField Tryz.prog 31 1 36 29 := ⟨⟨_, _, Tryz.t29, Tryz.underlying31, rfl, rfl, rfl, by kernel_rfl, by decide⟩⟩
theorem goes33 : Goes Tryz.prog 33 := ⟨Tryz.call33⟩
theorem goes67 : Goes Tryz.prog 67 := ⟨Tryz.call67⟩
theorem goes73 : Goes Tryz.prog 73 := ⟨Tryz.call73⟩
theorem tyFld94_2 : TyField Tryz.prog 94 2 40 3 := ⟨⟨_, _, Tryz.t3, Tryz.underlying94, rfl, rfl, rfl, by kernel_rfl, by decide⟩⟩
theorem goes191 : Goes Tryz.prog 191 := ⟨Tryz.call191⟩
theorem tyFld94_0 : TyField Tryz.prog 94 0 0 9 := ⟨⟨_, _, Tryz.t9, Tryz.underlying94, rfl, rfl, rfl, by kernel_rfl, by decide⟩⟩
theorem tyOne9 : TyOne Tryz.prog 9 := ⟨⟨_, Tryz.underlying9, rfl⟩, ⟨Tryz.t9, by kernel_rfl, by kernel_rfl⟩⟩
theorem goes196 : Goes Tryz.prog 196 := ⟨Tryz.call196⟩
theorem goes122 : Goes Tryz.prog 122 := ⟨Tryz.call122⟩
theorem goes172 : Goes Tryz.prog 172 := ⟨Tryz.call172⟩
theorem goes165 : Goes Tryz.prog 165 := ⟨Tryz.call165⟩
theorem goes163 : Goes Tryz.prog 163 := ⟨Tryz.call163⟩
theorem goes117 : Goes Tryz.prog 117 := ⟨Tryz.call117⟩
theorem undi21 : Tryz.prog.underlying 21 = some (.int .i32) := Tryz.underlying21
theorem goes132 : Goes Tryz.prog 132 := ⟨Tryz.call132⟩
theorem tyAgg143 : TyAgg Tryz.prog 143 138 := ⟨⟨_, Tryz.underlying143, rfl⟩, ⟨Tryz.t143, by kernel_rfl, by kernel_rfl⟩⟩
theorem tyArr143 : TyArr Tryz.prog 143 142 23 6 := ⟨Tryz.underlying143, ⟨Tryz.t142, by kernel_rfl, by kernel_rfl⟩⟩
theorem tyAgg142 : TyAgg Tryz.prog 142 6 := ⟨⟨_, Tryz.underlying142, rfl⟩, ⟨Tryz.t142, by kernel_rfl, by kernel_rfl⟩⟩
theorem tyZero142 : TyZero Tryz.prog 142 [.str [], .i 0, .i 0, .i 0, .i 0, .i 0] := ⟨⟨Tryz.t142, _, by kernel_rfl, rfl, rfl⟩⟩
theorem tyFld142_0 : TyField Tryz.prog 142 0 0 9 := ⟨⟨_, _, Tryz.t9, Tryz.underlying142, rfl, rfl, rfl, by kernel_rfl, by decide⟩⟩
theorem goes133 : Goes Tryz.prog 133 := ⟨Tryz.call133⟩
theorem tyFld94_1 : TyField Tryz.prog 94 1 1 31 := ⟨⟨_, _, Tryz.t31, Tryz.underlying94, rfl, rfl, rfl, by kernel_rfl, by decide⟩⟩
theorem tyFld142_3 : TyField Tryz.prog 142 3 3 29 := ⟨⟨_, _, Tryz.t29, Tryz.underlying142, rfl, rfl, rfl, by kernel_rfl, by decide⟩⟩
theorem tyFld142_1 : TyField Tryz.prog 142 1 1 3 := ⟨⟨_, _, Tryz.t3, Tryz.underlying142, rfl, rfl, rfl, by kernel_rfl, by decide⟩⟩
theorem tyFld142_2 : TyField Tryz.prog 142 2 2 3 := ⟨⟨_, _, Tryz.t3, Tryz.underlying142, rfl, rfl, rfl, by kernel_rfl, by decide⟩⟩
theorem goes23 : Goes Tryz.prog 23 := ⟨Tryz.call23⟩
theorem tyZero31 : TyZero Tryz.prog 31 (.bool false :: .bool false :: (eW A16.zero ++ (.bool false :: .bool false :: (eW A16.zero ++ ([.i 0, .i 0, .i 0]))))) := ⟨⟨Tryz.t31, _, by kernel_rfl, rfl, rfl⟩⟩
theorem tyBuild31 : TyBuild Tryz.prog 31 [(0, 36), (36, 3)] (.bool false :: .bool false :: (eW A16.zero ++ (.bool false :: .bool false :: (eW A16.zero ++ ([.i 0, .i 0, .i 0]))))) := ⟨⟨Tryz.t31, _, _, by kernel_rfl, rfl, rfl, Tryz.underlying31, by kernel_rfl⟩⟩
theorem tyAgg31 : TyAgg Tryz.prog 31 39 := ⟨⟨_, Tryz.underlying31, rfl⟩, ⟨Tryz.t31, by kernel_rfl, by kernel_rfl⟩⟩
theorem goes20 : Goes Tryz.prog 20 := ⟨Tryz.call20⟩
theorem tyBuild94 : TyBuild Tryz.prog 94 [(0, 1), (1, 39), (40, 1)] (.str [] :: .bool false :: .bool false :: (eW A16.zero ++ (.bool false :: .bool false :: (eW A16.zero ++ ([.i 0, .i 0, .i 0, .i 0]))))) := ⟨⟨Tryz.t94, _, _, by kernel_rfl, rfl, rfl, Tryz.underlying94, by kernel_rfl⟩⟩
theorem undm95 : Tryz.prog.underlying 95 = some (.map 5 1) := Tryz.underlying95
theorem tyMap95 : TyMap Tryz.prog 95 5 1 .u8 (.raw .nilFunc) := ⟨Tryz.underlying95, Tryz.underlying5, ⟨Tryz.t1, _, by kernel_rfl, rfl, fun _ => ⟨rfl, rfl⟩⟩⟩
theorem goes70 : Goes Tryz.prog 70 := ⟨Tryz.call70⟩
theorem und1 : ∃ ps rs v, Tryz.prog.underlying 1 = some (.func ps rs v) := ⟨_, _, _, Tryz.underlying1⟩
theorem goes68 : Goes Tryz.prog 68 := ⟨Tryz.call68⟩
theorem goes69 : Goes Tryz.prog 69 := ⟨Tryz.call69⟩
theorem goes153 : Goes Tryz.prog 153 := ⟨Tryz.call153⟩
theorem goes114 : Goes Tryz.prog 114 := ⟨Tryz.call114⟩
theorem goes159 : Goes Tryz.prog 159 := ⟨Tryz.call159⟩
theorem goes101 : Goes Tryz.prog 101 := ⟨Tryz.call101⟩
theorem goes106 : Goes Tryz.prog 106 := ⟨Tryz.call106⟩
theorem goes105 : Goes Tryz.prog 105 := ⟨Tryz.call105⟩
theorem tyBuild99 : TyBuildA Tryz.prog 99 1 [.str [], .str [], .str []] := ⟨⟨Tryz.t99, _, _, _, Tryz.t9, by kernel_rfl, rfl, rfl, Tryz.underlying99, by kernel_rfl, by kernel_rfl⟩⟩
theorem tyArr99 : TyArr Tryz.prog 99 9 3 1 := ⟨Tryz.underlying99, ⟨Tryz.t9, by kernel_rfl, by kernel_rfl⟩⟩
theorem goes72 : Goes Tryz.prog 72 := ⟨Tryz.call72⟩
theorem goes164 : Goes Tryz.prog 164 := ⟨Tryz.call164⟩
theorem goes118 : Goes Tryz.prog 118 := ⟨Tryz.call118⟩
theorem und48 : Tryz.prog.underlying 48 = some (.slice 5) := Tryz.underlying48
theorem tySl48 : TySl Tryz.prog 48 5 1 1 [.int .u8 0] := ⟨Tryz.underlying48, ⟨Tryz.t5, _, by kernel_rfl, rfl, rfl, rfl, rfl, by decide, rfl⟩⟩
theorem tyOne5 : TyOne Tryz.prog 5 := ⟨⟨_, Tryz.underlying5, rfl⟩, ⟨Tryz.t5, by kernel_rfl, by kernel_rfl⟩⟩
theorem goes59 : Goes Tryz.prog 59 := ⟨Tryz.call59⟩
theorem goes121 : Goes Tryz.prog 121 := ⟨Tryz.call121⟩
theorem und120 : Tryz.prog.underlying 120 = some (.slice 31) := Tryz.underlying120
theorem tySl120 : TySl Tryz.prog 120 31 39 160 (.bool false :: .bool false :: (eW A16.zero ++ (.bool false :: .bool false :: (eW A16.zero ++ ([.i 0, .i 0, .i 0]))))) := ⟨Tryz.underlying120, ⟨Tryz.t31, _, by kernel_rfl, rfl, rfl, rfl, rfl, by decide, rfl⟩⟩
theorem goes54 : Goes Tryz.prog 54 := ⟨Tryz.call54⟩
theorem tyFld113_1 : TyField Tryz.prog 113 1 1 54 := ⟨⟨_, _, Tryz.t54, Tryz.underlying113, rfl, rfl, rfl, by kernel_rfl, by decide⟩⟩
theorem tyOne54 : TyOne Tryz.prog 54 := ⟨⟨_, Tryz.underlying54, rfl⟩, ⟨Tryz.t54, by kernel_rfl, by kernel_rfl⟩⟩
theorem tyFld113_0 : TyField Tryz.prog 113 0 0 49 := ⟨⟨_, _, Tryz.t49, Tryz.underlying113, rfl, rfl, rfl, by kernel_rfl, by decide⟩⟩
theorem tyOne49 : TyOne Tryz.prog 49 := ⟨⟨_, Tryz.underlying49, rfl⟩, ⟨Tryz.t49, by kernel_rfl, by kernel_rfl⟩⟩
theorem goes55 : Goes Tryz.prog 55 := ⟨Tryz.call55⟩
theorem tyBuild113 : TyBuild Tryz.prog 113 [(0, 1), (1, 1)] [.raw .nilFunc, .raw .nilFunc] := ⟨⟨Tryz.t113, _, _, by kernel_rfl, rfl, rfl, Tryz.underlying113, by kernel_rfl⟩⟩
theorem goes88 : Goes Tryz.prog 88 := ⟨Tryz.call88⟩
theorem goes60 : Goes Tryz.prog 60 := ⟨Tryz.call60⟩
theorem goes61 : Goes Tryz.prog 61 := ⟨Tryz.call61⟩
theorem goes17 : Goes Tryz.prog 17 := ⟨Tryz.call17⟩
theorem goes38 : Goes Tryz.prog 38 := ⟨Tryz.call38⟩
theorem goes13 : Goes Tryz.prog 13 := ⟨Tryz.call13⟩
theorem eqPart27 (x y : Frc) {d : Nat} : EqPart Tryz.prog (d + 4) 27 36 (eFrc x) (eFrc y) (decide (x = y)) :=
 (EqPart.struct (d := d + 3) (rs := [decide (x.N = y.N), decide (x.D = y.D)]) tyAgg27 Tryz.stoodInHeld27 Tryz.underlying27 (⟨by decide, ⟨_, (eBig x.N), (eBig y.N), rfl, rfl, rfl, rfl, eqPart25 _ _⟩, ⟨by decide, ⟨_, (eBig x.D), (eBig y.D), rfl, rfl, rfl, rfl, eqPart25 _ _⟩, trivial⟩⟩) rfl).cast
  (by cases x; cases y; rw [Bool.eq_iff_iff]; simp [Frc.mk.injEq])
theorem eqPart31 (x y : Quantity) {d : Nat} : EqPart Tryz.prog (d + 5) 31 39 (eQuantity x) (eQuantity y) (decide (x = y)) :=
 (EqPart.struct (d := d + 4) (rs := [decide (x.V = y.V), decide (x.U = y.U)]) tyAgg31 Tryz.stoodInHeld31 Tryz.underlying31 (⟨by decide, ⟨_, (eFrc x.V), (eFrc y.V), rfl, rfl, rfl, rfl, eqPart27 _ _⟩, ⟨by decide, ⟨_, (eMUnit x.U), (eMUnit y.U), rfl, rfl, rfl, rfl, eqPart29 _ _⟩, trivial⟩⟩) rfl).cast
  (by cases x; cases y; rw [Bool.eq_iff_iff]; simp [Quantity.mk.injEq])
theorem eqAgg31 (x y : Quantity) : EqAgg Tryz.prog 31 (eQuantity x) (eQuantity y) (decide (x = y)) := EqAgg.ofPart (by kernel_rfl) tyAgg31 (eqPart31 x y (d := 9995)) rfl rfl
theorem und110 : Tryz.prog.underlying 110 = some (.slice 9) := Tryz.underlying110
theorem tySl110 : TySl Tryz.prog 110 9 1 16 [.str []] := ⟨Tryz.underlying110, ⟨Tryz.t9, _, by kernel_rfl, rfl, rfl, rfl, rfl, by decide, rfl⟩⟩
theorem goes126 : Goes Tryz.prog 126 := ⟨Tryz.call126⟩
theorem goes127 : Goes Tryz.prog 127 := ⟨Tryz.call127⟩
theorem goes128 : Goes Tryz.prog 128 := ⟨Tryz.call128⟩
theorem goes64 : Goes Tryz.prog 64 := ⟨Tryz.call64⟩
theorem goes14 : Goes Tryz.prog 14 := ⟨Tryz.call14⟩
theorem goes18 : Goes Tryz.prog 18 := ⟨Tryz.call18⟩
theorem goes39 : Goes Tryz.prog 39 := ⟨Tryz.call39⟩
theorem goes50 : Goes Tryz.prog 50 := ⟨Tryz.call50⟩
theorem goes51 : Goes Tryz.prog 51 := ⟨Tryz.call51⟩
theorem goes19 : Goes Tryz.prog 19 := ⟨Tryz.call19⟩
theorem goes11 : Goes Tryz.prog 11 := ⟨Tryz.call11⟩
theorem goes36 : Goes Tryz.prog 36 := ⟨Tryz.call36⟩
theorem goes40 : Goes Tryz.prog 40 := ⟨Tryz.call40⟩
theorem goes52 : Goes Tryz.prog 52 := ⟨Tryz.call52⟩
theorem eqAgg27 (x y : Frc) : EqAgg Tryz.prog 27 (eFrc x) (eFrc y) (decide (x = y)) := EqAgg.ofPart (by kernel_rfl) tyAgg27 (eqPart27 x y (d := 9996)) rfl rfl
theorem goes53 : Goes Tryz.prog 53 := ⟨Tryz.call53⟩
theorem goes15 : Goes Tryz.prog 15 := ⟨Tryz.call15⟩
theorem goes16 : Goes Tryz.prog 16 := ⟨Tryz.call16⟩
theorem goes10 : Goes Tryz.prog 10 := ⟨Tryz.call10⟩
def strconv_Itoa_S (F : Nat) (n0 : Int) : Option Str := itoa? n0
theorem strconv_Itoa_spec {F : Nat} {n0 : Int} {r : Str} (h : strconv_Itoa_S F n0 = some r) : Meets Tryz.prog (tabs mx) 72 [] [.one (.i n0)] (Is [] (.b (.one (.str r)))) := meets_Itoa Tryz.laysM171 (gb := 2) (by kernel_rfl) (by simp [tabs]) h
def strings_Repeat_S (F : Nat) (s0 : Str) (c0 : Int) : Option Str := repeat? s0 c0
theorem strings_Repeat_spec {F : Nat} {s0 : Str} {c0 : Int} {r : Str} (h : strings_Repeat_S F s0 c0 = some r) : Meets Tryz.prog (tabs mx) 126 [] [.one (.str s0), .one (.i c0)] (Is [] (.b (.one (.str r)))) := meets_Repeat Tryz.lays105 Tryz.Builder_Extra_105 h
def strings_Join_S (F : Nat) (l0 : List Str) (s0 : Str) : Option Str := join? l0 s0
theorem strings_Join_spec {F : Nat} {l0 : List Str} {s0 : Str} {r : Str} (h : strings_Join_S F l0 s0 = some r) : Meets Tryz.prog (tabs mx) 128 [] [.one (.sl 1 (l0.map eS)), .one (.str s0)] (Is [] (.b (.one (.str r)))) := meets_Join Tryz.lays156 Tryz.Builder_Extra_156 h
def strings_HasPrefix_S (F : Nat) (s0 : Str) (p0 : Str) : Option Bool := some (Lib.hasPrefix s0 p0)
theorem strings_HasPrefix_spec {F : Nat} {s0 : Str} {p0 : Str} {r : Bool} (h : strings_HasPrefix_S F s0 p0 = some r) : Meets Tryz.prog (tabs mx) 122 [] [.one (.str s0), .one (.str p0)] (Is [] (B r)) := meets_HasPrefix Tryz.lays99 h
def strings_Cut_S (F : Nat) (s0 : Str) (p0 : Str) : Option (Str × Str × Bool) := cut? s0 p0
theorem strings_Cut_spec {F : Nat} {s0 : Str} {p0 : Str} {r : Str × Str × Bool} (h : strings_Cut_S F s0 p0 = some r) : Meets Tryz.prog (tabs mx) 59 [] [.one (.str s0), .one (.str p0)] (Is [] (.tup [.one (.str r.1), .one (.str r.2.1), .one (.bool r.2.2)])) := meets_Cut Tryz.laysM145 (m := mx) (by simp [tabs, Tryz.laysM145_ren]) h
def w_Valid_S (F : Nat) (x0 : Big) : Option Bool :=
 if x0.Bad = true then (some ((decide (x0.W = A16.zero)) && (!x0.Neg))) else (some ((!(decide (x0.W = A16.zero))) || (!x0.Neg)))
theorem w_Valid_spec {F : Nat} {x0 : Big} {r : Bool} (h : w_Valid_S F x0 = some r) : Meets Tryz.prog (tabs mx) 166 [] [.agg (eBig x0)] (Is [] (.b (.one (.bool r)))) := by
 unfold w_Valid_S at h
 refine Meets.intro 23 Tryz.func166 Tryz.ntmps166 rfl (by simp) fun E => ?_
 show Tri _ E ⟨23, [], []⟩ _ ⟨[(0, .b (.agg (eBig x0)))], []⟩ _
 refine Tri.seq (Tri.regionL ?_)
 refine Oc (op_box (k := 101) rfl rfl) (Oc oa ?_)
 refine OpsL.nilS ⟨[(1, Pt 101 0)], [(101, .box 25 (eBig x0))]⟩ rfl (Tri.seq (Tri.regionL ?_))
 refine Oc (op_field_p tyFld25_2 rfl rfl) (Oc (lp tyAgg23) (Oc (op_buildA tyBuild23 rfl rfl) (Oc (op_eql_agg (eqAgg23 x0.W A16.zero) rfl rfl) (Oc oa ?_))))
 refine OpsL.nilS ⟨[(1, _), (3, B (decide (x0.W = A16.zero)))], [(101, _)]⟩ rfl (Tri.seq (Tri.seq (Tri.regionL ?_)))
 refine Oc (op_field_p tyFld25_0 rfl rfl) (Oc (op_load_p1 tyOne4 rfl rfl rfl) ?_)
 refine OpsL.nilS ⟨[(1, _), (3, _), (9, B x0.Bad)], [(101, _)]⟩ rfl (Tri.ite h rfl (fun _ h => ?_) (fun _ h => ?_))
 ·refine Tri.seq (Tri.regionL ?_)
  refine Oc om (Oc om ?_)
  refine CgT (decide (x0.W = A16.zero)) [] (fun g1 => trivial) (fun g1 => op_field_p tyFld25_1 rfl rfl) (CgT (decide (x0.W = A16.zero)) [12] (fun g2 => ⟨g2, trivial⟩) (fun g2 => op_load_p1 tyOne4 rfl rfl rfl) (CgT (decide (x0.W = A16.zero)) [13] (fun g3 => ⟨g3, trivial⟩) (fun g3 => op_not rfl) (Oc (op_pick_and (fun e => e) rfl rfl rfl rfl) (Oc oa ?_))))
  refine OpsL.nilS ⟨[(2, B ((decide (x0.W = A16.zero)) && (!x0.Neg)))], []⟩ rfl (Tri.ret (Fin.then_ret ?_))
  obtain rfl := Option.some.inj h
  refine Fin.keepS ⟨[(2, _)], []⟩ rfl (Fin.result' [.one (.bool ((decide (x0.W = A16.zero)) && (!x0.Neg)))] (.inl rfl) rfl (.cons (.tmp rfl) .nil) ⟨rfl, rfl⟩)
 ·refine Tri.skip (Fin.keepS ⟨[(1, _), (3, _)], [(101, _)]⟩ rfl (Fin.then (Tri.seq (Tri.regionL ?_))))
  refine Oc om (Oc (op_not rfl) (Oc om ?_))
  refine CgF (!(!(decide (x0.W = A16.zero)))) [] (fun g4 => trivial) (fun g4 => op_field_p tyFld25_1 rfl rfl) (CgF (!(!(decide (x0.W = A16.zero)))) [19] (fun g5 => ⟨g5, trivial⟩) (fun g5 => op_load_p1 tyOne4 rfl rfl rfl) (CgF (!(!(decide (x0.W = A16.zero)))) [20] (fun g6 => ⟨g6, trivial⟩) (fun g6 => op_not rfl) (Oc (op_pick_or (fun e => by rw [e]; rfl) rfl rfl rfl rfl) (Oc oa ?_))))
  refine OpsL.nilS ⟨[(2, B ((!(decide (x0.W = A16.zero))) || (!x0.Neg)))], []⟩ rfl (Tri.ret ?_)
  obtain rfl := Option.some.inj h
  refine Fin.keepS ⟨[(2, _)], []⟩ rfl (Fin.result' [.one (.bool ((!(decide (x0.W = A16.zero))) || (!x0.Neg)))] (.inl rfl) rfl (.cons (.tmp rfl) .nil) ⟨rfl, rfl⟩)
def q_good_S (F : Nat) (x0 : Big) : Option Bool :=
 (gcall (!x0.Bad) (w_Valid_S F x0)).bind fun x_1 => some ((!x0.Bad) && x_1)
theorem q_good_spec {F : Nat} {x0 : Big} {r : Bool} (h : q_good_S F x0 = some r) : Meets Tryz.prog (tabs mx) 123 [] [.agg (eBig x0)] (Is [] (.b (.one (.bool r)))) := by
 unfold q_good_S at h
 refine Meets.intro 10 Tryz.func123 Tryz.ntmps123 rfl (by simp) fun E => ?_
 show Tri _ E ⟨10, [], []⟩ _ ⟨[(0, .b (.agg (eBig x0)))], []⟩ _
 refine Tri.seq (Tri.regionL ?_)
 refine Oc (op_box (k := 101) rfl rfl) (Oc oa ?_)
 refine OpsL.nilS ⟨[(1, Pt 101 0)], [(101, .box 25 (eBig x0))]⟩ rfl (Tri.seq (Tri.regionL ?_))
 refine Oc (op_field_p tyFld25_0 rfl rfl) (Oc (op_load_p1 tyOne4 rfl rfl rfl) (Oc (op_not rfl) (Oc om ?_)))
 refine CgT (!x0.Bad) [] (fun g1 => trivial) (fun g1 => lp tyAgg25) (OpsL.keepS ⟨[(6, B (!x0.Bad)), (7, .opt (!x0.Bad) (.agg (eBig x0)))], []⟩ rfl ?_)
 obtain ⟨x_1, e3, h⟩ := bnd h
 refine CgT (!x0.Bad) [7] (fun g2 => ⟨g2, trivial⟩) (fun g2 => op_call0 (w_Valid_spec (gc e3 g2)) goes166 rfl rfl) (Oc (op_pick_and (fun e => e) rfl rfl rfl rfl) (Oc oa ?_))
 refine OpsL.nilS ⟨[(2, B ((!x0.Bad) && x_1))], []⟩ rfl (Tri.ret ?_)
 obtain rfl := Option.some.inj h
 refine Fin.keepS ⟨[(2, _)], []⟩ rfl (Fin.result' [.one (.bool ((!x0.Bad) && x_1))] (.inl rfl) rfl (.cons (.tmp rfl) .nil) ⟨rfl, rfl⟩)
def w_good_S (F : Nat) (l0 : List Big) : Option Bool :=
 Option.bind (iter F (fun x_1 => if (decide (x_1 < (l0.length : Int))) = true then ((idx? l0 x_1).bind fun x_2 => (gcall (!x_2.Bad) (w_Valid_S F x_2)).bind fun x_3 => if (x_2.Bad || (!x_3)) = true then (some (.inr (.inr false))) else (some (.inl (IntKind.i64.wrap (x_1 + 1))))) else (some (.inr (.inl ())))) 0) (alt2 (fun _ => some true) (fun y => some y))
theorem w_good_spec {F : Nat} {l0 : List Big} {r : Bool} (h : w_good_S F l0 = some r) : Meets Tryz.prog (tabs mx) 124 [] [.one (.sl 18 (l0.map eBig))] (Is [] (.b (.one (.bool r)))) := by
 unfold w_good_S at h
 refine Meets.intro 19 Tryz.func124 Tryz.ntmps124 rfl (by simp) fun E => ?_
 show Tri _ E ⟨19, [], []⟩ _ ⟨[(0, .b (.one (.sl 18 (l0.map eBig))))], []⟩ _
 refine Tri.seq (Tri.regionL ?_)
 refine Oc oa (OpsL.nilS ⟨[(0, .b (.one (.sl 18 (l0.map eBig))))], []⟩ rfl ?_)
 obtain ⟨v1, h2, h⟩ := bnd h
 refine Tri.seqJ (v := v1) (fun (_ : Unit) => ⟨[], []⟩) (fun z => .inl z) ?_ ?_
 ·refine Tri.seq (Tri.regionL ?_)
  refine Oc om (Oc (op_len_e' und170 rfl (List.length_map _)) (Oc om ?_))
  refine OpsL.nilS ⟨[(5, .b (.one (.sl 18 (l0.map eBig)))), (6, I (l0.length : Int)), (7, I 0)], []⟩ rfl (Tri.block (Tri.loopJ h2 (fun (x_1 : Int) => ⟨[(5, .b (.one (.sl 18 (l0.map eBig)))), (6, I (l0.length : Int)), (7, I x_1)], []⟩) [5, 6, 7] [] rfl ?_))
  rintro x_1 o3 h4 hy5
  refine Tri.seq (Tri.regionL ?_)
  refine Oc (op_lss rfl rfl) (OpsL.nilS ⟨[(5, _), (6, _), (7, _), (8, B (decide (x_1 < (l0.length : Int))))], []⟩ rfl (Tri.seq (Tri.ite h4 rfl (fun _ h4 => ?_) (fun _ h4 => ?_))))
  ·refine Tri.skip (Fin.keepS ⟨[(5, _), (6, _), (7, _)], []⟩ rfl (Fin.then (Tri.seq (Tri.block (Tri.seq (Tri.regionL ?_))))))
   obtain ⟨x_2, e6, h4⟩ := bnd h4
   refine Oc (op_index_e tySl170 (ix_lo e6) (ix_map (e := eBig) e6) rfl rfl) (Oc (op_load_e tyAgg25 rfl rfl rfl) (Oc (op_alloc (k := 101) tyZero25 rfl) (Oc (op_store_p tyAgg25 rfl rfl rfl rfl (Nat.le_of_ble_eq_true rfl) rfl) ?_)))
   refine OpsL.nilS ⟨[(4, Pt 101 0), (5, _), (6, _), (7, _)], [(101, .box 25 (eBig x_2))]⟩ rfl (Tri.seq (Tri.regionL ?_))
   refine Oc (op_field_p tyFld25_0 rfl rfl) (Oc (op_load_p1 tyOne4 rfl rfl rfl) (Oc om ?_))
   refine CgF (!x_2.Bad) [] (fun g7 => trivial) (fun g7 => lp tyAgg25) ?_
   obtain ⟨x_3, e9, h4⟩ := bnd h4
   refine CgF (!x_2.Bad) [14] (fun g8 => ⟨g8, trivial⟩) (fun g8 => op_call0 (w_Valid_spec (gc e9 g8)) goes166 rfl rfl) (CgF (!x_2.Bad) [15] (fun g10 => ⟨g10, trivial⟩) (fun g10 => op_not rfl) (Oc (op_pick_or (fun e => by rw [e]; rfl) rfl rfl rfl rfl) (OpsL.nilS ⟨[(5, _), (6, _), (7, _), (17, B (x_2.Bad || (!x_3)))], []⟩ rfl (Tri.ite h4 rfl (fun _ h4 => ?_) (fun _ h4 => ?_)))))
   ·refine Tri.seq (Tri.regionL ?_)
    refine Oc oa (OpsL.nilS ⟨[(2, B false)], []⟩ rfl (Tri.ret (Fin.block_ret (Fin.then_ret ?_))))
    obtain rfl := hy5 _ (Option.some.inj h4).symm
    refine Fin.then_ret (Fin.block_ret (Fin.then_ret ?_))
    obtain rfl := Option.some.inj h
    refine Fin.keepS ⟨[(2, _)], []⟩ rfl (Fin.result' [.one (.bool false)] (.inl rfl) rfl (.cons (.tmp rfl) .nil) ⟨rfl, rfl⟩)
   ·refine Tri.skip (Fin.block_normal (Fin.keepS ⟨[(5, _), (6, _), (7, _)], []⟩ rfl (Fin.then (Tri.regionL ?_))))
    refine Oc (op_add rfl rfl) (Oc om ?_)
    refine OpsL.nil ?_
    exact Fin.againJ [5, 6, 7] [] (IntKind.i64.wrap (x_1 + 1)) (Option.some.inj h4) rfl
  ·refine Tri.exit (Fin.then_exit ?_)
   obtain rfl := hy5 _ (Option.some.inj h4).symm
   refine Fin.then_exit (Fin.block_exit ?_)
   exact Fin.join [] [] () rfl rfl
 ·rintro _ hv
  subst v1
  refine Tri.seq (Tri.regionL ?_)
  refine Oc oa (OpsL.nilS ⟨[(2, B true)], []⟩ rfl (Tri.ret ?_))
  obtain rfl := Option.some.inj h
  refine Fin.keepS ⟨[(2, _)], []⟩ rfl (Fin.result' [.one (.bool true)] (.inl rfl) rfl (.cons (.tmp rfl) .nil) ⟨rfl, rfl⟩)
def w_Sign_S (F : Nat) (x0 : Big) : Option Int :=
 (w_good_S F [x0]).bind fun x_1 => if ((!x_1) || (decide (x0.W = A16.zero))) = true then (some 0) else (if x0.Neg = true then (some (-1)) else (some 1))
theorem w_Sign_spec {F : Nat} {x0 : Big} {r : Int} (h : w_Sign_S F x0 = some r) : Meets Tryz.prog (tabs mx) 90 [] [.agg (eBig x0)] (Is [] (.b (.one (.i r)))) := by
 unfold w_Sign_S at h
 refine Meets.intro 17 Tryz.func90 Tryz.ntmps90 rfl (by simp) fun E => ?_
 show Tri _ E ⟨17, [], []⟩ _ ⟨[(0, .b (.agg (eBig x0)))], []⟩ _
 refine Tri.seq (Tri.regionL ?_)
 refine Oc (op_box (k := 101) rfl rfl) (Oc oa ?_)
 refine OpsL.nilS ⟨[(1, Pt 101 0)], [(101, .box 25 (eBig x0))]⟩ rfl (Tri.seq (Tri.block (Tri.seq (Tri.regionL ?_))))
 refine Oc (lp tyAgg25) (Oc (op_buildSlice (k := 102) (es := [x0].map eBig) tySl170 rfl rfl (uni_map fun _ => rfl) rfl (by decide) (by decide) rfl) ?_)
 obtain ⟨x_1, e1, h⟩ := bnd h
 refine Oc (op_callB (w_good_spec e1) goes124 rfl CP.flat_bool) (Oc (op_not rfl) ?_)
 refine OpsL.keepS ⟨[(1, _), (7, B (!x_1))], [(101, _)]⟩ rfl (Oc om (CgF (!(!x_1)) [] (fun g2 => by exact trivial) (fun g2 => op_field_p tyFld25_2 rfl rfl) (CgF (!(!x_1)) [9] (fun g3 => by exact ⟨g3, trivial⟩) (fun g3 => lp tyAgg23) (CgF (!(!x_1)) [] (fun g4 => by exact trivial) (fun g4 => op_buildA tyBuild23 rfl rfl) (CgF (!(!x_1)) [10, 11] (fun g5 => by exact ⟨g5, g5, trivial⟩) (fun g5 => op_eql_agg (eqAgg23 x0.W A16.zero) rfl rfl) ?_)))))
 refine Oc (op_pick_or (fun e => by rw [e]; rfl) rfl rfl rfl rfl) (Oc oa ?_)
 refine OpsL.nilS ⟨[(1, _), (3, B ((!x_1) || (decide (x0.W = A16.zero))))], [(101, _)]⟩ rfl (Tri.ite h rfl (fun _ h => ?_) (fun _ h => ?_))
 ·refine Tri.seq (Tri.regionL ?_)
  refine Oc oa (OpsL.nilS ⟨[(2, I 0)], []⟩ rfl (Tri.ret (Fin.block_ret (Fin.then_ret ?_))))
  obtain rfl := Option.some.inj h
  refine Fin.keepS ⟨[(2, _)], []⟩ rfl (Fin.result' [.one (.i 0)] (.inl rfl) rfl (.cons (.tmp rfl) .nil) ⟨rfl, rfl⟩)
 ·refine Tri.seq (Tri.regionL ?_)
  refine Oc (op_field_p tyFld25_1 rfl rfl) (Oc (op_load_p1 tyOne4 rfl rfl rfl) (Oc oa ?_))
  refine OpsL.nilS ⟨[(14, B x0.Neg)], []⟩ rfl (Tri.ite h rfl (fun _ h => ?_) (fun _ h => ?_))
  ·refine Tri.seq (Tri.regionL ?_)
   refine Oc oa (OpsL.nilS ⟨[(2, I (-1))], []⟩ rfl (Tri.ret (Fin.block_ret (Fin.then_ret ?_))))
   obtain rfl := Option.some.inj h
   refine Fin.keepS ⟨[(2, _)], []⟩ rfl (Fin.result' [.one (.i (-1))] (.inl rfl) rfl (.cons (.tmp rfl) .nil) ⟨rfl, rfl⟩)
  ·refine Tri.skip (Fin.block_normal (Fin.keepS ⟨[], []⟩ rfl (Fin.then (Tri.seq (Tri.regionL ?_)))))
   refine Oc oa (OpsL.nilS ⟨[(2, I 1)], []⟩ rfl (Tri.ret ?_))
   obtain rfl := Option.some.inj h
   refine Fin.keepS ⟨[(2, _)], []⟩ rfl (Fin.result' [.one (.i 1)] (.inl rfl) rfl (.cons (.tmp rfl) .nil) ⟨rfl, rfl⟩)
def w_Bad_S (F : Nat) : Option Big :=
 some (⟨true, false, A16.zero⟩ : Big)
theorem w_Bad_spec {F : Nat} {r : Big} (h : w_Bad_S F = some r) : Meets Tryz.prog (tabs mx) 136 [] [] (Is [] (.b (.agg (eBig r)))) := by
 unfold w_Bad_S at h
 refine Meets.intro 2 Tryz.func136 Tryz.ntmps136 rfl (by simp) fun E => ?_
 show Tri _ E ⟨2, [], []⟩ _ ⟨[], []⟩ _
 refine Tri.seq (Tri.regionL ?_)
 refine Oc (op_alloc (k := 101) tyZero25 rfl) (OpsL.nilS ⟨[(0, Pt 101 0)], [(101, .box 25 zBig)]⟩ rfl (Tri.seq (Tri.regionL ?_)))
 refine Oc (op_build tyBuild25 rfl rfl) (Oc (op_store_p tyAgg25 rfl rfl rfl rfl (Nat.le_of_ble_eq_true rfl) rfl) ?_)
 refine OpsL.nilS ⟨[(0, _)], [(101, .box 25 (.bool true :: .bool false :: (eW A16.zero)))]⟩ rfl (Tri.ret ?_)
 obtain rfl := Option.some.inj h
 refine Fin.keepS ⟨[(0, _)], [(101, _)]⟩ rfl (Fin.result' [.agg (.bool true :: .bool false :: (eW A16.zero))] (.inl rfl) rfl (.cons (.agg tyAgg25 rfl rfl rfl rfl) .nil) ⟨rfl, rfl⟩)
def w_size_S (F : Nat) (w0 : A16) : Option Int :=
 Option.bind (iter F (fun n_2 => (gcall (decide (0 < n_2)) (idx? w0.l (IntKind.i64.wrap (n_2 - 1)))).bind fun x_4 => if ((decide (0 < n_2)) && (decide (x_4 = 0))) = true then (some (.inl (IntKind.i64.wrap (n_2 - 1)))) else (some (.inr n_2))) 16) (fun n_1 => some n_1)
theorem w_size_spec {F : Nat} {w0 : A16} {r : Int} (h : w_size_S F w0 = some r) : Meets Tryz.prog (tabs mx) 137 [] [.agg (eW w0)] (Is [] (.b (.one (.i r)))) := by
 unfold w_size_S at h
 refine Meets.intro 16 Tryz.func137 Tryz.ntmps137 rfl (by simp) fun E => ?_
 show Tri _ E ⟨16, [], []⟩ _ ⟨[(0, .b (.agg (eW w0)))], []⟩ _
 refine Tri.seq (Tri.regionL ?_)
 refine Oc (op_box (k := 101) rfl rfl) (Oc oa ?_)
 refine OpsL.nilS ⟨[(1, Pt 101 0)], [(101, .box 23 (eW w0))]⟩ rfl (Tri.seq (Tri.regionL ?_))
 refine Oc oa (OpsL.nilS ⟨[(1, _), (3, I 16)], [(101, _)]⟩ rfl ?_)
 obtain ⟨v1, h2, h⟩ := bnd h
 refine Tri.seqJ (v := v1) (fun (n_1 : Int) => ⟨[(3, I n_1)], []⟩) (fun z => z) ?_ ?_
 ·refine Tri.block (Tri.loopJ h2 (fun (n_2 : Int) => ⟨[(1, Pt 101 0), (3, I n_2)], [(101, .box 23 (eW w0))]⟩) [1, 3] [101] rfl ?_)
  rintro n_2 o3 h4 hy5
  refine Tri.seq (Tri.seq (Tri.regionL ?_))
  refine Oc om (Oc (op_gtr rfl rfl) (Oc om ?_))
  refine CgT (decide (0 < n_2)) [] (fun g6 => trivial) (fun g6 => om) (CgT (decide (0 < n_2)) [7] (fun g7 => by exact ⟨g7, trivial⟩) (fun g7 => op_sub rfl rfl) ?_)
  obtain ⟨x_4, e9, h4⟩ := bnd h4
  refine CgT (decide (0 < n_2)) [8] (fun g8 => ⟨g8, trivial⟩) (fun g8 => op_index_p tyArr23 (ix_lo (gc e9 g8)) (ix_hi (gc e9 g8)) rfl rfl rfl) (CgT (decide (0 < n_2)) [9] (fun g10 => ⟨g10, trivial⟩) (fun g10 => op_load_p1 tyOne22 rfl rfl (arr_get (post := []) (k := .u32) [] (gc e9 g10) rfl rfl rfl)) (CgT (decide (0 < n_2)) [10] (fun g11 => ⟨g11, trivial⟩) (fun g11 => op_eql rfl rfl) (Oc (op_pick_and (fun e => e) rfl rfl rfl rfl) (OpsL.nilS ⟨[(1, _), (3, _), (12, B ((decide (0 < n_2)) && (decide (x_4 = 0))))], [(101, _)]⟩ rfl (Tri.ite h4 rfl (fun _ h4 => ?_) (fun _ h4 => ?_))))))
  ·refine Tri.skip (Fin.keepS ⟨[(1, _), (3, _)], [(101, _)]⟩ rfl (Fin.then (Tri.block (Tri.regionL ?_))))
   refine Oc om (Oc (op_sub rfl rfl) (Oc oa ?_))
   refine OpsL.nil (Fin.block_normal ?_)
   exact Fin.againJ [1, 3] [101] (IntKind.i64.wrap (n_2 - 1)) (Option.some.inj h4) rfl
  ·refine Tri.exit (Fin.then_exit ?_)
   obtain rfl := hy5 _ (Option.some.inj h4).symm
   refine Fin.then_exit (Fin.block_exit ?_)
   exact Fin.join [3] [] n_2 rfl rfl
 ·rintro n_1 hv
  subst v1
  refine Tri.seq (Tri.regionL ?_)
  refine Oc om (Oc oa ?_)
  refine OpsL.nilS ⟨[(2, I n_1)], []⟩ rfl (Tri.ret ?_)
  obtain rfl := Option.some.inj h
  refine Fin.keepS ⟨[(2, _)], []⟩ rfl (Fin.result' [.one (.i n_1)] (.inl rfl) rfl (.cons (.tmp rfl) .nil) ⟨rfl, rfl⟩)
def w_signed_S (F : Nat) (neg0 : Bool) (w0 : A16) : Option Big :=
 some (⟨false, neg0 && (decide (w0 ≠ A16.zero)), w0⟩ : Big)
theorem w_signed_spec {F : Nat} {neg0 : Bool} {w0 : A16} {r : Big} (h : w_signed_S F neg0 w0 = some r) : Meets Tryz.prog (tabs mx) 135 [] [.one (.bool neg0), .agg (eW w0)] (Is [] (.b (.agg (eBig r)))) := by
 unfold w_signed_S at h
 refine Meets.intro 13 Tryz.func135 Tryz.ntmps135 rfl (by simp) fun E => ?_
 show Tri _ E ⟨13, [], []⟩ _ ⟨[(0, B neg0), (1, .b (.agg (eW w0)))], []⟩ _
 refine Tri.seq (Tri.regionL ?_)
 refine Oc (op_box (k := 101) rfl rfl) (Oc (op_alloc (k := 102) tyZero25 rfl) ?_)
 refine OpsL.nilS ⟨[(0, B neg0), (3, Pt 101 0), (4, Pt 102 0)], [(101, .box 23 (eW w0)), (102, .box 25 zBig)]⟩ rfl (Tri.seq (Tri.regionY mixed 8 [B neg0, B neg0, .opt neg0 (.agg (eW w0)), .opt neg0 (.agg (eW A16.zero)), .opt neg0 (.one (.bool (decide (w0 ≠ A16.zero)))), B (neg0 && (decide (w0 ≠ A16.zero))), .b (.agg (eW w0)), .b (.agg (.bool false :: .bool (neg0 && (decide (w0 ≠ A16.zero))) :: (eW w0)))] [4] [102] (s' := ⟨[(4, _)], [(102, .box 25 (.bool false :: .bool (neg0 && (decide (w0 ≠ A16.zero))) :: (eW w0)))]⟩) rfl ⟨fun _ => .p om, fun _ => .p om, fun _ => by exact .guard neg0 1 [] (.plain rfl) (eq_t _) rfl rfl (fun g1 => trivial) (fun g1 => lp tyAgg23), fun _ => by exact .guard neg0 1 [] (.plain rfl) (eq_t _) rfl rfl (fun g2 => trivial) (fun g2 => op_buildA tyBuild23 rfl rfl), fun _ => by exact .guard neg0 3 [7, 8] (.plain rfl) (eq_t _) rfl rfl (fun g3 => ⟨g3, g3, trivial⟩) (fun g3 => op_neq_agg (eqAgg23 w0 A16.zero) rfl rfl neg_dec), fun _ => .p (op_pick_and (fun e => e) rfl rfl rfl rfl), fun _ => .p (lp tyAgg23), fun _ => .p (op_build tyBuild25 rfl rfl), trivial⟩ ⟨_, by exact .p (op_store_p tyAgg25 rfl rfl rfl rfl (Nat.le_of_ble_eq_true rfl) rfl), rfl⟩ rfl (Tri.ret ?_)))
 obtain rfl := Option.some.inj h
 refine Fin.keepS ⟨[(4, _)], [(102, _)]⟩ rfl (Fin.result' [.agg (.bool false :: .bool (neg0 && (decide (w0 ≠ A16.zero))) :: (eW w0))] (.inl rfl) rfl (.cons (.agg tyAgg25 rfl rfl rfl rfl) .nil) ⟨rfl, rfl⟩)
def cmp_isNaN_S (F : Nat) (x0 : Int) : Option Bool :=
 some (decide (x0 ≠ x0))
theorem cmp_isNaN_spec {F : Nat} {x0 : Int} {r : Bool} (h : cmp_isNaN_S F x0 = some r) : Meets Tryz.prog (tabs mx) 203 [] [.one (.int .u32 x0)] (Is [] (.b (.one (.bool r)))) := by
 unfold cmp_isNaN_S at h
 refine Meets.intro 6 Tryz.func203 Tryz.ntmps203 rfl (by simp) fun E => ?_
 show Tri _ E ⟨6, [], []⟩ _ ⟨[(0, .b (.one (.int .u32 x0)))], []⟩ _
 refine Tri.seq (Tri.regionL ?_)
 refine Oc oa (OpsL.nilS ⟨[(0, .b (.one (.int .u32 x0)))], []⟩ rfl (Tri.seq (Tri.regionL ?_)))
 refine Oc om (Oc om (Oc (op_neq rfl rfl) (Oc oa ?_)))
 refine OpsL.nilS ⟨[(2, B (decide (x0 ≠ x0)))], []⟩ rfl (Tri.ret ?_)
 obtain rfl := Option.some.inj h
 refine Fin.keepS ⟨[(2, _)], []⟩ rfl (Fin.result' [.one (.bool (decide (x0 ≠ x0)))] (.inl rfl) rfl (.cons (.tmp rfl) .nil) ⟨rfl, rfl⟩)
def cmp_Compare_S (F : Nat) (x0 : Int) (y0 : Int) : Option Int :=
 (cmp_isNaN_S F x0).bind fun x_1 => (cmp_isNaN_S F y0).bind fun x_2 => if x_1 = true then (if x_2 = true then (some 0) else (some (-1))) else (if x_2 = true then (some 1) else (if (decide (x0 < y0)) = true then (some (-1)) else (if (decide (y0 < x0)) = true then (some 1) else (some 0))))
theorem cmp_Compare_spec {F : Nat} {x0 : Int} {y0 : Int} {r : Int} (h : cmp_Compare_S F x0 y0 = some r) : Meets Tryz.prog (tabs mx) 183 [] [.one (.int .u32 x0), .one (.int .u32 y0)] (Is [] (.b (.one (.i r)))) := by
 unfold cmp_Compare_S at h
 refine Meets.intro 20 Tryz.func183 Tryz.ntmps183 rfl (by simp) fun E => ?_
 show Tri _ E ⟨20, [], []⟩ _ ⟨[(0, .b (.one (.int .u32 x0))), (1, .b (.one (.int .u32 y0)))], []⟩ _
 refine Tri.seq (Tri.regionL ?_)
 refine Oc oa (OpsL.nilS ⟨[(0, .b (.one (.int .u32 x0))), (1, .b (.one (.int .u32 y0)))], []⟩ rfl (Tri.seq (Tri.regionL ?_)))
 refine Oc om ?_
 obtain ⟨x_1, e1, h⟩ := bnd h
 refine Oc (op_call0 (cmp_isNaN_spec e1) goes203 rfl rfl) (Oc oa ?_)
 refine OpsL.nilS ⟨[(0, _), (1, _), (5, B x_1)], []⟩ rfl (Tri.seq (Tri.regionL ?_))
 refine Oc om ?_
 obtain ⟨x_2, e2, h⟩ := bnd h
 refine Oc (op_call0 (cmp_isNaN_spec e2) goes203 rfl rfl) (Oc oa ?_)
 refine OpsL.nilS ⟨[(0, _), (1, _), (5, _), (6, B x_2)], []⟩ rfl (Tri.seq (Tri.seq (Tri.regionL ?_)))
 refine Oc om (OpsL.nilS ⟨[(0, _), (1, _), (6, _), (11, B x_1)], []⟩ rfl (Tri.ite h rfl (fun _ h => ?_) (fun _ h => ?_)))
 ·refine Tri.seq (Tri.seq (Tri.regionL ?_))
  refine Oc om (OpsL.nilS ⟨[(12, B x_2)], []⟩ rfl (Tri.ite h rfl (fun _ h => ?_) (fun _ h => ?_)))
  ·refine Tri.seq (Tri.regionL ?_)
   refine Oc oa (OpsL.nilS ⟨[(4, I 0)], []⟩ rfl (Tri.ret (Fin.then_ret (Fin.then_ret ?_))))
   obtain rfl := Option.some.inj h
   refine Fin.keepS ⟨[(4, _)], []⟩ rfl (Fin.result' [.one (.i 0)] (.inl rfl) rfl (.cons (.tmp rfl) .nil) ⟨rfl, rfl⟩)
  ·refine Tri.skip (Fin.keepS ⟨[], []⟩ rfl (Fin.then (Tri.seq (Tri.regionL ?_))))
   refine Oc oa (OpsL.nilS ⟨[(4, I (-1))], []⟩ rfl (Tri.ret (Fin.then_ret ?_)))
   obtain rfl := Option.some.inj h
   refine Fin.keepS ⟨[(4, _)], []⟩ rfl (Fin.result' [.one (.i (-1))] (.inl rfl) rfl (.cons (.tmp rfl) .nil) ⟨rfl, rfl⟩)
 ·refine Tri.skip (Fin.keepS ⟨[(0, _), (1, _), (6, _)], []⟩ rfl (Fin.then (Tri.seq (Tri.seq (Tri.regionL ?_)))))
  refine Oc om (OpsL.nilS ⟨[(0, _), (1, _), (13, B x_2)], []⟩ rfl (Tri.ite h rfl (fun _ h => ?_) (fun _ h => ?_)))
  ·refine Tri.seq (Tri.regionL ?_)
   refine Oc oa (OpsL.nilS ⟨[(4, I 1)], []⟩ rfl (Tri.ret (Fin.then_ret ?_)))
   obtain rfl := Option.some.inj h
   refine Fin.keepS ⟨[(4, _)], []⟩ rfl (Fin.result' [.one (.i 1)] (.inl rfl) rfl (.cons (.tmp rfl) .nil) ⟨rfl, rfl⟩)
  ·refine Tri.skip (Fin.keepS ⟨[(0, _), (1, _)], []⟩ rfl (Fin.then (Tri.seq (Tri.seq (Tri.regionL ?_)))))
   refine Oc om (Oc om (Oc (op_lss rfl rfl) ?_))
   refine OpsL.nilS ⟨[(0, _), (1, _), (16, B (decide (x0 < y0)))], []⟩ rfl (Tri.ite h rfl (fun _ h => ?_) (fun _ h => ?_))
   ·refine Tri.seq (Tri.regionL ?_)
    refine Oc oa (OpsL.nilS ⟨[(4, I (-1))], []⟩ rfl (Tri.ret (Fin.then_ret ?_)))
    obtain rfl := Option.some.inj h
    refine Fin.keepS ⟨[(4, _)], []⟩ rfl (Fin.result' [.one (.i (-1))] (.inl rfl) rfl (.cons (.tmp rfl) .nil) ⟨rfl, rfl⟩)
   ·refine Tri.skip (Fin.keepS ⟨[(0, _), (1, _)], []⟩ rfl (Fin.then (Tri.seq (Tri.seq (Tri.regionL ?_)))))
    refine Oc om (Oc om (Oc (op_gtr rfl rfl) ?_))
    refine OpsL.nilS ⟨[(19, B (decide (y0 < x0)))], []⟩ rfl (Tri.ite h rfl (fun _ h => ?_) (fun _ h => ?_))
    ·refine Tri.seq (Tri.regionL ?_)
     refine Oc oa (OpsL.nilS ⟨[(4, I 1)], []⟩ rfl (Tri.ret (Fin.then_ret ?_)))
     obtain rfl := Option.some.inj h
     refine Fin.keepS ⟨[(4, _)], []⟩ rfl (Fin.result' [.one (.i 1)] (.inl rfl) rfl (.cons (.tmp rfl) .nil) ⟨rfl, rfl⟩)
    ·refine Tri.skip (Fin.keepS ⟨[], []⟩ rfl (Fin.then (Tri.seq (Tri.regionL ?_))))
     refine Oc oa (OpsL.nilS ⟨[(4, I 0)], []⟩ rfl (Tri.ret ?_))
     obtain rfl := Option.some.inj h
     refine Fin.keepS ⟨[(4, _)], []⟩ rfl (Fin.result' [.one (.i 0)] (.inl rfl) rfl (.cons (.tmp rfl) .nil) ⟨rfl, rfl⟩)
def w_order_S (F : Nat) (a0 : A16) (b0 : A16) : Option Int :=
 Option.bind (iter F (fun k_1 => if (decide (0 ≤ k_1)) = true then ((idx? a0.l k_1).bind fun x_2 => (idx? b0.l k_1).bind fun x_3 => if (decide (x_2 ≠ x_3)) = true then ((idx? a0.l k_1).bind fun x_4 => (idx? b0.l k_1).bind fun x_5 => (cmp_Compare_S F x_4 x_5).bind fun x_6 => some (.inr (.inr x_6))) else (some (.inl (IntKind.i64.wrap (k_1 - 1))))) else (some (.inr (.inl ())))) 15) (alt2 (fun _ => some 0) (fun y => some y))
theorem w_order_spec {F : Nat} {a0 : A16} {b0 : A16} {r : Int} (h : w_order_S F a0 b0 = some r) : Meets Tryz.prog (tabs mx) 142 [] [.agg (eW a0), .agg (eW b0)] (Is [] (.b (.one (.i r)))) := by
 unfold w_order_S at h
 refine Meets.intro 24 Tryz.func142 Tryz.ntmps142 rfl (by simp) fun E => ?_
 show Tri _ E ⟨24, [], []⟩ _ ⟨[(0, .b (.agg (eW a0))), (1, .b (.agg (eW b0)))], []⟩ _
 refine Tri.seq (Tri.regionL ?_)
 refine Oc (op_box (k := 101) rfl rfl) (Oc (op_box (k := 102) rfl rfl) (Oc oa ?_))
 refine OpsL.nilS ⟨[(2, Pt 101 0), (3, Pt 102 0)], [(101, .box 23 (eW a0)), (102, .box 23 (eW b0))]⟩ rfl ?_
 obtain ⟨v1, h2, h⟩ := bnd h
 refine Tri.seqJ (v := v1) (fun (_ : Unit) => ⟨[], []⟩) (fun z => .inl z) ?_ ?_
 ·refine Tri.seq (Tri.regionL ?_)
  refine Oc oa (OpsL.nilS ⟨[(2, _), (3, _), (5, I 15)], [(101, _), (102, _)]⟩ rfl (Tri.block (Tri.loopJ h2 (fun (k_1 : Int) => ⟨[(2, Pt 101 0), (3, Pt 102 0), (5, I k_1)], [(101, .box 23 (eW a0)), (102, .box 23 (eW b0))]⟩) [2, 3, 5] [101, 102] rfl ?_)))
  rintro k_1 o3 h4 hy5
  refine Tri.seq (Tri.seq (Tri.regionL ?_))
  refine Oc om (Oc (op_geq rfl rfl) ?_)
  refine OpsL.nilS ⟨[(2, _), (3, _), (5, _), (7, B (decide (0 ≤ k_1)))], [(101, _), (102, _)]⟩ rfl (Tri.ite h4 rfl (fun _ h4 => ?_) (fun _ h4 => ?_))
  ·refine Tri.skip (Fin.keepS ⟨[(2, _), (3, _), (5, _)], [(101, _), (102, _)]⟩ rfl (Fin.then (Tri.seq (Tri.block (Tri.seq ?_)))))
   refine Tri.keepS ⟨[(2, _), (3, _), (5, _)], [(101, _), (102, _)]⟩ rfl ?_
   obtain ⟨x_2, e6, h4⟩ := bnd h4
   obtain ⟨x_3, e7, h4⟩ := bnd h4
   refine Tri.regionY mixed 7 [I k_1, .b (.ptr 101 (0 + (k_1 : Int).toNat * 1)), .b (.one (.int .u32 x_2)), I k_1, .b (.ptr 102 (0 + (k_1 : Int).toNat * 1)), .b (.one (.int .u32 x_3)), B (decide (x_2 ≠ x_3))] [2, 3, 5, 16] [101, 102] (s' := ⟨[(2, _), (3, _), (5, _), (16, B (decide (x_2 ≠ x_3)))], [(101, _), (102, _)]⟩) rfl ⟨fun _ => .p om, fun _ => .p (op_index_p tyArr23 (ix_lo e6) (ix_hi e6) rfl rfl rfl), fun _ => .p (op_load_p1 tyOne22 rfl rfl (arr_get (post := []) (k := .u32) [] e6 rfl rfl rfl)), fun _ => .p om, fun _ => .p (op_index_p tyArr23 (ix_lo e7) (ix_hi e7) rfl rfl rfl), fun _ => .p (op_load_p1 tyOne22 rfl rfl (arr_get (post := []) (k := .u32) [] e7 rfl rfl rfl)), fun _ => .p (op_neq rfl rfl), trivial⟩ rfl rfl (Tri.ite h4 rfl (fun _ h4 => ?_) (fun _ h4 => ?_))
   ·refine Tri.seq (Tri.keepS ⟨[(2, _), (3, _), (5, _)], [(101, _), (102, _)]⟩ rfl ?_)
    obtain ⟨x_4, e8, h4⟩ := bnd h4
    obtain ⟨x_5, e9, h4⟩ := bnd h4
    obtain ⟨x_6, e10, h4⟩ := bnd h4
    refine Tri.regionY mixed 8 [I k_1, .b (.ptr 101 (0 + (k_1 : Int).toNat * 1)), .b (.one (.int .u32 x_4)), I k_1, .b (.ptr 102 (0 + (k_1 : Int).toNat * 1)), .b (.one (.int .u32 x_5)), I x_6, I x_6] [4] [] (s' := ⟨[(4, I x_6)], []⟩) rfl ⟨fun _ => .p om, fun _ => .p (op_index_p tyArr23 (ix_lo e8) (ix_hi e8) rfl rfl rfl), fun _ => .p (op_load_p1 tyOne22 rfl rfl (arr_get (post := []) (k := .u32) [] e8 rfl rfl rfl)), fun _ => .p om, fun _ => .p (op_index_p tyArr23 (ix_lo e9) (ix_hi e9) rfl rfl rfl), fun _ => .p (op_load_p1 tyOne22 rfl rfl (arr_get (post := []) (k := .u32) [] e9 rfl rfl rfl)), fun _ => .p (op_call0 (cmp_Compare_spec e10) goes183 rfl rfl), fun _ => .p oa, trivial⟩ rfl rfl (Tri.ret (Fin.block_ret (Fin.then_ret ?_)))
    obtain rfl := hy5 _ (Option.some.inj h4).symm
    refine Fin.then_ret (Fin.block_ret (Fin.then_ret ?_))
    obtain rfl := Option.some.inj h
    refine Fin.keepS ⟨[(4, _)], []⟩ rfl (Fin.result' [.one (.i x_6)] (.inl rfl) rfl (.cons (.tmp rfl) .nil) ⟨rfl, rfl⟩)
   ·refine Tri.skip (Fin.block_normal (Fin.keepS ⟨[(2, _), (3, _), (5, _)], [(101, _), (102, _)]⟩ rfl (Fin.then (Tri.regionL ?_))))
    refine Oc om (Oc (op_sub rfl rfl) (Oc oa ?_))
    refine OpsL.nil ?_
    exact Fin.againJ [2, 3, 5] [101, 102] (IntKind.i64.wrap (k_1 - 1)) (Option.some.inj h4) rfl
  ·refine Tri.exit (Fin.then_exit ?_)
   obtain rfl := hy5 _ (Option.some.inj h4).symm
   refine Fin.then_exit (Fin.block_exit ?_)
   exact Fin.join [] [] () rfl rfl
 ·rintro _ hv
  subst v1
  refine Tri.seq (Tri.regionL ?_)
  refine Oc oa (OpsL.nilS ⟨[(4, I 0)], []⟩ rfl (Tri.ret ?_))
  obtain rfl := Option.some.inj h
  refine Fin.keepS ⟨[(4, _)], []⟩ rfl (Fin.result' [.one (.i 0)] (.inl rfl) rfl (.cons (.tmp rfl) .nil) ⟨rfl, rfl⟩)
def w_short_S (F : Nat) (a0 : A16) (b0 : Int) : Option (A16 × Int) :=
 Option.bind (iter F (un3 fun q_3 r_4 k_5 => if (decide (0 ≤ k_5)) = true then ((idx? a0.l k_5).bind fun x_8 => letN (ior .u64 (IntKind.u64.wrap (r_4 * 4294967296)) (IntKind.u64.wrap x_8)) fun x_9 => (quo? .u64 x_9 (IntKind.u64.wrap b0)).bind fun x_10 => (idx? q_3.l k_5).bind fun x_11 => (rem? x_9 (IntKind.u64.wrap b0)).bind fun x_12 => some (.inl (q_3.set k_5 (IntKind.u32.wrap x_10), x_12, IntKind.i64.wrap (k_5 - 1)))) else (some (.inr (q_3, r_4)))) (A16.zero, 0, 15)) (un2 fun q_1 r_2 => some (q_1, IntKind.u32.wrap r_2))
theorem w_short_spec {F : Nat} {a0 : A16} {b0 : Int} {r : A16 × Int} (h : w_short_S F a0 b0 = some r) : Meets Tryz.prog (tabs mx) 125 [] [.agg (eW a0), .one (.int .u32 b0)] (Is [] (.tup [.agg (eW r.1), .one (.int .u32 r.2)])) := by
 unfold w_short_S at h
 refine Meets.intro 33 Tryz.func125 Tryz.ntmps125 rfl (by simp) fun E => ?_
 show Tri _ E ⟨33, [], []⟩ _ ⟨[(0, .b (.agg (eW a0))), (1, .b (.one (.int .u32 b0)))], []⟩ _
 refine Tri.seq (Tri.regionL ?_)
 refine Oc (op_box (k := 101) rfl rfl) (Oc (op_alloc (k := 102) tyZero23 rfl) (Oc oa ?_))
 refine OpsL.nilS ⟨[(1, .b (.one (.int .u32 b0))), (2, Pt 101 0), (4, Pt 102 0)], [(101, .box 23 (eW a0)), (102, .box 23 (eW A16.zero))]⟩ rfl (Tri.seq (Tri.regionL ?_))
 refine Oc oa (OpsL.nilS ⟨[(1, _), (2, _), (4, _), (6, .b (.one (.int .u64 0)))], [(101, _), (102, _)]⟩ rfl ?_)
 obtain ⟨v1, h2, h⟩ := bnd h
 refine Tri.seqJ (v := v1) (un2 fun (q_1 : A16) (r_2 : Int) => ⟨[(4, Pt 102 0), (6, .b (.one (.int .u64 r_2)))], [(102, .box 23 (eW q_1))]⟩) (fun z => z) ?_ ?_
 ·refine Tri.seq (Tri.regionL ?_)
  refine Oc oa (OpsL.nilS ⟨[(1, _), (2, _), (4, _), (6, _), (7, I 15)], [(101, _), (102, _)]⟩ rfl (Tri.block (Tri.loopJ h2 (un3 fun (q_3 : A16) (r_4 : Int) (k_5 : Int) => ⟨[(1, .b (.one (.int .u32 b0))), (2, Pt 101 0), (4, Pt 102 0), (6, .b (.one (.int .u64 r_4))), (7, I k_5)], [(101, .box 23 (eW a0)), (102, .box 23 (eW q_3))]⟩) [1, 2, 4, 6, 7] [101, 102] rfl ?_)))
  rintro ⟨q_3, r_4, k_5⟩ o3 h4 hy5
  refine Tri.seq (Tri.seq (Tri.regionL ?_))
  refine Oc om (Oc (op_geq rfl rfl) ?_)
  refine OpsL.nilS ⟨[(1, _), (2, _), (4, _), (6, _), (7, _), (9, B (decide (0 ≤ k_5)))], [(101, _), (102, _)]⟩ rfl (Tri.ite h4 rfl (fun _ h4 => ?_) (fun _ h4 => ?_))
  ·refine Tri.skip (Fin.keepS ⟨[(1, _), (2, _), (4, _), (6, _), (7, _)], [(101, _), (102, _)]⟩ rfl (Fin.then (Tri.seq (Tri.block (Tri.seq (Tri.regionL ?_))))))
   refine Oc om (Oc (op_shl0 (m := 32) (q := 4294967296) (by decide) rfl rfl (by decide)) (Oc om ?_))
   obtain ⟨x_8, e6, h4⟩ := bnd h4
   refine Oc (op_index_p tyArr23 (ix_lo e6) (ix_hi e6) rfl rfl rfl) (Oc (op_load_p1 tyOne22 rfl rfl (arr_get (post := []) (k := .u32) [] e6 rfl rfl rfl)) (Oc (op_conv_wrap undi22 undi145 rfl) ?_))
   refine OpsL.consI .u64 h4 rfl (op_or rfl rfl) (fun x_9 h4 => ?_)
   refine Oc oa (OpsL.nilS ⟨[(1, _), (2, _), (4, _), (6, .b (.one (.int .u64 x_9))), (7, _)], [(101, _), (102, _)]⟩ rfl (Tri.seq (Tri.regionL ?_)))
   refine Oc om (Oc om (Oc om (Oc (op_conv_wrap undi22 undi145 rfl) ?_)))
   obtain ⟨x_10, e7, h4⟩ := bnd h4
   refine Oc (op_quo2 e7 rfl rfl) (Oc (op_conv_wrap undi145 undi22 rfl) ?_)
   obtain ⟨x_11, e8, h4⟩ := bnd h4
   refine Oc (op_index_p tyArr23 (ix_lo e8) (ix_hi e8) rfl rfl rfl) (Oc (op_store_p1 tyOne22 rfl rfl rfl (arr_lt (post := []) (k := .u32) [] e8 rfl rfl rfl) (arr_set (post := []) (k := .u32) [] e8 rfl rfl (A16.set_l q_3 k_5 (IntKind.u32.wrap x_10)) rfl rfl)) ?_)
   refine OpsL.nilS ⟨[(1, _), (2, _), (4, _), (6, _), (7, _)], [(101, _), (102, .box 23 (eW (q_3.set k_5 (IntKind.u32.wrap x_10))))]⟩ rfl (Tri.regionL (Oc om (Oc om (Oc (op_conv_wrap undi22 undi145 rfl) ?_))))
   obtain ⟨x_12, e9, h4⟩ := bnd h4
   refine Oc (op_rem2 e9 rfl rfl) (Oc oa ?_)
   refine OpsL.nil (Fin.block_normal (Fin.keepS ⟨[(1, _), (2, _), (4, _), (6, .b (.one (.int .u64 x_12))), (7, _)], [(101, _), (102, _)]⟩ rfl (Fin.then (Tri.regionL ?_))))
   refine Oc om (Oc (op_sub rfl rfl) (Oc oa ?_))
   refine OpsL.nil ?_
   exact Fin.againJ [1, 2, 4, 6, 7] [101, 102] (q_3.set k_5 (IntKind.u32.wrap x_10), x_12, IntKind.i64.wrap (k_5 - 1)) (Option.some.inj h4) rfl
  ·refine Tri.exit (Fin.then_exit ?_)
   obtain rfl := hy5 _ (Option.some.inj h4).symm
   refine Fin.then_exit (Fin.block_exit ?_)
   exact Fin.join [4, 6] [102] (q_3, r_4) rfl rfl
 ·rintro ⟨q_1, r_2⟩ hv
  subst v1
  refine Tri.seq (Tri.regionL ?_)
  refine Oc (lp tyAgg23) (Oc om (Oc (op_conv_wrap undi145 undi22 rfl) (Oc (op_store_p tyAgg23 rfl rfl rfl rfl (Nat.le_of_ble_eq_true rfl) rfl) (Oc oa ?_))))
  refine OpsL.nilS ⟨[(4, _), (5, .b (.one (.int .u32 (IntKind.u32.wrap r_2))))], [(102, _)]⟩ rfl (Tri.ret ?_)
  obtain rfl := Option.some.inj h
  refine Fin.keepS ⟨[(4, _), (5, _)], [(102, _)]⟩ rfl (Fin.result' [.agg (eW q_1), .one (.int .u32 (IntKind.u32.wrap r_2))] (.inl rfl) rfl (.cons (.agg tyAgg23 rfl rfl rfl rfl) (.cons (.tmp rfl) .nil)) ⟨rfl, rfl⟩)
def bits_Len32_S (F : Nat) (x0 : Int) : Option Int :=
 Option.bind (if (decide (65536 ≤ x0)) = true then (some (x0 / 65536, 16)) else (some (x0, 0))) (un2 fun x_1 n_2 => Option.bind (if (decide (256 ≤ x_1)) = true then (some (x_1 / 256, IntKind.i64.wrap (n_2 + 8))) else (some (x_1, n_2))) (un2 fun x_3 n_4 => (idx? ([0, 1, 2, 2, 3, 3, 3, 3, 4, 4, 4, 4, 4, 4, 4, 4, 5, 5, 5, 5, 5, 5, 5, 5, 5, 5, 5, 5, 5, 5, 5, 5, 6, 6, 6, 6, 6, 6, 6, 6, 6, 6, 6, 6, 6, 6, 6, 6, 6, 6, 6, 6, 6, 6, 6, 6, 6, 6, 6, 6, 6, 6, 6, 6, 7, 7, 7, 7, 7, 7, 7, 7, 7, 7, 7, 7, 7, 7, 7, 7, 7, 7, 7, 7, 7, 7, 7, 7, 7, 7, 7, 7, 7, 7, 7, 7, 7, 7, 7, 7, 7, 7, 7, 7, 7, 7, 7, 7, 7, 7, 7, 7, 7, 7, 7, 7, 7, 7, 7, 7, 7, 7, 7, 7, 7, 7, 7, 7, 8, 8, 8, 8, 8, 8, 8, 8, 8, 8, 8, 8, 8, 8, 8, 8, 8, 8, 8, 8, 8, 8, 8, 8, 8, 8, 8, 8, 8, 8, 8, 8, 8, 8, 8, 8, 8, 8, 8, 8, 8, 8, 8, 8, 8, 8, 8, 8, 8, 8, 8, 8, 8, 8, 8, 8, 8, 8, 8, 8, 8, 8, 8, 8, 8, 8, 8, 8, 8, 8, 8, 8, 8, 8, 8, 8, 8, 8, 8, 8, 8, 8, 8, 8, 8, 8, 8, 8, 8, 8, 8, 8, 8, 8, 8, 8, 8, 8, 8, 8, 8, 8, 8, 8, 8, 8, 8, 8, 8, 8, 8, 8, 8, 8, 8, 8, 8, 8, 8, 8, 8, 8, 8, 8, 8, 8, 8, 8] : Str) (IntKind.u8.wrap x_3)).bind fun x_5 => letN (IntKind.i64.wrap (n_4 + (IntKind.i64.wrap (x_5.toNat : Int)))) fun x_6 => some x_6))
theorem bits_Len32_spec {F : Nat} {x0 : Int} {r : Int} (h : bits_Len32_S F x0 = some r) : Meets Tryz.prog (tabs mx) 201 [] [.one (.int .u32 x0)] (Is [] (.b (.one (.i r)))) := by
 unfold bits_Len32_S at h
 refine Meets.intro 19 Tryz.func201 Tryz.ntmps201 rfl (by simp) fun E => ?_
 show Tri _ E ⟨19, [], []⟩ _ ⟨[(0, .b (.one (.int .u32 x0)))], []⟩ _
 refine Tri.seq (Tri.regionL ?_)
 refine Oc oa (OpsL.nilS ⟨[(0, .b (.one (.int .u32 x0))), (2, I 0)], []⟩ rfl ?_)
 obtain ⟨v1, h2, h⟩ := bnd h
 refine Tri.seqJ (v := v1) (un2 fun (x_1 : Int) (n_2 : Int) => ⟨[(0, .b (.one (.int .u32 x_1))), (2, I n_2)], []⟩) (fun z => z) ?_ ?_
 ·refine Tri.seq (Tri.regionL ?_)
  refine Oc om (Oc (op_geq rfl rfl) ?_)
  refine OpsL.nilS ⟨[(0, _), (2, _), (4, B (decide (65536 ≤ x0)))], []⟩ rfl (Tri.ite h2 rfl (fun _ h2 => ?_) (fun _ h2 => ?_))
  ·refine Tri.seq (Tri.regionL ?_)
   refine Oc om (Oc (op_shr2 (m := 16) (by decide) rfl rfl rfl) (Oc oa ?_))
   refine OpsL.nilS ⟨[(0, .b (.one (.int .u32 (x0 / 65536))))], []⟩ rfl (Tri.regionL (Oc oa (OpsL.nil ?_)))
   exact Fin.join [0, 2] [] (x0 / 65536, 16) (Option.some.inj h2) rfl
  ·refine Tri.skip ?_
   exact Fin.join [0, 2] [] (x0, 0) (Option.some.inj h2) rfl
 ·rintro ⟨x_1, n_2⟩ hv
  subst v1
  obtain ⟨v3, h4, h⟩ := bnd h
  refine Tri.seqJ (v := v3) (un2 fun (x_3 : Int) (n_4 : Int) => ⟨[(0, .b (.one (.int .u32 x_3))), (2, I n_4)], []⟩) (fun z => z) ?_ ?_
  ·refine Tri.seq (Tri.regionL ?_)
   refine Oc om (Oc (op_geq rfl rfl) ?_)
   refine OpsL.nilS ⟨[(0, _), (2, _), (8, B (decide (256 ≤ x_1)))], []⟩ rfl (Tri.ite h4 rfl (fun _ h4 => ?_) (fun _ h4 => ?_))
   ·refine Tri.seq (Tri.regionL ?_)
    refine Oc om (Oc (op_shr2 (m := 8) (by decide) rfl rfl rfl) (Oc oa ?_))
    refine OpsL.nilS ⟨[(0, .b (.one (.int .u32 (x_1 / 256)))), (2, _)], []⟩ rfl (Tri.regionL (Oc om (Oc (op_add rfl rfl) (Oc oa ?_))))
    refine OpsL.nil ?_
    exact Fin.join [0, 2] [] (x_1 / 256, IntKind.i64.wrap (n_2 + 8)) (Option.some.inj h4) rfl
   ·refine Tri.skip ?_
    exact Fin.join [0, 2] [] (x_1, n_2) (Option.some.inj h4) rfl
  ·rintro ⟨x_3, n_4⟩ hv
   subst v3
   refine Tri.seq (Tri.regionL ?_)
   refine Oc om (Oc om (Oc (op_conv_wrap undi22 undi5 rfl) ?_))
   obtain ⟨x_5, e5, h⟩ := bnd h
   refine Oc (op_index_str und9 rfl rfl (ix_lo e5) (ix_get e5)) (Oc (op_conv_wrap undi5 undi3 rfl) ?_)
   refine OpsL.consI .i64 h rfl (op_add rfl rfl) (fun x_6 h => ?_)
   refine Oc oa (OpsL.nilS ⟨[(2, I x_6)], []⟩ rfl (Tri.ret ?_))
   obtain rfl := Option.some.inj h
   refine Fin.keepS ⟨[(2, _)], []⟩ rfl (Fin.result' [.one (.i x_6)] (.inl rfl) rfl (.cons (.tmp rfl) .nil) ⟨rfl, rfl⟩)
def bits_LeadingZeros32_S (F : Nat) (x0 : Int) : Option Int :=
 (bits_Len32_S F x0).bind fun x_1 => some (IntKind.i64.wrap (32 - x_1))
theorem bits_LeadingZeros32_spec {F : Nat} {x0 : Int} {r : Int} (h : bits_LeadingZeros32_S F x0 = some r) : Meets Tryz.prog (tabs mx) 175 [] [.one (.int .u32 x0)] (Is [] (.b (.one (.i r)))) := by
 unfold bits_LeadingZeros32_S at h
 refine Meets.intro 6 Tryz.func175 Tryz.ntmps175 rfl (by simp) fun E => ?_
 show Tri _ E ⟨6, [], []⟩ _ ⟨[(0, .b (.one (.int .u32 x0)))], []⟩ _
 refine Tri.seq (Tri.regionL ?_)
 refine Oc oa (OpsL.nilS ⟨[(0, .b (.one (.int .u32 x0)))], []⟩ rfl (Tri.seq (Tri.regionL ?_)))
 refine Oc om ?_
 obtain ⟨x_1, e1, h⟩ := bnd h
 refine Oc (op_call0 (bits_Len32_spec e1) goes201 rfl rfl) (Oc (op_sub rfl rfl) (Oc oa ?_))
 refine OpsL.nilS ⟨[(2, I (IntKind.i64.wrap (32 - x_1)))], []⟩ rfl (Tri.ret ?_)
 obtain rfl := Option.some.inj h
 refine Fin.keepS ⟨[(2, _)], []⟩ rfl (Fin.result' [.one (.i (IntKind.i64.wrap (32 - x_1)))] (.inl rfl) rfl (.cons (.tmp rfl) .nil) ⟨rfl, rfl⟩)
def w_up_S (F : Nat) (w0 : A16) (n0 : Int) : Option (A16 × Int) :=
 Option.bind (iter F (un3 fun out_3 carry_4 x_5 => if (decide (x_5 < 16)) = true then ((idx? w0.l x_5).bind fun x_8 => Option.bind (shl? .u64 (IntKind.u64.wrap x_8) n0) (fun x_9 => letN (IntKind.u32.wrap (ior .u64 carry_4 x_9)) fun x_10 => (idx? out_3.l x_5).bind fun x_11 => some (.inl (out_3.set x_5 x_10, (ior .u64 carry_4 x_9) / 4294967296, IntKind.i64.wrap (x_5 + 1))))) else (some (.inr (out_3, carry_4)))) (A16.zero, 0, 0)) (un2 fun out_1 carry_2 => some (out_1, IntKind.u32.wrap carry_2))
theorem w_up_spec {F : Nat} {w0 : A16} {n0 : Int} {r : A16 × Int} (h : w_up_S F w0 n0 = some r) : Meets Tryz.prog (tabs mx) 176 [] [.agg (eW w0), .one (.i n0)] (Is [] (.tup [.agg (eW r.1), .one (.int .u32 r.2)])) := by
 unfold w_up_S at h
 refine Meets.intro 30 Tryz.func176 Tryz.ntmps176 rfl (by simp) fun E => ?_
 show Tri _ E ⟨30, [], []⟩ _ ⟨[(0, .b (.agg (eW w0))), (1, I n0)], []⟩ _
 refine Tri.seq (Tri.regionL ?_)
 refine Oc (op_box (k := 101) rfl rfl) (Oc (op_alloc (k := 102) tyZero23 rfl) (Oc oa ?_))
 refine OpsL.nilS ⟨[(1, I n0), (2, Pt 101 0), (4, Pt 102 0)], [(101, .box 23 (eW w0)), (102, .box 23 (eW A16.zero))]⟩ rfl (Tri.seq (Tri.regionL ?_))
 refine Oc (op_alloc (k := 103) tyZero23 rfl) (OpsL.nilS ⟨[(1, _), (2, _), (4, _), (6, Pt 103 0)], [(101, _), (102, _), (103, .box 23 (eW A16.zero))]⟩ rfl (Tri.seq (Tri.regionL ?_)))
 refine Oc oa (OpsL.nilS ⟨[(1, _), (2, _), (4, _), (6, _), (7, .b (.one (.int .u64 0)))], [(101, _), (102, _), (103, _)]⟩ rfl ?_)
 obtain ⟨v1, h2, h⟩ := bnd h
 refine Tri.seqJ (v := v1) (un2 fun (out_1 : A16) (carry_2 : Int) => ⟨[(4, Pt 102 0), (6, Pt 103 0), (7, .b (.one (.int .u64 carry_2)))], [(102, .box 23 (eW A16.zero)), (103, .box 23 (eW out_1))]⟩) (fun z => z) ?_ ?_
 ·refine Tri.seq (Tri.regionL ?_)
  refine Oc om (OpsL.nilS ⟨[(1, _), (2, _), (4, _), (6, _), (7, _), (9, I 0)], [(101, _), (102, _), (103, _)]⟩ rfl (Tri.block (Tri.loopJ h2 (un3 fun (out_3 : A16) (carry_4 : Int) (x_5 : Int) => ⟨[(1, I n0), (2, Pt 101 0), (4, Pt 102 0), (6, Pt 103 0), (7, .b (.one (.int .u64 carry_4))), (9, I x_5)], [(101, .box 23 (eW w0)), (102, .box 23 (eW A16.zero)), (103, .box 23 (eW out_3))]⟩) [1, 2, 4, 6, 7, 9] [101, 102, 103] rfl ?_)))
  rintro ⟨out_3, carry_4, x_5⟩ o3 h4 hy5
  refine Tri.seq (Tri.regionL ?_)
  refine Oc (op_lss rfl rfl) (OpsL.nilS ⟨[(1, _), (2, _), (4, _), (6, _), (7, _), (9, _), (10, B (decide (x_5 < 16)))], [(101, _), (102, _), (103, _)]⟩ rfl (Tri.seq (Tri.ite h4 rfl (fun _ h4 => ?_) (fun _ h4 => ?_))))
  ·refine Tri.skip (Fin.keepS ⟨[(1, _), (2, _), (4, _), (6, _), (7, _), (9, _)], [(101, _), (102, _), (103, _)]⟩ rfl (Fin.then (Tri.seq (Tri.block (Tri.seq (Tri.regionL ?_))))))
   refine Oc om (Oc oa ?_)
   refine OpsL.nilS ⟨[(1, _), (2, _), (4, _), (6, _), (7, _), (8, I x_5), (9, _)], [(101, _), (102, _), (103, _)]⟩ rfl (Tri.seq (Tri.regionL ?_))
   refine Oc om (Oc om ?_)
   obtain ⟨x_8, e6, h4⟩ := bnd h4
   refine Oc (op_index_p tyArr23 (ix_lo e6) (ix_hi e6) rfl rfl rfl) (Oc (op_load_p1 tyOne22 rfl rfl (arr_get (post := []) (k := .u32) [] e6 rfl rfl rfl)) (Oc (op_conv_wrap undi22 undi145 rfl) (Oc om ?_)))
   obtain ⟨x_9, e7, h4⟩ := bnd h4
   refine Oc (op_shl e7 rfl rfl) (Oc (op_or rfl rfl) (Oc oa ?_))
   refine OpsL.nilS ⟨[(1, _), (2, _), (4, _), (6, _), (7, .b (.one (.int .u64 (ior .u64 carry_4 x_9)))), (8, _), (9, _)], [(101, _), (102, _), (103, _)]⟩ rfl (Tri.seq (Tri.regionL ?_))
   refine Oc om (Oc om ?_)
   refine OpsL.consI .u32 h4 rfl (op_conv_wrap undi145 undi22 rfl) (fun x_10 h4 => ?_)
   obtain ⟨x_11, e8, h4⟩ := bnd h4
   refine Oc (op_index_p tyArr23 (ix_lo e8) (ix_hi e8) rfl rfl rfl) (Oc (op_store_p1 tyOne22 rfl rfl rfl (arr_lt (post := []) (k := .u32) [] e8 rfl rfl rfl) (arr_set (post := []) (k := .u32) [] e8 rfl rfl (A16.set_l out_3 x_5 x_10) rfl rfl)) ?_)
   refine OpsL.nilS ⟨[(1, _), (2, _), (4, _), (6, _), (7, _), (9, _)], [(101, _), (102, _), (103, .box 23 (eW (out_3.set x_5 x_10)))]⟩ rfl (Tri.regionL (Oc om (Oc (op_shr2 (m := 32) (by decide) rfl rfl rfl) (Oc oa ?_))))
   refine OpsL.nil (Fin.block_normal (Fin.keepS ⟨[(1, _), (2, _), (4, _), (6, _), (7, .b (.one (.int .u64 ((ior .u64 carry_4 x_9) / 4294967296)))), (9, _)], [(101, _), (102, _), (103, _)]⟩ rfl (Fin.then (Tri.regionL ?_))))
   refine Oc (op_add rfl rfl) (Oc om ?_)
   refine OpsL.nil ?_
   exact Fin.againJ [1, 2, 4, 6, 7, 9] [101, 102, 103] (out_3.set x_5 x_10, (ior .u64 carry_4 x_9) / 4294967296, IntKind.i64.wrap (x_5 + 1)) (Option.some.inj h4) rfl
  ·refine Tri.exit (Fin.then_exit ?_)
   obtain rfl := hy5 _ (Option.some.inj h4).symm
   refine Fin.then_exit (Fin.block_exit ?_)
   exact Fin.join [4, 6, 7] [102, 103] (out_3, carry_4) rfl rfl
 ·rintro ⟨out_1, carry_2⟩ hv
  subst v1
  refine Tri.seq (Tri.regionL ?_)
  refine Oc (lp tyAgg23) (Oc om (Oc (op_conv_wrap undi145 undi22 rfl) (Oc (op_store_p tyAgg23 rfl rfl rfl rfl (Nat.le_of_ble_eq_true rfl) rfl) (Oc oa ?_))))
  refine OpsL.nilS ⟨[(4, _), (5, .b (.one (.int .u32 (IntKind.u32.wrap carry_2))))], [(102, .box 23 (eW out_1))]⟩ rfl (Tri.ret ?_)
  obtain rfl := Option.some.inj h
  refine Fin.keepS ⟨[(4, _), (5, _)], [(102, _)]⟩ rfl (Fin.result' [.agg (eW out_1), .one (.int .u32 (IntKind.u32.wrap carry_2))] (.inl rfl) rfl (.cons (.agg tyAgg23 rfl rfl rfl rfl) (.cons (.tmp rfl) .nil)) ⟨rfl, rfl⟩)
def w_guess_S (F : Nat) (v0 : A16) (n0 : Int) (j0 : Int) (u0v : A17) : Option Int :=
 (idx? u0v.l (IntKind.i64.wrap (j0 + n0))).bind fun x_1 => (idx? u0v.l (IntKind.i64.wrap ((IntKind.i64.wrap (j0 + n0)) - 1))).bind fun x_2 => (idx? v0.l (IntKind.i64.wrap (n0 - 1))).bind fun x_3 => (quo? .u64 (ior .u64 (IntKind.u64.wrap ((IntKind.u64.wrap x_1) * 4294967296)) (IntKind.u64.wrap x_2)) (IntKind.u64.wrap x_3)).bind fun x_4 => (rem? (ior .u64 (IntKind.u64.wrap ((IntKind.u64.wrap x_1) * 4294967296)) (IntKind.u64.wrap x_2)) (IntKind.u64.wrap x_3)).bind fun x_5 => Option.bind (iter F (un2 fun d_7 rest_8 => (gcall ((decide (rest_8 < 4294967296)) && !(decide (4294967296 ≤ d_7))) (idx? v0.l (IntKind.i64.wrap (n0 - 2)))).bind fun x_10 => (gcall ((decide (rest_8 < 4294967296)) && !(decide (4294967296 ≤ d_7))) (idx? u0v.l (IntKind.i64.wrap ((IntKind.i64.wrap (j0 + n0)) - 2)))).bind fun x_11 => if ((decide (rest_8 < 4294967296)) && ((decide (4294967296 ≤ d_7)) || (decide ((ior .u64 (IntKind.u64.wrap (rest_8 * 4294967296)) (IntKind.u64.wrap x_11)) < (IntKind.u64.wrap (d_7 * (IntKind.u64.wrap x_10))))))) = true then (letN (IntKind.u64.wrap (rest_8 + (IntKind.u64.wrap x_3))) fun x_12 => some (.inl (IntKind.u64.wrap (d_7 - 1), x_12))) else (some (.inr d_7))) (x_4, x_5)) (fun d_6 => some d_6)
theorem w_guess_spec {F : Nat} {v0 : A16} {n0 : Int} {j0 : Int} {u0v : A17} {r : Int} (h : w_guess_S F v0 n0 j0 u0v = some r) : Meets Tryz.prog (tabs mx) 177 [(1, .box 186 ((eA17 .u32) u0v))] [.ptr 1 0, .agg (eW v0), .one (.i n0), .one (.i j0)] (Is [(1, .box 186 ((eA17 .u32) u0v))] (.b (.one (.int .u64 r)))) := by
 unfold w_guess_S at h
 refine Meets.intro 77 Tryz.func177 Tryz.ntmps177 rfl (by simp) fun E => ?_
 show Tri _ E ⟨77, [1], [1]⟩ _ ⟨[(0, Pt 1 0), (1, .b (.agg (eW v0))), (2, I n0), (3, I j0)], [(1, .box 186 ((eA17 .u32) u0v))]⟩ _
 refine Tri.seq (Tri.regionL ?_)
 refine Oc (op_box (k := 101) rfl rfl) (Oc oa ?_)
 refine OpsL.nilS ⟨[(0, Pt 1 0), (2, I n0), (3, I j0), (5, Pt 101 0)], [(1, .box 186 ((eA17 .u32) u0v)), (101, .box 23 (eW v0))]⟩ rfl (Tri.seq ?_)
 obtain ⟨x_1, e1, h⟩ := bnd h
 obtain ⟨x_2, e2, h⟩ := bnd h
 refine Tri.regionY mixed 20 [Pt 1 0, I j0, I n0, I (IntKind.i64.wrap (j0 + n0)), Pt 1 0, .b (.ptr 1 (0 + (IntKind.i64.wrap (j0 + n0) : Int).toNat * 1)), .b (.one (.int .u32 x_1)), .b (.one (.int .u64 (IntKind.u64.wrap x_1))), .b (.one (.int .u64 (IntKind.u64.wrap ((IntKind.u64.wrap x_1) * 4294967296)))), Pt 1 0, I j0, I n0, I (IntKind.i64.wrap (j0 + n0)), I (IntKind.i64.wrap ((IntKind.i64.wrap (j0 + n0)) - 1)), Pt 1 0, .b (.ptr 1 (0 + (IntKind.i64.wrap ((IntKind.i64.wrap (j0 + n0)) - 1) : Int).toNat * 1)), .b (.one (.int .u32 x_2)), .b (.one (.int .u64 (IntKind.u64.wrap x_2))), .b (.one (.int .u64 (ior .u64 (IntKind.u64.wrap ((IntKind.u64.wrap x_1) * 4294967296)) (IntKind.u64.wrap x_2)))), .b (.one (.int .u64 (ior .u64 (IntKind.u64.wrap ((IntKind.u64.wrap x_1) * 4294967296)) (IntKind.u64.wrap x_2))))] [0, 2, 3, 5, 9] [1, 101] (s' := ⟨[(0, _), (2, _), (3, _), (5, _), (9, .b (.one (.int .u64 (ior .u64 (IntKind.u64.wrap ((IntKind.u64.wrap x_1) * 4294967296)) (IntKind.u64.wrap x_2)))))], [(1, _), (101, _)]⟩) rfl ⟨fun _ => .p om, fun _ => .p om, fun _ => .p om, fun _ => .p (op_add rfl rfl), fun _ => .p (op_nilCheck_p rfl), fun _ => .p (op_index_p tyArr186 (ix_lo e1) (ix_hi e1) rfl rfl rfl), fun _ => .p (op_load_p1 tyOne22 rfl rfl (arr_get (post := []) (k := .u32) [] e1 rfl rfl rfl)), fun _ => .p (op_conv_wrap undi22 undi145 rfl), fun _ => .p (op_shl0 (m := 32) (q := 4294967296) (by decide) rfl rfl (by decide)), fun _ => .p om, fun _ => .p om, fun _ => .p om, fun _ => .p (op_add rfl rfl), fun _ => .p (op_sub rfl rfl), fun _ => .p (op_nilCheck_p rfl), fun _ => .p (op_index_p tyArr186 (ix_lo e2) (ix_hi e2) rfl rfl rfl), fun _ => .p (op_load_p1 tyOne22 rfl rfl (arr_get (post := []) (k := .u32) [] e2 rfl rfl rfl)), fun _ => .p (op_conv_wrap undi22 undi145 rfl), fun _ => .p (op_or rfl rfl), fun _ => .p oa, trivial⟩ rfl rfl (Tri.seq (Tri.regionL ?_))
 refine Oc om (Oc (op_sub rfl rfl) ?_)
 obtain ⟨x_3, e3, h⟩ := bnd h
 refine Oc (op_index_p tyArr23 (ix_lo e3) (ix_hi e3) rfl rfl rfl) (Oc (op_load_p1 tyOne22 rfl rfl (arr_get (post := []) (k := .u32) [] e3 rfl rfl rfl)) (Oc (op_conv_wrap undi22 undi145 rfl) (Oc oa ?_)))
 refine OpsL.nilS ⟨[(0, _), (2, _), (3, _), (5, _), (9, _), (10, .b (.one (.int .u64 (IntKind.u64.wrap x_3))))], [(1, _), (101, _)]⟩ rfl (Tri.seq ?_)
 obtain ⟨x_4, e4, h⟩ := bnd h
 obtain ⟨x_5, e5, h⟩ := bnd h
 refine Tri.regionY mixed 8 [.b (.one (.int .u64 (ior .u64 (IntKind.u64.wrap ((IntKind.u64.wrap x_1) * 4294967296)) (IntKind.u64.wrap x_2)))), .b (.one (.int .u64 (IntKind.u64.wrap x_3))), .b (.one (.int .u64 x_4)), .b (.one (.int .u64 (ior .u64 (IntKind.u64.wrap ((IntKind.u64.wrap x_1) * 4294967296)) (IntKind.u64.wrap x_2)))), .b (.one (.int .u64 (IntKind.u64.wrap x_3))), .b (.one (.int .u64 x_5)), .b (.one (.int .u64 x_4)), .b (.one (.int .u64 x_5))] [0, 2, 3, 5, 10, 11, 12] [1, 101] (s' := ⟨[(0, _), (2, _), (3, _), (5, _), (10, _), (11, .b (.one (.int .u64 x_4))), (12, .b (.one (.int .u64 x_5)))], [(1, _), (101, _)]⟩) rfl ⟨fun _ => .p om, fun _ => .p om, fun _ => .p (op_quo2 e4 rfl rfl), fun _ => .p om, fun _ => .p om, fun _ => .p (op_rem2 e5 rfl rfl), fun _ => .p oa, fun _ => .p oa, trivial⟩ rfl rfl ?_
 obtain ⟨v6, h7, h⟩ := bnd h
 refine Tri.seqJ (v := v6) (fun (d_6 : Int) => ⟨[(11, .b (.one (.int .u64 d_6)))], [(1, .box 186 ((eA17 .u32) u0v))]⟩) (fun z => z) ?_ ?_
 ·refine Tri.block (Tri.loopJ h7 (un2 fun (d_7 : Int) (rest_8 : Int) => ⟨[(0, Pt 1 0), (2, I n0), (3, I j0), (5, Pt 101 0), (10, .b (.one (.int .u64 (IntKind.u64.wrap x_3)))), (11, .b (.one (.int .u64 d_7))), (12, .b (.one (.int .u64 rest_8)))], [(1, .box 186 ((eA17 .u32) u0v)), (101, .box 23 (eW v0))]⟩) [0, 2, 3, 5, 10, 11, 12] [1, 101] rfl ?_)
  rintro ⟨d_7, rest_8⟩ o8 h9 hy10
  refine Tri.seq (Tri.seq ?_)
  refine Tri.keepS ⟨[(0, _), (2, _), (3, _), (5, _), (10, _), (11, _), (12, _)], [(1, _), (101, _)]⟩ rfl ?_
  obtain ⟨x_10, e18, h9⟩ := bnd h9
  obtain ⟨x_11, e31, h9⟩ := bnd h9
  refine Tri.regionY mixed 28 [.b (.one (.int .u64 rest_8)), B (decide (rest_8 < 4294967296)), B (decide (rest_8 < 4294967296)), .opt (decide (rest_8 < 4294967296)) (.one (.int .u64 d_7)), .opt (decide (rest_8 < 4294967296)) (.one (.bool (decide (4294967296 ≤ d_7)))), .opt (decide (rest_8 < 4294967296)) (.one (.bool (decide (4294967296 ≤ d_7)))), .opt ((decide (rest_8 < 4294967296)) && !(decide (4294967296 ≤ d_7))) (.one (.int .u64 d_7)), .opt ((decide (rest_8 < 4294967296)) && !(decide (4294967296 ≤ d_7))) (.one (.i n0)), .opt ((decide (rest_8 < 4294967296)) && !(decide (4294967296 ≤ d_7))) (.one (.i (IntKind.i64.wrap (n0 - 2)))), .opt ((decide (rest_8 < 4294967296)) && !(decide (4294967296 ≤ d_7))) (.ptr 101 (0 + (IntKind.i64.wrap (n0 - 2) : Int).toNat * 1)), .opt ((decide (rest_8 < 4294967296)) && !(decide (4294967296 ≤ d_7))) (.one (.int .u32 x_10)), .opt ((decide (rest_8 < 4294967296)) && !(decide (4294967296 ≤ d_7))) (.one (.int .u64 (IntKind.u64.wrap x_10))), .opt ((decide (rest_8 < 4294967296)) && !(decide (4294967296 ≤ d_7))) (.one (.int .u64 (IntKind.u64.wrap (d_7 * (IntKind.u64.wrap x_10))))), .opt ((decide (rest_8 < 4294967296)) && !(decide (4294967296 ≤ d_7))) (.one (.int .u64 rest_8)), .opt ((decide (rest_8 < 4294967296)) && !(decide (4294967296 ≤ d_7))) (.one (.int .u64 (IntKind.u64.wrap (rest_8 * 4294967296)))), .opt ((decide (rest_8 < 4294967296)) && !(decide (4294967296 ≤ d_7))) (.ptr 1 0), .opt ((decide (rest_8 < 4294967296)) && !(decide (4294967296 ≤ d_7))) (.one (.i j0)), .opt ((decide (rest_8 < 4294967296)) && !(decide (4294967296 ≤ d_7))) (.one (.i n0)), .opt ((decide (rest_8 < 4294967296)) && !(decide (4294967296 ≤ d_7))) (.one (.i (IntKind.i64.wrap (j0 + n0)))), .opt ((decide (rest_8 < 4294967296)) && !(decide (4294967296 ≤ d_7))) (.one (.i (IntKind.i64.wrap ((IntKind.i64.wrap (j0 + n0)) - 2)))), .opt ((decide (rest_8 < 4294967296)) && !(decide (4294967296 ≤ d_7))) (.ptr 1 0), .opt ((decide (rest_8 < 4294967296)) && !(decide (4294967296 ≤ d_7))) (.ptr 1 (0 + (IntKind.i64.wrap ((IntKind.i64.wrap (j0 + n0)) - 2) : Int).toNat * 1)), .opt ((decide (rest_8 < 4294967296)) && !(decide (4294967296 ≤ d_7))) (.one (.int .u32 x_11)), .opt ((decide (rest_8 < 4294967296)) && !(decide (4294967296 ≤ d_7))) (.one (.int .u64 (IntKind.u64.wrap x_11))), .opt ((decide (rest_8 < 4294967296)) && !(decide (4294967296 ≤ d_7))) (.one (.int .u64 (ior .u64 (IntKind.u64.wrap (rest_8 * 4294967296)) (IntKind.u64.wrap x_11)))), .opt ((decide (rest_8 < 4294967296)) && !(decide (4294967296 ≤ d_7))) (.one (.bool (decide ((ior .u64 (IntKind.u64.wrap (rest_8 * 4294967296)) (IntKind.u64.wrap x_11)) < (IntKind.u64.wrap (d_7 * (IntKind.u64.wrap x_10))))))), .opt (decide (rest_8 < 4294967296)) (.one (.bool ((decide (4294967296 ≤ d_7)) || (decide ((ior .u64 (IntKind.u64.wrap (rest_8 * 4294967296)) (IntKind.u64.wrap x_11)) < (IntKind.u64.wrap (d_7 * (IntKind.u64.wrap x_10)))))))), B ((decide (rest_8 < 4294967296)) && ((decide (4294967296 ≤ d_7)) || (decide ((ior .u64 (IntKind.u64.wrap (rest_8 * 4294967296)) (IntKind.u64.wrap x_11)) < (IntKind.u64.wrap (d_7 * (IntKind.u64.wrap x_10)))))))] [0, 2, 3, 5, 10, 11, 12, 70] [1, 101] (s' := ⟨[(0, _), (2, _), (3, _), (5, _), (10, _), (11, _), (12, _), (70, B ((decide (rest_8 < 4294967296)) && ((decide (4294967296 ≤ d_7)) || (decide ((ior .u64 (IntKind.u64.wrap (rest_8 * 4294967296)) (IntKind.u64.wrap x_11)) < (IntKind.u64.wrap (d_7 * (IntKind.u64.wrap x_10))))))))], [(1, _), (101, _)]⟩) rfl ⟨fun _ => .p om, fun _ => .p (op_lss rfl rfl), fun _ => .p om, fun _ => by exact .guard (decide (rest_8 < 4294967296)) 1 [] (.plain rfl) (eq_t _) rfl rfl (fun g11 => trivial) (fun g11 => om), fun _ => by exact .guard (decide (rest_8 < 4294967296)) 2 [46] (.plain rfl) (eq_t _) rfl rfl (fun g12 => ⟨g12, trivial⟩) (fun g12 => op_geq rfl rfl), fun _ => by exact .guard (decide (rest_8 < 4294967296)) 3 [47] (.plain rfl) (eq_t _) rfl rfl (fun g13 => ⟨g13, trivial⟩) (fun g13 => om), fun _ => by exact .guard ((decide (rest_8 < 4294967296)) && !(decide (4294967296 ≤ d_7))) 1 [] (.under rfl) (and_f _ _) rfl rfl (fun g14 => trivial) (fun g14 => om), fun _ => by exact .guard ((decide (rest_8 < 4294967296)) && !(decide (4294967296 ≤ d_7))) 1 [] (.under rfl) (and_f _ _) rfl rfl (fun g15 => trivial) (fun g15 => om), fun _ => by exact .guard ((decide (rest_8 < 4294967296)) && !(decide (4294967296 ≤ d_7))) 2 [50] (.under rfl) (and_f _ _) rfl rfl (fun g16 => ⟨g16, trivial⟩) (fun g16 => op_sub rfl rfl), fun _ => by exact .guard ((decide (rest_8 < 4294967296)) && !(decide (4294967296 ≤ d_7))) 2 [51] (.under rfl) (and_f _ _) rfl rfl (fun g17 => ⟨g17, trivial⟩) (fun g17 => op_index_p tyArr23 (ix_lo (gc e18 g17)) (ix_hi (gc e18 g17)) rfl rfl rfl), fun _ => by exact .guard ((decide (rest_8 < 4294967296)) && !(decide (4294967296 ≤ d_7))) 2 [52] (.under rfl) (and_f _ _) rfl rfl (fun g19 => ⟨g19, trivial⟩) (fun g19 => op_load_p1 tyOne22 rfl rfl (arr_get (post := []) (k := .u32) [] (gc e18 g19) rfl rfl rfl)), fun _ => by exact .guard ((decide (rest_8 < 4294967296)) && !(decide (4294967296 ≤ d_7))) 2 [53] (.under rfl) (and_f _ _) rfl rfl (fun g20 => ⟨g20, trivial⟩) (fun g20 => op_conv_wrap undi22 undi145 rfl), fun _ => by exact .guard ((decide (rest_8 < 4294967296)) && !(decide (4294967296 ≤ d_7))) 3 [49, 54] (.under rfl) (and_f _ _) rfl rfl (fun g21 => ⟨g21, g21, trivial⟩) (fun g21 => op_mul rfl rfl), fun _ => by exact .guard ((decide (rest_8 < 4294967296)) && !(decide (4294967296 ≤ d_7))) 1 [] (.under rfl) (and_f _ _) rfl rfl (fun g22 => trivial) (fun g22 => om), fun _ => by exact .guard ((decide (rest_8 < 4294967296)) && !(decide (4294967296 ≤ d_7))) 2 [56] (.under rfl) (and_f _ _) rfl rfl (fun g23 => ⟨g23, trivial⟩) (fun g23 => op_shl0 (m := 32) (q := 4294967296) (by decide) rfl rfl (by decide)), fun _ => by exact .guard ((decide (rest_8 < 4294967296)) && !(decide (4294967296 ≤ d_7))) 1 [] (.under rfl) (and_f _ _) rfl rfl (fun g24 => trivial) (fun g24 => om), fun _ => by exact .guard ((decide (rest_8 < 4294967296)) && !(decide (4294967296 ≤ d_7))) 1 [] (.under rfl) (and_f _ _) rfl rfl (fun g25 => trivial) (fun g25 => om), fun _ => by exact .guard ((decide (rest_8 < 4294967296)) && !(decide (4294967296 ≤ d_7))) 1 [] (.under rfl) (and_f _ _) rfl rfl (fun g26 => trivial) (fun g26 => om), fun _ => by exact .guard ((decide (rest_8 < 4294967296)) && !(decide (4294967296 ≤ d_7))) 3 [59, 60] (.under rfl) (and_f _ _) rfl rfl (fun g27 => ⟨g27, g27, trivial⟩) (fun g27 => op_add rfl rfl), fun _ => by exact .guard ((decide (rest_8 < 4294967296)) && !(decide (4294967296 ≤ d_7))) 2 [61] (.under rfl) (and_f _ _) rfl rfl (fun g28 => ⟨g28, trivial⟩) (fun g28 => op_sub rfl rfl), fun _ => by exact .guard ((decide (rest_8 < 4294967296)) && !(decide (4294967296 ≤ d_7))) 2 [58] (.under rfl) (and_f _ _) rfl rfl (fun g29 => ⟨g29, trivial⟩) (fun g29 => op_nilCheck_p rfl), fun _ => by exact .guard ((decide (rest_8 < 4294967296)) && !(decide (4294967296 ≤ d_7))) 3 [62, 63] (.under rfl) (and_f _ _) rfl rfl (fun g30 => ⟨g30, g30, trivial⟩) (fun g30 => op_index_p tyArr186 (ix_lo (gc e31 g30)) (ix_hi (gc e31 g30)) rfl rfl rfl), fun _ => by exact .guard ((decide (rest_8 < 4294967296)) && !(decide (4294967296 ≤ d_7))) 2 [64] (.under rfl) (and_f _ _) rfl rfl (fun g32 => ⟨g32, trivial⟩) (fun g32 => op_load_p1 tyOne22 rfl rfl (arr_get (post := []) (k := .u32) [] (gc e31 g32) rfl rfl rfl)), fun _ => by exact .guard ((decide (rest_8 < 4294967296)) && !(decide (4294967296 ≤ d_7))) 2 [65] (.under rfl) (and_f _ _) rfl rfl (fun g33 => ⟨g33, trivial⟩) (fun g33 => op_conv_wrap undi22 undi145 rfl), fun _ => by exact .guard ((decide (rest_8 < 4294967296)) && !(decide (4294967296 ≤ d_7))) 3 [57, 66] (.under rfl) (and_f _ _) rfl rfl (fun g34 => ⟨g34, g34, trivial⟩) (fun g34 => op_or rfl rfl), fun _ => by exact .guard ((decide (rest_8 < 4294967296)) && !(decide (4294967296 ≤ d_7))) 3 [55, 67] (.under rfl) (and_f _ _) rfl rfl (fun g35 => ⟨g35, g35, trivial⟩) (fun g35 => op_gtr rfl rfl), fun _ => by exact .guard (decide (rest_8 < 4294967296)) 3 [48] (.plain rfl) (eq_t _) rfl rfl (fun g36 => ⟨g36, trivial⟩) (fun g36 => op_pick_or (fun e => by rw [g36, e]; rfl) rfl rfl rfl rfl), fun _ => .p (op_pick_and (fun e => e) rfl rfl rfl rfl), trivial⟩ rfl rfl ?_
  refine Tri.ite h9 rfl (fun _ h9 => ?_) (fun _ h9 => ?_)
  ·refine Tri.skip (Fin.keepS ⟨[(0, _), (2, _), (3, _), (5, _), (10, _), (11, _), (12, _)], [(1, _), (101, _)]⟩ rfl (Fin.then (Tri.block (Tri.seq (Tri.regionL ?_)))))
   refine Oc om (Oc (op_sub rfl rfl) (Oc oa ?_))
   refine OpsL.nilS ⟨[(0, _), (2, _), (3, _), (5, _), (10, _), (11, .b (.one (.int .u64 (IntKind.u64.wrap (d_7 - 1))))), (12, _)], [(1, _), (101, _)]⟩ rfl (Tri.regionL (Oc om (Oc om ?_)))
   refine OpsL.consI .u64 h9 rfl (op_add rfl rfl) (fun x_12 h9 => ?_)
   refine Oc oa (OpsL.nil (Fin.block_normal ?_))
   exact Fin.againJ [0, 2, 3, 5, 10, 11, 12] [1, 101] (IntKind.u64.wrap (d_7 - 1), x_12) (Option.some.inj h9) rfl
  ·refine Tri.exit (Fin.then_exit ?_)
   obtain rfl := hy10 _ (Option.some.inj h9).symm
   refine Fin.then_exit (Fin.block_exit ?_)
   exact Fin.join [11] [1] d_7 rfl rfl
 ·rintro d_6 hv
  subst v6
  refine Tri.seq (Tri.regionL ?_)
  refine Oc om (Oc oa ?_)
  refine OpsL.nilS ⟨[(8, .b (.one (.int .u64 d_6)))], [(1, _)]⟩ rfl (Tri.ret ?_)
  obtain rfl := Option.some.inj h
  refine Fin.keepS ⟨[(8, _)], [(1, _)]⟩ rfl ?_
  exact Fin.result [.one (.int .u64 d_6)] (.inl rfl) rfl (.cons (.tmp rfl) .nil) ⟨rfl, rfl⟩
def w_take_S (F : Nat) (v0 : A16) (n0 : Int) (j0 : Int) (d0 : Int) (u0v : A17) : Option (Bool × A17) :=
 Option.bind (iter F (un4 fun u_4 carry_5 borrow_6 x_7 => if (decide (x_7 < n0)) = true then ((idx? v0.l x_7).bind fun x_11 => letN (IntKind.u64.wrap (d0 * (IntKind.u64.wrap x_11))) fun x_12 => (idx? u_4.l (IntKind.i64.wrap (j0 + x_7))).bind fun x_13 => letN (IntKind.u32.wrap (IntKind.u64.wrap (carry_5 + x_12))) fun x_14 => letN (IntKind.u64.wrap ((IntKind.u64.wrap x_13) - (IntKind.u64.wrap x_14))) fun x_15 => letN (IntKind.u32.wrap (IntKind.u64.wrap (x_15 - borrow_6))) fun x_16 => (idx? u_4.l (IntKind.i64.wrap (j0 + x_7))).bind fun x_17 => letN ((IntKind.u64.wrap (x_15 - borrow_6)) / 9223372036854775808) fun x_18 => letN ((IntKind.u64.wrap (carry_5 + x_12)) / 4294967296) fun x_19 => some (.inl (u_4.set (IntKind.i64.wrap (j0 + x_7)) x_16, x_19, x_18, IntKind.i64.wrap (x_7 + 1)))) else (some (.inr (u_4, carry_5, borrow_6)))) (u0v, 0, 0, 0)) (un3 fun u_1 carry_2 borrow_3 => (idx? u_1.l (IntKind.i64.wrap (j0 + n0))).bind fun x_20 => letN (IntKind.u64.wrap ((IntKind.u64.wrap x_20) - carry_2)) fun x_21 => letN (IntKind.u32.wrap (IntKind.u64.wrap (x_21 - borrow_3))) fun x_22 => (idx? u_1.l (IntKind.i64.wrap (j0 + n0))).bind fun x_23 => letN ((IntKind.u64.wrap (x_21 - borrow_3)) / 9223372036854775808) fun x_24 => some (decide (x_24 = 1), u_1.set (IntKind.i64.wrap (j0 + n0)) x_22))
theorem w_take_spec {F : Nat} {v0 : A16} {n0 : Int} {j0 : Int} {d0 : Int} {u0v : A17} {r : Bool × A17} (h : w_take_S F v0 n0 j0 d0 u0v = some r) : Meets Tryz.prog (tabs mx) 178 [(1, .box 186 ((eA17 .u32) u0v))] [.ptr 1 0, .agg (eW v0), .one (.i n0), .one (.i j0), .one (.int .u64 d0)] (Is [(1, .box 186 ((eA17 .u32) r.2))] (.b (.one (.bool r.1)))) := by
 unfold w_take_S at h
 refine Meets.intro 78 Tryz.func178 Tryz.ntmps178 rfl (by simp) fun E => ?_
 show Tri _ E ⟨78, [1], [1]⟩ _ ⟨[(0, Pt 1 0), (1, .b (.agg (eW v0))), (2, I n0), (3, I j0), (4, .b (.one (.int .u64 d0)))], [(1, .box 186 ((eA17 .u32) u0v))]⟩ _
 refine Tri.seq (Tri.regionL ?_)
 refine Oc (op_box (k := 101) rfl rfl) (Oc oa ?_)
 refine OpsL.nilS ⟨[(0, Pt 1 0), (2, I n0), (3, I j0), (4, .b (.one (.int .u64 d0))), (6, Pt 101 0)], [(1, .box 186 ((eA17 .u32) u0v)), (101, .box 23 (eW v0))]⟩ rfl (Tri.seq (Tri.regionL ?_))
 refine Oc oa (Oc oa ?_)
 refine OpsL.nilS ⟨[(0, _), (2, _), (3, _), (4, _), (6, _), (11, .b (.one (.int .u64 0))), (12, .b (.one (.int .u64 0)))], [(1, _), (101, _)]⟩ rfl ?_
 obtain ⟨v1, h2, h⟩ := bnd h
 refine Tri.seqJ (v := v1) (un3 fun (u_1 : A17) (carry_2 : Int) (borrow_3 : Int) => ⟨[(0, Pt 1 0), (2, I n0), (3, I j0), (11, .b (.one (.int .u64 carry_2))), (12, .b (.one (.int .u64 borrow_3)))], [(1, .box 186 ((eA17 .u32) u_1))]⟩) (fun z => z) ?_ ?_
 ·refine Tri.seq (Tri.regionL ?_)
  refine Oc om (Oc om ?_)
  refine OpsL.nilS ⟨[(0, _), (2, _), (3, _), (4, _), (6, _), (11, _), (12, _), (16, I n0), (17, I 0)], [(1, _), (101, _)]⟩ rfl (Tri.block (Tri.loopJ h2 (un4 fun (u_4 : A17) (carry_5 : Int) (borrow_6 : Int) (x_7 : Int) => ⟨[(0, Pt 1 0), (2, I n0), (3, I j0), (4, .b (.one (.int .u64 d0))), (6, Pt 101 0), (11, .b (.one (.int .u64 carry_5))), (12, .b (.one (.int .u64 borrow_6))), (16, I n0), (17, I x_7)], [(1, .box 186 ((eA17 .u32) u_4)), (101, .box 23 (eW v0))]⟩) [0, 2, 3, 4, 6, 11, 12, 16, 17] [1, 101] rfl ?_))
  rintro ⟨u_4, carry_5, borrow_6, x_7⟩ o3 h4 hy5
  refine Tri.seq (Tri.regionL ?_)
  refine Oc (op_lss rfl rfl) (OpsL.nilS ⟨[(0, _), (2, _), (3, _), (4, _), (6, _), (11, _), (12, _), (16, _), (17, _), (18, B (decide (x_7 < n0)))], [(1, _), (101, _)]⟩ rfl (Tri.seq (Tri.ite h4 rfl (fun _ h4 => ?_) (fun _ h4 => ?_))))
  ·refine Tri.skip (Fin.keepS ⟨[(0, _), (2, _), (3, _), (4, _), (6, _), (11, _), (12, _), (16, _), (17, _)], [(1, _), (101, _)]⟩ rfl (Fin.then (Tri.seq (Tri.block (Tri.seq (Tri.regionL ?_))))))
   refine Oc om (Oc oa ?_)
   refine OpsL.nilS ⟨[(0, _), (2, _), (3, _), (4, _), (6, _), (11, _), (12, _), (13, I x_7), (16, _), (17, _)], [(1, _), (101, _)]⟩ rfl (Tri.seq (Tri.regionL ?_))
   refine Oc om (Oc om (Oc om ?_))
   obtain ⟨x_11, e6, h4⟩ := bnd h4
   refine Oc (op_index_p tyArr23 (ix_lo e6) (ix_hi e6) rfl rfl rfl) (Oc (op_load_p1 tyOne22 rfl rfl (arr_get (post := []) (k := .u32) [] e6 rfl rfl rfl)) (Oc (op_conv_wrap undi22 undi145 rfl) ?_))
   refine OpsL.consI .u64 h4 rfl (op_mul rfl rfl) (fun x_12 h4 => ?_)
   refine Oc (op_add rfl rfl) (Oc oa ?_)
   refine OpsL.nilS ⟨[(0, _), (2, _), (3, _), (4, _), (6, _), (11, .b (.one (.int .u64 (IntKind.u64.wrap (carry_5 + x_12))))), (12, _), (13, _), (16, _), (17, _)], [(1, _), (101, _)]⟩ rfl (Tri.seq (Tri.regionL ?_))
   refine Oc om (Oc om (Oc om (Oc (op_add rfl rfl) (Oc (op_nilCheck_p rfl) ?_))))
   obtain ⟨x_13, e7, h4⟩ := bnd h4
   refine Oc (op_index_p tyArr186 (ix_lo e7) (ix_hi e7) rfl rfl rfl) (Oc (op_load_p1 tyOne22 rfl rfl (arr_get (post := []) (k := .u32) [] e7 rfl rfl rfl)) ?_)
   refine OpsL.keepS ⟨[(0, _), (2, _), (3, _), (4, _), (6, _), (11, _), (12, _), (13, _), (16, _), (17, _), (34, .b (.one (.int .u32 x_13)))], [(1, _), (101, _)]⟩ rfl (Oc (op_conv_wrap undi22 undi145 rfl) (Oc om ?_))
   refine OpsL.consI .u32 h4 rfl (op_conv_wrap undi145 undi22 rfl) (fun x_14 h4 => ?_)
   refine Oc (op_conv_wrap undi22 undi145 rfl) (OpsL.consI .u64 h4 rfl (op_sub rfl rfl) (fun x_15 h4 => ?_))
   refine Oc om (Oc (op_sub rfl rfl) (Oc oa ?_))
   refine OpsL.nilS ⟨[(0, _), (2, _), (3, _), (4, _), (6, _), (11, _), (13, _), (14, .b (.one (.int .u64 (IntKind.u64.wrap (x_15 - borrow_6))))), (16, _), (17, _)], [(1, _), (101, _)]⟩ rfl (Tri.seq (Tri.regionL ?_))
   refine Oc om (Oc om (Oc om (Oc (op_add rfl rfl) (Oc om ?_))))
   refine OpsL.consI .u32 h4 rfl (op_conv_wrap undi145 undi22 rfl) (fun x_16 h4 => ?_)
   refine Oc (op_nilCheck_p rfl) ?_
   obtain ⟨x_17, e8, h4⟩ := bnd h4
   refine Oc (op_index_p tyArr186 (ix_lo e8) (ix_hi e8) rfl rfl rfl) (Oc (op_store_p1 tyOne22 rfl rfl rfl (arr_lt (post := []) (k := .u32) [] e8 rfl rfl rfl) (arr_set (post := []) (k := .u32) [] e8 rfl rfl (A17.set_l u_4 (IntKind.i64.wrap (j0 + x_7)) x_16) rfl rfl)) ?_)
   refine OpsL.nilS ⟨[(0, _), (2, _), (3, _), (4, _), (6, _), (11, _), (14, _), (16, _), (17, _)], [(1, .box 186 ((eA17 .u32) (u_4.set (IntKind.i64.wrap (j0 + x_7)) x_16))), (101, _)]⟩ rfl (Tri.seq (Tri.regionL ?_))
   refine Oc om (OpsL.consI .u64 h4 rfl (op_shr2 (m := 63) (by decide) rfl rfl rfl) (fun x_18 h4 => ?_))
   refine Oc oa (OpsL.nilS ⟨[(0, _), (2, _), (3, _), (4, _), (6, _), (11, _), (12, .b (.one (.int .u64 x_18))), (16, _), (17, _)], [(1, _), (101, _)]⟩ rfl (Tri.regionL (Oc om (OpsL.consI .u64 h4 rfl (op_shr2 (m := 32) (by decide) rfl rfl rfl) (fun x_19 h4 => ?_)))))
   refine Oc oa (OpsL.nil (Fin.block_normal (Fin.keepS ⟨[(0, _), (2, _), (3, _), (4, _), (6, _), (11, .b (.one (.int .u64 x_19))), (12, _), (16, _), (17, _)], [(1, _), (101, _)]⟩ rfl (Fin.then (Tri.regionL ?_)))))
   refine Oc (op_add rfl rfl) (Oc om ?_)
   refine OpsL.nil ?_
   exact Fin.againJ [0, 2, 3, 4, 6, 11, 12, 16, 17] [1, 101] (u_4.set (IntKind.i64.wrap (j0 + x_7)) x_16, x_19, x_18, IntKind.i64.wrap (x_7 + 1)) (Option.some.inj h4) rfl
  ·refine Tri.exit (Fin.then_exit ?_)
   obtain rfl := hy5 _ (Option.some.inj h4).symm
   refine Fin.then_exit (Fin.block_exit ?_)
   exact Fin.join [0, 2, 3, 11, 12] [1] (u_4, carry_5, borrow_6) rfl rfl
 ·rintro ⟨u_1, carry_2, borrow_3⟩ hv
  subst v1
  refine Tri.seq (Tri.regionL ?_)
  refine Oc om (Oc om (Oc om (Oc (op_add rfl rfl) (Oc (op_nilCheck_p rfl) ?_))))
  obtain ⟨x_20, e9, h⟩ := bnd h
  refine Oc (op_index_p tyArr186 (ix_lo e9) (ix_hi e9) rfl rfl rfl) (Oc (op_load_p1 tyOne22 rfl rfl (arr_get (post := []) (k := .u32) [] e9 rfl rfl rfl)) ?_)
  refine OpsL.keepS ⟨[(0, _), (2, _), (3, _), (11, _), (12, _), (61, .b (.one (.int .u32 x_20)))], [(1, _)]⟩ rfl (Oc (op_conv_wrap undi22 undi145 rfl) (Oc om ?_))
  refine OpsL.consI .u64 h rfl (op_sub rfl rfl) (fun x_21 h => ?_)
  refine Oc om (Oc (op_sub rfl rfl) (Oc oa ?_))
  refine OpsL.nilS ⟨[(0, _), (2, _), (3, _), (15, .b (.one (.int .u64 (IntKind.u64.wrap (x_21 - borrow_3)))))], [(1, _)]⟩ rfl (Tri.seq (Tri.regionL ?_))
  refine Oc om (Oc om (Oc om (Oc (op_add rfl rfl) (Oc om ?_))))
  refine OpsL.consI .u32 h rfl (op_conv_wrap undi145 undi22 rfl) (fun x_22 h => ?_)
  refine Oc (op_nilCheck_p rfl) ?_
  obtain ⟨x_23, e10, h⟩ := bnd h
  refine Oc (op_index_p tyArr186 (ix_lo e10) (ix_hi e10) rfl rfl rfl) (Oc (op_store_p1 tyOne22 rfl rfl rfl (arr_lt (post := []) (k := .u32) [] e10 rfl rfl rfl) (arr_set (post := []) (k := .u32) [] e10 rfl rfl (A17.set_l u_1 (IntKind.i64.wrap (j0 + n0)) x_22) rfl rfl)) ?_)
  refine OpsL.nilS ⟨[(15, _)], [(1, .box 186 ((eA17 .u32) (u_1.set (IntKind.i64.wrap (j0 + n0)) x_22)))]⟩ rfl (Tri.seq (Tri.regionL ?_))
  refine Oc om (OpsL.consI .u64 h rfl (op_shr2 (m := 63) (by decide) rfl rfl rfl) (fun x_24 h => ?_))
  refine Oc (op_eql rfl rfl) (Oc oa ?_)
  refine OpsL.nilS ⟨[(10, B (decide (x_24 = 1)))], [(1, _)]⟩ rfl (Tri.ret ?_)
  obtain rfl := Option.some.inj h
  refine Fin.keepS ⟨[(10, _)], [(1, _)]⟩ rfl ?_
  exact Fin.result [.one (.bool (decide (x_24 = 1)))] (.inl rfl) rfl (.cons (.tmp rfl) .nil) ⟨rfl, rfl⟩
def w_give_S (F : Nat) (v0 : A16) (n0 : Int) (j0 : Int) (u0v : A17) : Option A17 :=
 Option.bind (iter F (un3 fun u_3 carry_4 x_5 => if (decide (x_5 < n0)) = true then ((idx? u_3.l (IntKind.i64.wrap (j0 + x_5))).bind fun x_8 => (idx? v0.l x_5).bind fun x_9 => letN (IntKind.u64.wrap (carry_4 + (IntKind.u64.wrap ((IntKind.u64.wrap x_8) + (IntKind.u64.wrap x_9))))) fun x_10 => (idx? u_3.l (IntKind.i64.wrap (j0 + x_5))).bind fun x_11 => letN (IntKind.u64.wrap (carry_4 + (IntKind.u64.wrap ((IntKind.u64.wrap x_8) + (IntKind.u64.wrap x_9))))) fun x_12 => some (.inl (u_3.set (IntKind.i64.wrap (j0 + x_5)) (IntKind.u32.wrap x_10), x_12 / 4294967296, IntKind.i64.wrap (x_5 + 1)))) else (some (.inr (u_3, carry_4)))) (u0v, 0, 0)) (un2 fun u_1 carry_2 => (idx? u_1.l (IntKind.i64.wrap (j0 + n0))).bind fun x_13 => (idx? u_1.l (IntKind.i64.wrap (j0 + n0))).bind fun x_14 => some (u_1.set (IntKind.i64.wrap (j0 + n0)) (IntKind.u32.wrap (x_13 + (IntKind.u32.wrap carry_2)))))
theorem w_give_spec {F : Nat} {v0 : A16} {n0 : Int} {j0 : Int} {u0v : A17} {r : A17} (h : w_give_S F v0 n0 j0 u0v = some r) : Meets Tryz.prog (tabs mx) 179 [(1, .box 186 ((eA17 .u32) u0v))] [.ptr 1 0, .agg (eW v0), .one (.i n0), .one (.i j0)] (Is [(1, .box 186 ((eA17 .u32) r))] (.tup [])) := by
 unfold w_give_S at h
 refine Meets.intro 52 Tryz.func179 Tryz.ntmps179 rfl (by simp) fun E => ?_
 show Tri _ E ⟨52, [1], [1]⟩ _ ⟨[(0, Pt 1 0), (1, .b (.agg (eW v0))), (2, I n0), (3, I j0)], [(1, .box 186 ((eA17 .u32) u0v))]⟩ _
 refine Tri.seq (Tri.regionL ?_)
 refine Oc (op_box (k := 101) rfl rfl) (OpsL.nilS ⟨[(0, Pt 1 0), (2, I n0), (3, I j0), (5, Pt 101 0)], [(1, .box 186 ((eA17 .u32) u0v)), (101, .box 23 (eW v0))]⟩ rfl (Tri.seq (Tri.regionL ?_)))
 refine Oc oa (OpsL.nilS ⟨[(0, _), (2, _), (3, _), (5, _), (8, .b (.one (.int .u64 0)))], [(1, _), (101, _)]⟩ rfl ?_)
 obtain ⟨v1, h2, h⟩ := bnd h
 refine Tri.seqJ (v := v1) (un2 fun (u_1 : A17) (carry_2 : Int) => ⟨[(0, Pt 1 0), (2, I n0), (3, I j0), (8, .b (.one (.int .u64 carry_2)))], [(1, .box 186 ((eA17 .u32) u_1))]⟩) (fun z => z) ?_ ?_
 ·refine Tri.seq (Tri.regionL ?_)
  refine Oc om (Oc om ?_)
  refine OpsL.nilS ⟨[(0, _), (2, _), (3, _), (5, _), (8, _), (10, I n0), (11, I 0)], [(1, _), (101, _)]⟩ rfl (Tri.block (Tri.loopJ h2 (un3 fun (u_3 : A17) (carry_4 : Int) (x_5 : Int) => ⟨[(0, Pt 1 0), (2, I n0), (3, I j0), (5, Pt 101 0), (8, .b (.one (.int .u64 carry_4))), (10, I n0), (11, I x_5)], [(1, .box 186 ((eA17 .u32) u_3)), (101, .box 23 (eW v0))]⟩) [0, 2, 3, 5, 8, 10, 11] [1, 101] rfl ?_))
  rintro ⟨u_3, carry_4, x_5⟩ o3 h4 hy5
  refine Tri.seq (Tri.regionL ?_)
  refine Oc (op_lss rfl rfl) (OpsL.nilS ⟨[(0, _), (2, _), (3, _), (5, _), (8, _), (10, _), (11, _), (12, B (decide (x_5 < n0)))], [(1, _), (101, _)]⟩ rfl (Tri.seq (Tri.ite h4 rfl (fun _ h4 => ?_) (fun _ h4 => ?_))))
  ·refine Tri.skip (Fin.keepS ⟨[(0, _), (2, _), (3, _), (5, _), (8, _), (10, _), (11, _)], [(1, _), (101, _)]⟩ rfl (Fin.then (Tri.seq (Tri.block (Tri.seq (Tri.regionL ?_))))))
   refine Oc om (Oc oa ?_)
   refine OpsL.nilS ⟨[(0, _), (2, _), (3, _), (5, _), (8, _), (9, I x_5), (10, _), (11, _)], [(1, _), (101, _)]⟩ rfl (Tri.seq ?_)
   obtain ⟨x_8, e6, h4⟩ := bnd h4
   obtain ⟨x_9, e7, h4⟩ := bnd h4
   refine Tri.regionY mixed 15 [.b (.one (.int .u64 carry_4)), Pt 1 0, I j0, I x_5, I (IntKind.i64.wrap (j0 + x_5)), Pt 1 0, .b (.ptr 1 (0 + (IntKind.i64.wrap (j0 + x_5) : Int).toNat * 1)), .b (.one (.int .u32 x_8)), .b (.one (.int .u64 (IntKind.u64.wrap x_8))), I x_5, .b (.ptr 101 (0 + (x_5 : Int).toNat * 1)), .b (.one (.int .u32 x_9)), .b (.one (.int .u64 (IntKind.u64.wrap x_9))), .b (.one (.int .u64 (IntKind.u64.wrap ((IntKind.u64.wrap x_8) + (IntKind.u64.wrap x_9))))), .b (.one (.int .u64 (IntKind.u64.wrap (carry_4 + (IntKind.u64.wrap ((IntKind.u64.wrap x_8) + (IntKind.u64.wrap x_9)))))))] [0, 2, 3, 5, 8, 9, 10, 11] [1, 101] (s' := ⟨[(0, _), (2, _), (3, _), (5, _), (8, .b (.one (.int .u64 (IntKind.u64.wrap (carry_4 + (IntKind.u64.wrap ((IntKind.u64.wrap x_8) + (IntKind.u64.wrap x_9)))))))), (9, _), (10, _), (11, _)], [(1, _), (101, _)]⟩) rfl ⟨fun _ => .p om, fun _ => .p om, fun _ => .p om, fun _ => .p om, fun _ => .p (op_add rfl rfl), fun _ => .p (op_nilCheck_p rfl), fun _ => .p (op_index_p tyArr186 (ix_lo e6) (ix_hi e6) rfl rfl rfl), fun _ => .p (op_load_p1 tyOne22 rfl rfl (arr_get (post := []) (k := .u32) [] e6 rfl rfl rfl)), fun _ => .p (op_conv_wrap undi22 undi145 rfl), fun _ => .p om, fun _ => .p (op_index_p tyArr23 (ix_lo e7) (ix_hi e7) rfl rfl rfl), fun _ => .p (op_load_p1 tyOne22 rfl rfl (arr_get (post := []) (k := .u32) [] e7 rfl rfl rfl)), fun _ => .p (op_conv_wrap undi22 undi145 rfl), fun _ => .p (op_add rfl rfl), fun _ => .p (op_add rfl rfl), trivial⟩ ⟨_, by exact .p oa, rfl⟩ rfl (Tri.seq (Tri.regionL ?_))
   refine Oc om (Oc om (Oc om (Oc (op_add rfl rfl) ?_)))
   refine OpsL.consI .u64 h4 rfl om (fun x_10 h4 => ?_)
   refine Oc (op_conv_wrap undi145 undi22 rfl) (Oc (op_nilCheck_p rfl) ?_)
   obtain ⟨x_11, e8, h4⟩ := bnd h4
   refine Oc (op_index_p tyArr186 (ix_lo e8) (ix_hi e8) rfl rfl rfl) (Oc (op_store_p1 tyOne22 rfl rfl rfl (arr_lt (post := []) (k := .u32) [] e8 rfl rfl rfl) (arr_set (post := []) (k := .u32) [] e8 rfl rfl (A17.set_l u_3 (IntKind.i64.wrap (j0 + x_5)) (IntKind.u32.wrap x_10)) rfl rfl)) ?_)
   refine OpsL.nilS ⟨[(0, _), (2, _), (3, _), (5, _), (8, _), (10, _), (11, _)], [(1, .box 186 ((eA17 .u32) (u_3.set (IntKind.i64.wrap (j0 + x_5)) (IntKind.u32.wrap x_10)))), (101, _)]⟩ rfl (Tri.regionL (OpsL.consI .u64 h4 rfl om (fun x_12 h4 => ?_)))
   refine Oc (op_shr2 (m := 32) (by decide) rfl rfl rfl) (Oc oa ?_)
   refine OpsL.nil (Fin.block_normal (Fin.keepS ⟨[(0, _), (2, _), (3, _), (5, _), (8, .b (.one (.int .u64 (x_12 / 4294967296)))), (10, _), (11, _)], [(1, _), (101, _)]⟩ rfl (Fin.then (Tri.regionL ?_))))
   refine Oc (op_add rfl rfl) (Oc om ?_)
   refine OpsL.nil ?_
   exact Fin.againJ [0, 2, 3, 5, 8, 10, 11] [1, 101] (u_3.set (IntKind.i64.wrap (j0 + x_5)) (IntKind.u32.wrap x_10), x_12 / 4294967296, IntKind.i64.wrap (x_5 + 1)) (Option.some.inj h4) rfl
  ·refine Tri.exit (Fin.then_exit ?_)
   obtain rfl := hy5 _ (Option.some.inj h4).symm
   refine Fin.then_exit (Fin.block_exit ?_)
   exact Fin.join [0, 2, 3, 8] [1] (u_3, carry_4) rfl rfl
 ·rintro ⟨u_1, carry_2⟩ hv
  subst v1
  refine Tri.keepS ⟨[(0, _), (2, _), (3, _), (8, _)], [(1, _)]⟩ rfl ?_
  obtain ⟨x_13, e9, h⟩ := bnd h
  obtain ⟨x_14, e10, h⟩ := bnd h
  refine Tri.regionYF mixed 12 [Pt 1 0, I j0, I n0, I (IntKind.i64.wrap (j0 + n0)), Pt 1 0, .b (.ptr 1 (0 + (IntKind.i64.wrap (j0 + n0) : Int).toNat * 1)), .b (.one (.int .u32 x_13)), .b (.one (.int .u64 carry_2)), .b (.one (.int .u32 (IntKind.u32.wrap carry_2))), .b (.one (.int .u32 (IntKind.u32.wrap (x_13 + (IntKind.u32.wrap carry_2))))), Pt 1 0, .b (.ptr 1 (0 + (IntKind.i64.wrap (j0 + n0) : Int).toNat * 1))] [] [1] (s' := ⟨[], [(1, .box 186 ((eA17 .u32) (u_1.set (IntKind.i64.wrap (j0 + n0)) (IntKind.u32.wrap (x_13 + (IntKind.u32.wrap carry_2))))))]⟩) rfl ⟨fun _ => .p om, fun _ => .p om, fun _ => .p om, fun _ => .p (op_add rfl rfl), fun _ => .p (op_nilCheck_p rfl), fun _ => .p (op_index_p tyArr186 (ix_lo e9) (ix_hi e9) rfl rfl rfl), fun _ => .p (op_load_p1 tyOne22 rfl rfl (arr_get (post := []) (k := .u32) [] e9 rfl rfl rfl)), fun _ => .p om, fun _ => .p (op_conv_wrap undi145 undi22 rfl), fun _ => .p (op_add rfl rfl), fun _ => .p (op_nilCheck_p rfl), fun _ => .p (op_index_p tyArr186 (ix_lo e10) (ix_hi e10) rfl rfl rfl), trivial⟩ ⟨_, by exact .p (op_store_p1 tyOne22 rfl rfl rfl (arr_lt (post := []) (k := .u32) [] e10 rfl rfl rfl) (arr_set (post := []) (k := .u32) [] e10 rfl rfl (A17.set_l u_1 (IntKind.i64.wrap (j0 + n0)) (IntKind.u32.wrap (x_13 + (IntKind.u32.wrap carry_2)))) rfl rfl)), rfl⟩ rfl ?_
  obtain rfl := Option.some.inj h
  refine Fin.keepS ⟨[], [(1, _)]⟩ rfl ?_
  exact Fin.result [] (.inr rfl) rfl (.nil) ⟨rfl, rfl⟩
def w_down_S (F : Nat) (w0 : A16) (n0 : Int) : Option A16 :=
 Option.bind (iter F (un2 fun out_2 x_3 => if (decide (x_3 < 16)) = true then (Option.bind (Option.bind (if (decide ((IntKind.i64.wrap (x_3 + 1)) < 16)) = true then ((idx? w0.l (IntKind.i64.wrap (x_3 + 1))).bind fun x_7 => some (IntKind.u64.wrap x_7)) else (some 0)) (fun next_6 => letN (IntKind.u64.wrap (next_6 * 4294967296)) fun x_8 => (idx? w0.l x_3).bind fun x_9 => Option.bind (shr? .u64 (ior .u64 x_8 (IntKind.u64.wrap x_9)) n0) (fun x_10 => (idx? out_2.l x_3).bind fun x_11 => some (out_2.set x_3 (IntKind.u32.wrap x_10))))) (fun out_5 => some (.inl (out_5, IntKind.i64.wrap (x_3 + 1))))) else (some (.inr out_2))) (A16.zero, 0)) (fun out_1 => some out_1)
theorem w_down_spec {F : Nat} {w0 : A16} {n0 : Int} {r : A16} (h : w_down_S F w0 n0 = some r) : Meets Tryz.prog (tabs mx) 180 [] [.agg (eW w0), .one (.i n0)] (Is [] (.b (.agg (eW r)))) := by
 unfold w_down_S at h
 refine Meets.intro 33 Tryz.func180 Tryz.ntmps180 rfl (by simp) fun E => ?_
 show Tri _ E ⟨33, [], []⟩ _ ⟨[(0, .b (.agg (eW w0))), (1, I n0)], []⟩ _
 refine Tri.seq (Tri.regionL ?_)
 refine Oc (op_box (k := 101) rfl rfl) (Oc (op_alloc (k := 102) tyZero23 rfl) ?_)
 refine OpsL.nilS ⟨[(1, I n0), (2, Pt 101 0), (4, Pt 102 0)], [(101, .box 23 (eW w0)), (102, .box 23 (eW A16.zero))]⟩ rfl (Tri.seq (Tri.regionL ?_))
 refine Oc (op_alloc (k := 103) tyZero23 rfl) (OpsL.nilS ⟨[(1, _), (2, _), (4, _), (5, Pt 103 0)], [(101, _), (102, _), (103, .box 23 (eW A16.zero))]⟩ rfl ?_)
 obtain ⟨v1, h2, h⟩ := bnd h
 refine Tri.seqJ (v := v1) (fun (out_1 : A16) => ⟨[(4, Pt 102 0), (5, Pt 103 0)], [(102, .box 23 (eW A16.zero)), (103, .box 23 (eW out_1))]⟩) (fun z => z) ?_ ?_
 ·refine Tri.seq (Tri.regionL ?_)
  refine Oc om (OpsL.nilS ⟨[(1, _), (2, _), (4, _), (5, _), (8, I 0)], [(101, _), (102, _), (103, _)]⟩ rfl (Tri.block (Tri.loopJ h2 (un2 fun (out_2 : A16) (x_3 : Int) => ⟨[(1, I n0), (2, Pt 101 0), (4, Pt 102 0), (5, Pt 103 0), (8, I x_3)], [(101, .box 23 (eW w0)), (102, .box 23 (eW A16.zero)), (103, .box 23 (eW out_2))]⟩) [1, 2, 4, 5, 8] [101, 102, 103] rfl ?_)))
  rintro ⟨out_2, x_3⟩ o3 h4 hy5
  refine Tri.seq (Tri.regionL ?_)
  refine Oc (op_lss rfl rfl) (OpsL.nilS ⟨[(1, _), (2, _), (4, _), (5, _), (8, _), (9, B (decide (x_3 < 16)))], [(101, _), (102, _), (103, _)]⟩ rfl (Tri.seq (Tri.ite h4 rfl (fun _ h4 => ?_) (fun _ h4 => ?_))))
  ·refine Tri.skip (Fin.keepS ⟨[(1, _), (2, _), (4, _), (5, _), (8, _)], [(101, _), (102, _), (103, _)]⟩ rfl (Fin.then ?_))
   obtain ⟨v6, h7, h4⟩ := bnd h4
   refine Tri.seqJ (v := v6) (fun (out_5 : A16) => ⟨[(1, I n0), (2, Pt 101 0), (4, Pt 102 0), (5, Pt 103 0), (8, I x_3)], [(101, .box 23 (eW w0)), (102, .box 23 (eW A16.zero)), (103, .box 23 (eW out_5))]⟩) (fun z => z) ?_ ?_
   ·refine Tri.block (Tri.seq (Tri.regionL ?_))
    refine Oc om (Oc oa ?_)
    refine OpsL.nilS ⟨[(1, _), (2, _), (4, _), (5, _), (6, I x_3), (8, _)], [(101, _), (102, _), (103, _)]⟩ rfl (Tri.seq (Tri.regionL ?_))
    refine Oc oa (OpsL.nilS ⟨[(1, _), (2, _), (4, _), (5, _), (6, _), (7, .b (.one (.int .u64 0))), (8, _)], [(101, _), (102, _), (103, _)]⟩ rfl ?_)
    obtain ⟨v8, h9, h7⟩ := bnd h7
    refine Tri.seqJ (v := v8) (fun (next_6 : Int) => ⟨[(1, I n0), (2, Pt 101 0), (4, Pt 102 0), (5, Pt 103 0), (6, I x_3), (7, .b (.one (.int .u64 next_6))), (8, I x_3)], [(101, .box 23 (eW w0)), (102, .box 23 (eW A16.zero)), (103, .box 23 (eW out_2))]⟩) (fun z => z) ?_ ?_
    ·refine Tri.seq (Tri.regionL ?_)
     refine Oc om (Oc (op_add rfl rfl) (Oc (op_lss rfl rfl) ?_))
     refine OpsL.nilS ⟨[(1, _), (2, _), (4, _), (5, _), (6, _), (7, _), (8, _), (13, B (decide ((IntKind.i64.wrap (x_3 + 1)) < 16)))], [(101, _), (102, _), (103, _)]⟩ rfl (Tri.ite h9 rfl (fun _ h9 => ?_) (fun _ h9 => ?_))
     ·refine Tri.regionL (Oc om (Oc (op_add rfl rfl) ?_))
      obtain ⟨x_7, e10, h9⟩ := bnd h9
      refine Oc (op_index_p tyArr23 (ix_lo e10) (ix_hi e10) rfl rfl rfl) (Oc (op_load_p1 tyOne22 rfl rfl (arr_get (post := []) (k := .u32) [] e10 rfl rfl rfl)) (Oc (op_conv_wrap undi22 undi145 rfl) (Oc oa ?_)))
      refine OpsL.nil ?_
      exact Fin.join [1, 2, 4, 5, 6, 7, 8] [101, 102, 103] (IntKind.u64.wrap x_7) (Option.some.inj h9) rfl
     ·refine Tri.skip ?_
      exact Fin.join [1, 2, 4, 5, 6, 7, 8] [101, 102, 103] 0 (Option.some.inj h9) rfl
    ·rintro next_6 hv
     subst v8
     refine Tri.regionL (Oc om (Oc om ?_))
     refine OpsL.consI .u64 h7 rfl (op_shl0 (m := 32) (q := 4294967296) (by decide) rfl rfl (by decide)) (fun x_8 h7 => ?_)
     refine Oc om ?_
     obtain ⟨x_9, e11, h7⟩ := bnd h7
     refine Oc (op_index_p tyArr23 (ix_lo e11) (ix_hi e11) rfl rfl rfl) (Oc (op_load_p1 tyOne22 rfl rfl (arr_get (post := []) (k := .u32) [] e11 rfl rfl rfl)) (Oc (op_conv_wrap undi22 undi145 rfl) ?_))
     refine OpsL.keepS ⟨[(1, _), (2, _), (4, _), (5, _), (8, _), (19, I x_3), (21, .b (.one (.int .u64 x_8))), (25, .b (.one (.int .u64 (IntKind.u64.wrap x_9))))], [(101, _), (102, _), (103, _)]⟩ rfl (Oc (op_or rfl rfl) (Oc om ?_))
     obtain ⟨x_10, e12, h7⟩ := bnd h7
     refine Oc (op_shr3 e12 rfl rfl) (Oc (op_conv_wrap undi145 undi22 rfl) ?_)
     obtain ⟨x_11, e13, h7⟩ := bnd h7
     refine Oc (op_index_p tyArr23 (ix_lo e13) (ix_hi e13) rfl rfl rfl) (Oc (op_store_p1 tyOne22 rfl rfl rfl (arr_lt (post := []) (k := .u32) [] e13 rfl rfl rfl) (arr_set (post := []) (k := .u32) [] e13 rfl rfl (A16.set_l out_2 x_3 (IntKind.u32.wrap x_10)) rfl rfl)) ?_)
     refine OpsL.nil (Fin.block_normal ?_)
     exact Fin.join [1, 2, 4, 5, 8] [101, 102, 103] (out_2.set x_3 (IntKind.u32.wrap x_10)) (Option.some.inj h7) rfl
   ·rintro out_5 hv
    subst v6
    refine Tri.regionL (Oc (op_add rfl rfl) (Oc om ?_))
    refine OpsL.nil ?_
    exact Fin.againJ [1, 2, 4, 5, 8] [101, 102, 103] (out_5, IntKind.i64.wrap (x_3 + 1)) (Option.some.inj h4) rfl
  ·refine Tri.exit (Fin.then_exit ?_)
   obtain rfl := hy5 _ (Option.some.inj h4).symm
   refine Fin.then_exit (Fin.block_exit ?_)
   exact Fin.join [4, 5] [102, 103] out_2 rfl rfl
 ·rintro out_1 hv
  subst v1
  refine Tri.seq (Tri.regionL ?_)
  refine Oc (lp tyAgg23) (Oc (op_store_p tyAgg23 rfl rfl rfl rfl (Nat.le_of_ble_eq_true rfl) rfl) ?_)
  refine OpsL.nilS ⟨[(4, _)], [(102, .box 23 (eW out_1))]⟩ rfl (Tri.ret ?_)
  obtain rfl := Option.some.inj h
  refine Fin.keepS ⟨[(4, _)], [(102, _)]⟩ rfl (Fin.result' [.agg (eW out_1)] (.inl rfl) rfl (.cons (.agg tyAgg23 rfl rfl rfl rfl) .nil) ⟨rfl, rfl⟩)
def w_quotient_S (F : Nat) (a0 : A16) (b0 : A16) : Option (A16 × A16) :=
 (w_size_S F b0).bind fun x_1 => (w_size_S F a0).bind fun x_2 => (w_order_S F a0 b0).bind fun x_3 => if (decide (x_3 < 0)) = true then (some (A16.zero, a0)) else (if (decide (x_1 = 1)) = true then (Option.bind (w_short_S F a0 b0.a0) (un2 fun x_4 x_5 => letN (⟨x_5, 0, 0, 0, 0, 0, 0, 0, 0, 0, 0, 0, 0, 0, 0, 0⟩ : A16) fun x_6 => some (x_4, x_6))) else ((idx? b0.l (IntKind.i64.wrap (x_1 - 1))).bind fun x_7 => (bits_LeadingZeros32_S F x_7).bind fun x_8 => Option.bind (w_up_S F b0 x_8) (un2 fun x_9 x_10 => Option.bind (w_up_S F a0 x_8) (un2 fun x_11 x_12 => Option.bind (iter F (un3 fun q_15 u_16 j_17 => if (decide (0 ≤ j_17)) = true then (Option.bind ((w_guess_S F x_9 x_1 j_17 u_16).bind fun x_22 => Option.bind (Option.bind (w_take_S F x_9 x_1 j_17 x_22 u_16) (un2 fun x_25 x_26 => if x_25 = true then ((w_give_S F x_9 x_1 j_17 x_26).bind fun x_27 => some (x_27, IntKind.u64.wrap (x_22 - 1))) else (some (x_26, x_22)))) (un2 fun u_23 d_24 => (idx? q_15.l j_17).bind fun x_28 => some (q_15.set j_17 (IntKind.u32.wrap d_24), u_23))) (un2 fun q_20 u_21 => some (.inl (q_20, u_21, IntKind.i64.wrap (j_17 - 1))))) else (some (.inr (q_15, u_16)))) (A16.zero, (⟨(A17.of (spliceE A17.zero.l 0 ((x_11.l.drop 0).take 16))).a0, (A17.of (spliceE A17.zero.l 0 ((x_11.l.drop 0).take 16))).a1, (A17.of (spliceE A17.zero.l 0 ((x_11.l.drop 0).take 16))).a2, (A17.of (spliceE A17.zero.l 0 ((x_11.l.drop 0).take 16))).a3, (A17.of (spliceE A17.zero.l 0 ((x_11.l.drop 0).take 16))).a4, (A17.of (spliceE A17.zero.l 0 ((x_11.l.drop 0).take 16))).a5, (A17.of (spliceE A17.zero.l 0 ((x_11.l.drop 0).take 16))).a6, (A17.of (spliceE A17.zero.l 0 ((x_11.l.drop 0).take 16))).a7, (A17.of (spliceE A17.zero.l 0 ((x_11.l.drop 0).take 16))).a8, (A17.of (spliceE A17.zero.l 0 ((x_11.l.drop 0).take 16))).a9, (A17.of (spliceE A17.zero.l 0 ((x_11.l.drop 0).take 16))).a10, (A17.of (spliceE A17.zero.l 0 ((x_11.l.drop 0).take 16))).a11, (A17.of (spliceE A17.zero.l 0 ((x_11.l.drop 0).take 16))).a12, (A17.of (spliceE A17.zero.l 0 ((x_11.l.drop 0).take 16))).a13, (A17.of (spliceE A17.zero.l 0 ((x_11.l.drop 0).take 16))).a14, (A17.of (spliceE A17.zero.l 0 ((x_11.l.drop 0).take 16))).a15, x_12⟩ : A17), IntKind.i64.wrap (x_2 - x_1))) (un2 fun q_13 u_14 => (w_down_S F (⟨u_14.a0, u_14.a1, u_14.a2, u_14.a3, u_14.a4, u_14.a5, u_14.a6, u_14.a7, u_14.a8, u_14.a9, u_14.a10, u_14.a11, u_14.a12, u_14.a13, u_14.a14, u_14.a15⟩ : A16) x_8).bind fun x_29 => some (q_13, x_29))))))
theorem w_quotient_spec {F : Nat} {a0 : A16} {b0 : A16} {r : A16 × A16} (h : w_quotient_S F a0 b0 = some r) : Meets Tryz.prog (tabs mx) 138 [] [.agg (eW a0), .agg (eW b0)] (Is [] (.tup [.agg (eW r.1), .agg (eW r.2)])) := by
 unfold w_quotient_S at h
 refine Meets.intro 94 Tryz.func138 Tryz.ntmps138 rfl (by simp) fun E => ?_
 show Tri _ E ⟨94, [], []⟩ _ ⟨[(0, .b (.agg (eW a0))), (1, .b (.agg (eW b0)))], []⟩ _
 refine Tri.seq (Tri.regionL ?_)
 refine Oc (op_box (k := 101) rfl rfl) (Oc (op_box (k := 102) rfl rfl) (Oc (op_alloc (k := 103) tyZero23 rfl) (Oc (op_alloc (k := 104) tyZero23 rfl) ?_)))
 refine OpsL.nilS ⟨[(2, Pt 101 0), (3, Pt 102 0), (4, Pt 103 0), (5, Pt 104 0)], [(101, .box 23 (eW a0)), (102, .box 23 (eW b0)), (103, .box 23 (eW A16.zero)), (104, .box 23 (eW A16.zero))]⟩ rfl (Tri.seq ?_)
 obtain ⟨x_1, e1, h⟩ := bnd h
 obtain ⟨x_2, e2, h⟩ := bnd h
 refine Tri.regionY mixed 6 [.b (.agg (eW b0)), I x_1, .b (.agg (eW a0)), I x_2, I x_1, I x_2] [2, 3, 4, 5, 6, 7] [101, 102, 103, 104] (s' := ⟨[(2, _), (3, _), (4, _), (5, _), (6, I x_1), (7, I x_2)], [(101, _), (102, _), (103, _), (104, _)]⟩) rfl ⟨fun _ => .p (lp tyAgg23), fun _ => .p (op_call0 (w_size_spec e1) goes137 rfl rfl), fun _ => .p (lp tyAgg23), fun _ => .p (op_call0 (w_size_spec e2) goes137 rfl rfl), fun _ => .p oa, fun _ => .p oa, trivial⟩ rfl rfl (Tri.seq (Tri.seq (Tri.regionL ?_)))
 refine Oc (lp tyAgg23) (Oc (lp tyAgg23) ?_)
 obtain ⟨x_3, e3, h⟩ := bnd h
 refine Oc (op_call0 (w_order_spec e3) goes142 rfl rfl) (Oc (op_lss rfl rfl) ?_)
 refine OpsL.nilS ⟨[(2, _), (3, _), (4, _), (5, _), (6, _), (7, _), (25, B (decide (x_3 < 0)))], [(101, _), (102, _), (103, _), (104, _)]⟩ rfl (Tri.ite h rfl (fun _ h => ?_) (fun _ h => ?_))
 ·refine Tri.seq (Tri.keepS ⟨[(2, _), (4, _), (5, _)], [(101, _), (103, _), (104, _)]⟩ rfl (Tri.regionW mixed [false, false, true, true] [.b (.agg (eW A16.zero)), .b (.agg (eW a0)), B true, B true] [⟨[false, false, false, false], [(2, Pt 101 0), (4, Pt 103 0), (5, Pt 104 0)], [(101, .box 23 (eW a0)), (103, .box 23 (eW A16.zero)), (104, .box 23 (eW A16.zero))], [true, true, true, true], []⟩, ⟨[false, false, true, false], [(2, Pt 101 0), (4, Pt 103 0), (5, Pt 104 0)], [(101, .box 23 (eW a0)), (103, .box 23 (eW A16.zero)), (104, .box 23 (eW A16.zero))], [true, true, true, true], [0, 2]⟩, ⟨[false, false, true, true], [(2, Pt 101 0), (4, Pt 103 0), (5, Pt 104 0)], [(101, .box 23 (eW a0)), (103, .box 23 (eW A16.zero)), (104, .box 23 (eW a0))], [true, true, true, true], [0, 1, 2, 3]⟩] rfl (⟨by kernel_rfl, ⟨⟨.b (.agg (eW A16.zero)), fun _ => rfl, fun _ => .p (by exact op_buildA tyBuild23 rfl rfl)⟩, ⟨.b (.agg (eW a0)), fun _ => rfl, fun _ => .p (by exact op_load_p tyAgg23 rfl rfl rfl rfl)⟩, ⟨_, none, .b (.one .any), rfl, (fun e => by simp at e), rfl, rfl, fun _ => .toO [101, 103, 104] (by exact .p (by exact op_store_p tyAgg23 rfl rfl rfl rfl (Nat.le_of_ble_eq_true rfl) rfl)) (by exact rfl)⟩, trivial, trivial⟩, ⟨by kernel_rfl, ⟨trivial, ⟨.b (.agg (eW a0)), fun _ => rfl, fun _ => .p (by exact op_load_p tyAgg23 rfl rfl rfl rfl)⟩, trivial, ⟨_, none, .b (.one .any), rfl, (fun e => by simp at e), rfl, rfl, fun _ => .toO [101, 103, 104] (by exact .p (by exact op_store_p tyAgg23 rfl rfl rfl rfl (Nat.le_of_ble_eq_true rfl) rfl)) (by exact rfl)⟩, trivial⟩, ⟨by kernel_rfl, ⟨trivial, trivial, trivial, trivial, trivial⟩, trivial⟩⟩⟩) rfl rfl rfl [4, 5] [103, 104] (s' := ⟨[(4, _), (5, _)], [(103, _), (104, .box 23 (eW a0))]⟩) rfl (Tri.ret (Fin.then_ret ?_))))
  obtain rfl := Option.some.inj h
  refine Fin.keepS ⟨[(4, _), (5, _)], [(103, _), (104, _)]⟩ rfl (Fin.result' [.agg (eW A16.zero), .agg (eW a0)] (.inl rfl) rfl (.cons (.agg tyAgg23 rfl rfl rfl rfl) (.cons (.agg tyAgg23 rfl rfl rfl rfl) .nil)) ⟨rfl, rfl⟩)
 ·refine Tri.skip (Fin.keepS ⟨[(2, _), (3, _), (4, _), (5, _), (6, _), (7, _)], [(101, _), (102, _), (103, _), (104, _)]⟩ rfl (Fin.then (Tri.seq (Tri.seq (Tri.regionL ?_)))))
  refine Oc om (Oc (op_eql rfl rfl) ?_)
  refine OpsL.nilS ⟨[(2, _), (3, _), (4, _), (5, _), (6, _), (7, _), (29, B (decide (x_1 = 1)))], [(101, _), (102, _), (103, _), (104, _)]⟩ rfl (Tri.ite h rfl (fun _ h => ?_) (fun _ h => ?_))
  ·refine Tri.seq (Tri.regionL ?_)
   refine Oc (lp tyAgg23) (Oc (op_index_p tyArr23 (by decide) (by decide) rfl rfl rfl) (Oc (op_load_p1 tyOne22 rfl rfl rfl) ?_))
   obtain ⟨⟨x_4, x_5⟩, e4, h⟩ := bnd h
   refine Oc (op_call0 (w_short_spec e4) goes125 rfl rfl) (Oc om ?_)
   refine OpsL.keepS ⟨[(4, _), (5, _), (30, .tup [.agg (eW x_4), .one (.int .u32 x_5)])], [(103, _), (104, _)]⟩ rfl (Oc (op_extract rfl rfl) (Oc (op_extract rfl rfl) (Oc (op_alloc (k := 105) tyZero23 rfl) (Oc (op_store_p tyAgg23 rfl rfl rfl rfl (Nat.le_of_ble_eq_true rfl) rfl) (Oc oa ?_)))))
   refine OpsL.nilS ⟨[(4, _), (5, _), (8, Pt 105 0), (9, .b (.one (.int .u32 x_5)))], [(103, _), (104, _), (105, .box 23 (eW x_4))]⟩ rfl (Tri.seq (Tri.regionL ?_))
   refine Oc (lp tyAgg23) (Oc om ?_)
   refine OpsL.consA eW h rfl (op_buildA tyBuild23 rfl rfl) (fun x_6 h => ?_)
   refine Oc (op_store_p tyAgg23 rfl rfl rfl rfl (Nat.le_of_ble_eq_true rfl) rfl) (Oc (op_store_p tyAgg23 rfl rfl rfl rfl (Nat.le_of_ble_eq_true rfl) rfl) ?_)
   refine OpsL.nilS ⟨[(4, _), (5, _)], [(103, .box 23 (eW x_4)), (104, .box 23 (eW x_6))]⟩ rfl (Tri.ret (Fin.then_ret ?_))
   obtain rfl := Option.some.inj h
   refine Fin.keepS ⟨[(4, _), (5, _)], [(103, _), (104, _)]⟩ rfl (Fin.result' [.agg (eW x_4), .agg (eW x_6)] (.inl rfl) rfl (.cons (.agg tyAgg23 rfl rfl rfl rfl) (.cons (.agg tyAgg23 rfl rfl rfl rfl) .nil)) ⟨rfl, rfl⟩)
  ·refine Tri.skip (Fin.keepS ⟨[(2, _), (3, _), (4, _), (5, _), (6, _), (7, _)], [(101, _), (102, _), (103, _), (104, _)]⟩ rfl (Fin.then (Tri.seq (Tri.regionL ?_))))
   refine Oc om (Oc (op_sub rfl rfl) ?_)
   obtain ⟨x_7, e5, h⟩ := bnd h
   refine Oc (op_index_p tyArr23 (ix_lo e5) (ix_hi e5) rfl rfl rfl) (Oc (op_load_p1 tyOne22 rfl rfl (arr_get (post := []) (k := .u32) [] e5 rfl rfl rfl)) ?_)
   obtain ⟨x_8, e6, h⟩ := bnd h
   refine Oc (op_call0 (bits_LeadingZeros32_spec e6) goes175 rfl rfl) (Oc oa ?_)
   refine OpsL.nilS ⟨[(2, _), (3, _), (4, _), (5, _), (6, _), (7, _), (10, I x_8)], [(101, _), (102, _), (103, _), (104, _)]⟩ rfl (Tri.seq (Tri.regionL ?_))
   refine Oc (lp tyAgg23) (Oc om ?_)
   obtain ⟨⟨x_9, x_10⟩, e7, h⟩ := bnd h
   refine Oc (op_call0 (w_up_spec e7) goes176 rfl rfl) (Oc om (Oc (op_extract rfl rfl) ?_))
   refine OpsL.keepS ⟨[(2, _), (4, _), (5, _), (6, _), (7, _), (10, _), (45, .tup [.agg (eW x_9), .one (.int .u32 x_10)]), (49, .b (.agg (eW x_9)))], [(101, _), (103, _), (104, _)]⟩ rfl (Oc (op_extract rfl rfl) (Oc (op_alloc (k := 106) tyZero23 rfl) (Oc (op_store_p tyAgg23 rfl rfl rfl rfl (Nat.le_of_ble_eq_true rfl) rfl) (Oc oa ?_))))
   refine OpsL.nilS ⟨[(2, _), (4, _), (5, _), (6, _), (7, _), (10, _), (11, Pt 106 0)], [(101, _), (103, _), (104, _), (106, .box 23 (eW x_9))]⟩ rfl (Tri.seq (Tri.regionL ?_))
   refine Oc (lp tyAgg23) (Oc om ?_)
   obtain ⟨⟨x_11, x_12⟩, e8, h⟩ := bnd h
   refine Oc (op_call0 (w_up_spec e8) goes176 rfl rfl) (Oc om (Oc (op_extract rfl rfl) ?_))
   refine OpsL.keepS ⟨[(4, _), (5, _), (6, _), (7, _), (10, _), (11, _), (51, .tup [.agg (eW x_11), .one (.int .u32 x_12)]), (55, .b (.agg (eW x_11)))], [(103, _), (104, _), (106, _)]⟩ rfl (Oc (op_extract rfl rfl) (Oc (op_alloc (k := 107) tyZero23 rfl) (Oc (op_store_p tyAgg23 rfl rfl rfl rfl (Nat.le_of_ble_eq_true rfl) rfl) (Oc oa ?_))))
   refine OpsL.nilS ⟨[(4, _), (5, _), (6, _), (7, _), (10, _), (11, _), (13, Pt 107 0), (14, .b (.one (.int .u32 x_12)))], [(103, _), (104, _), (106, _), (107, .box 23 (eW x_11))]⟩ rfl (Tri.seq (Tri.regionL ?_))
   refine Oc (op_alloc (k := 108) tyZero186 rfl) (OpsL.nilS ⟨[(4, _), (5, _), (6, _), (7, _), (10, _), (11, _), (13, _), (14, _), (15, Pt 108 0)], [(103, _), (104, _), (106, _), (107, _), (108, .box 186 ((eA17 .u32) A17.zero))]⟩ rfl (Tri.seq (Tri.regionY mixed 2 [.b (.psl 108 0 17 17), .b (.psl 107 0 16 16)] [4, 5, 6, 7, 10, 11, 14, 15] [103, 104, 106, 108] (s' := ⟨[(4, _), (5, _), (6, _), (7, _), (10, _), (11, _), (14, _), (15, _)], [(103, _), (104, _), (106, _), (108, .box 186 ((eA17 .u32) (A17.of (spliceE A17.zero.l 0 ((x_11.l.drop 0).take 16)))))]⟩) rfl ⟨fun _ => .p (op_slice_a tyArr186 (by decide) rfl), fun _ => .p (op_slice_a tyArr23 (by decide) rfl), trivial⟩ ⟨_, by exact .p (op_copy_psl (m := 16) tySl158 (by decide) (by first | decide | (show 16 ≤ 9223372036854775807; omega)) rfl rfl rfl rfl (by first | decide | (show 0 + 16 ≤ 17; omega)) (by first | decide | (show 0 + 16 ≤ 16; omega)) (splice_arr (a := 0) (a2 := 0) (off := 0) (off2 := 0) (post := []) (post2 := []) (l := A17.zero.l) (l2 := x_11.l) (kd := .u32) (lo := 0) (lo2 := 0) [] [] rfl rfl rfl rfl (by rfl) (by rfl) (by first | decide | (show 0 + 16 ≤ 17; omega)) (by first | decide | (show 0 + 16 ≤ 16; omega)) (A17.l_of (spliceE_lenA rfl (by first | decide | (show 0 + 16 ≤ 17; omega)) (by first | decide | (show 0 + 16 ≤ 16; omega)))) rfl)), rfl⟩ rfl (Tri.seq (Tri.regionL ?_)))))
   refine Oc om (Oc (op_index_p tyArr186 (by decide) (by decide) rfl rfl rfl) (Oc (op_store_p1 tyOne22 rfl rfl rfl (Nat.le_of_ble_eq_true rfl) rfl) ?_))
   refine OpsL.nilS ⟨[(4, _), (5, _), (6, _), (7, _), (10, _), (11, _), (15, _)], [(103, _), (104, _), (106, _), (108, .box 186 [.int .u32 ((A17.of (spliceE A17.zero.l 0 ((x_11.l.drop 0).take 16))).a0), .int .u32 ((A17.of (spliceE A17.zero.l 0 ((x_11.l.drop 0).take 16))).a1), .int .u32 ((A17.of (spliceE A17.zero.l 0 ((x_11.l.drop 0).take 16))).a2), .int .u32 ((A17.of (spliceE A17.zero.l 0 ((x_11.l.drop 0).take 16))).a3), .int .u32 ((A17.of (spliceE A17.zero.l 0 ((x_11.l.drop 0).take 16))).a4), .int .u32 ((A17.of (spliceE A17.zero.l 0 ((x_11.l.drop 0).take 16))).a5), .int .u32 ((A17.of (spliceE A17.zero.l 0 ((x_11.l.drop 0).take 16))).a6), .int .u32 ((A17.of (spliceE A17.zero.l 0 ((x_11.l.drop 0).take 16))).a7), .int .u32 ((A17.of (spliceE A17.zero.l 0 ((x_11.l.drop 0).take 16))).a8), .int .u32 ((A17.of (spliceE A17.zero.l 0 ((x_11.l.drop 0).take 16))).a9), .int .u32 ((A17.of (spliceE A17.zero.l 0 ((x_11.l.drop 0).take 16))).a10), .int .u32 ((A17.of (spliceE A17.zero.l 0 ((x_11.l.drop 0).take 16))).a11), .int .u32 ((A17.of (spliceE A17.zero.l 0 ((x_11.l.drop 0).take 16))).a12), .int .u32 ((A17.of (spliceE A17.zero.l 0 ((x_11.l.drop 0).take 16))).a13), .int .u32 ((A17.of (spliceE A17.zero.l 0 ((x_11.l.drop 0).take 16))).a14), .int .u32 ((A17.of (spliceE A17.zero.l 0 ((x_11.l.drop 0).take 16))).a15), .int .u32 x_12])]⟩ rfl ?_
   obtain ⟨v9, h10, h⟩ := bnd h
   refine Tri.seqJ (v := v9) (un2 fun (q_13 : A16) (u_14 : A17) => ⟨[(4, Pt 103 0), (5, Pt 104 0), (10, I x_8), (15, Pt 108 0)], [(103, .box 23 (eW q_13)), (104, .box 23 (eW A16.zero)), (108, .box 186 ((eA17 .u32) u_14))]⟩) (fun z => z) ?_ ?_
   ·refine Tri.seq (Tri.regionL ?_)
    refine Oc om (Oc om (Oc (op_sub rfl rfl) (Oc oa ?_)))
    refine OpsL.nilS ⟨[(4, _), (5, _), (6, _), (10, _), (11, _), (15, _), (16, I (IntKind.i64.wrap (x_2 - x_1)))], [(103, _), (104, _), (106, _), (108, _)]⟩ rfl (Tri.block (Tri.loopJ h10 (un3 fun (q_15 : A16) (u_16 : A17) (j_17 : Int) => ⟨[(4, Pt 103 0), (5, Pt 104 0), (6, I x_1), (10, I x_8), (11, Pt 106 0), (15, Pt 108 0), (16, I j_17)], [(103, .box 23 (eW q_15)), (104, .box 23 (eW A16.zero)), (106, .box 23 (eW x_9)), (108, .box 186 ((eA17 .u32) u_16))]⟩) [4, 5, 6, 10, 11, 15, 16] [103, 104, 106, 108] rfl ?_))
    rintro ⟨q_15, u_16, j_17⟩ o11 h12 hy13
    refine Tri.seq (Tri.seq (Tri.regionL ?_))
    refine Oc om (Oc (op_geq rfl rfl) ?_)
    refine OpsL.nilS ⟨[(4, _), (5, _), (6, _), (10, _), (11, _), (15, _), (16, _), (66, B (decide (0 ≤ j_17)))], [(103, _), (104, _), (106, _), (108, _)]⟩ rfl (Tri.ite h12 rfl (fun _ h12 => ?_) (fun _ h12 => ?_))
    ·refine Tri.skip (Fin.keepS ⟨[(4, _), (5, _), (6, _), (10, _), (11, _), (15, _), (16, _)], [(103, _), (104, _), (106, _), (108, _)]⟩ rfl (Fin.then ?_))
     obtain ⟨v14, h15, h12⟩ := bnd h12
     refine Tri.seqJ (v := v14) (un2 fun (q_20 : A16) (u_21 : A17) => ⟨[(4, Pt 103 0), (5, Pt 104 0), (6, I x_1), (10, I x_8), (11, Pt 106 0), (15, Pt 108 0), (16, I j_17)], [(103, .box 23 (eW q_20)), (104, .box 23 (eW A16.zero)), (106, .box 23 (eW x_9)), (108, .box 186 ((eA17 .u32) u_21))]⟩) (fun z => z) ?_ ?_
     ·refine Tri.block (Tri.seq (Tri.regionL ?_))
      refine Oc (lp tyAgg23) (Oc om (Oc om ?_))
      obtain ⟨x_22, e16, h15⟩ := bnd h15
      refine Oc (op_call (own_a := [(108, _)]) ((w_guess_spec e16).sw 1 108) goes177 rfl ⟨rfl, trivial⟩ rfl rfl) (Oc oa ?_)
      refine OpsL.nilS ⟨[(4, _), (5, _), (6, _), (10, _), (11, _), (15, _), (16, _), (17, .b (.one (.int .u64 x_22)))], [(103, _), (104, _), (106, _), (108, _)]⟩ rfl ?_
      obtain ⟨v17, h18, h15⟩ := bnd h15
      refine Tri.seqJ (v := v17) (un2 fun (u_23 : A17) (d_24 : Int) => ⟨[(4, Pt 103 0), (5, Pt 104 0), (6, I x_1), (10, I x_8), (11, Pt 106 0), (15, Pt 108 0), (16, I j_17), (17, .b (.one (.int .u64 d_24)))], [(103, .box 23 (eW q_15)), (104, .box 23 (eW A16.zero)), (106, .box 23 (eW x_9)), (108, .box 186 ((eA17 .u32) u_23))]⟩) (fun z => z) ?_ ?_
      ·refine Tri.seq (Tri.regionL ?_)
       refine Oc (lp tyAgg23) (Oc om (Oc om (Oc om ?_)))
       obtain ⟨⟨x_25, x_26⟩, e19, h18⟩ := bnd h18
       refine Oc (op_call (own_a := [(108, _)]) ((w_take_spec e19).sw 1 108) goes178 rfl ⟨rfl, trivial⟩ rfl rfl) (OpsL.nilS ⟨[(4, _), (5, _), (6, _), (10, _), (11, _), (15, _), (16, _), (17, _), (77, B x_25)], [(103, _), (104, _), (106, _), (108, .box 186 ((eA17 .u32) x_26))]⟩ rfl (Tri.ite h18 rfl (fun _ h18 => ?_) (fun _ h18 => ?_)))
       ·refine Tri.seq (Tri.regionL ?_)
        refine Oc om (Oc (op_sub rfl rfl) (Oc oa ?_))
        refine OpsL.nilS ⟨[(4, _), (5, _), (6, _), (10, _), (11, _), (15, _), (16, _), (17, .b (.one (.int .u64 (IntKind.u64.wrap (x_22 - 1)))))], [(103, _), (104, _), (106, _), (108, _)]⟩ rfl (Tri.regionL (Oc (lp tyAgg23) (Oc om (Oc om ?_))))
        obtain ⟨x_27, e20, h18⟩ := bnd h18
        refine Oc (op_call (own_a := [(108, _)]) ((w_give_spec e20).sw 1 108) goes179 rfl ⟨rfl, trivial⟩ rfl rfl) (OpsL.nil ?_)
        exact Fin.join [4, 5, 6, 10, 11, 15, 16, 17] [103, 104, 106, 108] (x_27, IntKind.u64.wrap (x_22 - 1)) (Option.some.inj h18) rfl
       ·refine Tri.skip ?_
        exact Fin.join [4, 5, 6, 10, 11, 15, 16, 17] [103, 104, 106, 108] (x_26, x_22) (Option.some.inj h18) rfl
      ·rintro ⟨u_23, d_24⟩ hv
       subst v17
       refine Tri.regionL (Oc om (Oc om (Oc (op_conv_wrap undi145 undi22 rfl) ?_)))
       obtain ⟨x_28, e21, h15⟩ := bnd h15
       refine Oc (op_index_p tyArr23 (ix_lo e21) (ix_hi e21) rfl rfl rfl) (Oc (op_store_p1 tyOne22 rfl rfl rfl (arr_lt (post := []) (k := .u32) [] e21 rfl rfl rfl) (arr_set (post := []) (k := .u32) [] e21 rfl rfl (A16.set_l q_15 j_17 (IntKind.u32.wrap d_24)) rfl rfl)) ?_)
       refine OpsL.nil (Fin.block_normal ?_)
       exact Fin.join [4, 5, 6, 10, 11, 15, 16] [103, 104, 106, 108] (q_15.set j_17 (IntKind.u32.wrap d_24), u_23) (Option.some.inj h15) rfl
     ·rintro ⟨q_20, u_21⟩ hv
      subst v14
      refine Tri.regionL (Oc om (Oc (op_sub rfl rfl) (Oc oa ?_)))
      refine OpsL.nil ?_
      exact Fin.againJ [4, 5, 6, 10, 11, 15, 16] [103, 104, 106, 108] (q_20, u_21, IntKind.i64.wrap (j_17 - 1)) (Option.some.inj h12) rfl
    ·refine Tri.exit (Fin.then_exit ?_)
     obtain rfl := hy13 _ (Option.some.inj h12).symm
     refine Fin.then_exit (Fin.block_exit ?_)
     exact Fin.join [4, 5, 10, 15] [103, 104, 108] (q_15, u_16) rfl rfl
   ·rintro ⟨q_13, u_14⟩ hv
    subst v9
    refine Tri.seq (Tri.keepS ⟨[(4, _), (5, _), (10, _), (15, _)], [(103, _), (104, _), (108, _)]⟩ rfl ?_)
    obtain ⟨x_29, e22, h⟩ := bnd h
    refine Tri.regionY mixed 6 [.b (.agg (eW q_13)), .b (.psl 108 0 16 17), Pt 108 0, .b (.agg [.int .u32 u_14.a0, .int .u32 u_14.a1, .int .u32 u_14.a2, .int .u32 u_14.a3, .int .u32 u_14.a4, .int .u32 u_14.a5, .int .u32 u_14.a6, .int .u32 u_14.a7, .int .u32 u_14.a8, .int .u32 u_14.a9, .int .u32 u_14.a10, .int .u32 u_14.a11, .int .u32 u_14.a12, .int .u32 u_14.a13, .int .u32 u_14.a14, .int .u32 u_14.a15]), I x_8, .b (.agg (eW x_29))] [4, 5] [103, 104] (s' := ⟨[(4, _), (5, _)], [(103, _), (104, .box 23 (eW x_29))]⟩) rfl ⟨fun _ => .p (lp tyAgg23), fun _ => .p (op_slice_ah (i := 16) tyArr186 (by decide) (by decide) rfl rfl), fun _ => .p (op_toArr tyArr23 (by decide) rfl), fun _ => .p (lp tyAgg23), fun _ => .p om, fun _ => .p (op_call0 (w_down_spec e22) goes180 rfl rfl), trivial⟩ ⟨_, by exact .p (op_store_p tyAgg23 rfl rfl rfl rfl (Nat.le_of_ble_eq_true rfl) rfl), ⟨_, by exact .p (op_store_p tyAgg23 rfl rfl rfl rfl (Nat.le_of_ble_eq_true rfl) rfl), rfl⟩⟩ rfl (Tri.ret ?_)
    obtain rfl := Option.some.inj h
    refine Fin.keepS ⟨[(4, _), (5, _)], [(103, _), (104, _)]⟩ rfl (Fin.result' [.agg (eW q_13), .agg (eW x_29)] (.inl rfl) rfl (.cons (.agg tyAgg23 rfl rfl rfl rfl) (.cons (.agg tyAgg23 rfl rfl rfl rfl) .nil)) ⟨rfl, rfl⟩)
def w_Abs_S (F : Nat) (x0 : Big) : Option Big :=
 (w_good_S F [x0]).bind fun x_1 => if (!x_1) = true then ((w_Bad_S F).bind fun x_2 => some x_2) else ((w_signed_S F false x0.W).bind fun x_3 => some x_3)
theorem w_Abs_spec {F : Nat} {x0 : Big} {r : Big} (h : w_Abs_S F x0 = some r) : Meets Tryz.prog (tabs mx) 139 [] [.agg (eBig x0)] (Is [] (.b (.agg (eBig r)))) := by
 unfold w_Abs_S at h
 refine Meets.intro 11 Tryz.func139 Tryz.ntmps139 rfl (by simp) fun E => ?_
 show Tri _ E ⟨11, [], []⟩ _ ⟨[(0, .b (.agg (eBig x0)))], []⟩ _
 refine Tri.seq (Tri.regionL ?_)
 refine Oc (op_box (k := 101) rfl rfl) (Oc (op_alloc (k := 102) tyZero25 rfl) ?_)
 refine OpsL.nilS ⟨[(1, Pt 101 0), (2, Pt 102 0)], [(101, .box 25 (eBig x0)), (102, .box 25 zBig)]⟩ rfl (Tri.seq (Tri.seq (Tri.regionL ?_)))
 refine Oc (lp tyAgg25) (Oc (op_buildSlice (k := 103) (es := [x0].map eBig) tySl170 rfl rfl (uni_map fun _ => rfl) rfl (by decide) (by decide) rfl) ?_)
 obtain ⟨x_1, e1, h⟩ := bnd h
 refine Oc (op_callB (w_good_spec e1) goes124 rfl CP.flat_bool) (Oc (op_not rfl) ?_)
 refine OpsL.nilS ⟨[(1, _), (2, _), (6, B (!x_1))], [(101, _), (102, _)]⟩ rfl (Tri.ite h rfl (fun _ h => ?_) (fun _ h => ?_))
 ·refine Tri.seq (Tri.regionL ?_)
  obtain ⟨x_2, e2, h⟩ := bnd h
  refine Oc (op_call0 (w_Bad_spec e2) goes136 rfl rfl) (Oc (op_store_p tyAgg25 rfl rfl rfl rfl (Nat.le_of_ble_eq_true rfl) rfl) ?_)
  refine OpsL.nilS ⟨[(2, _)], [(102, .box 25 (eBig x_2))]⟩ rfl (Tri.ret (Fin.then_ret ?_))
  obtain rfl := Option.some.inj h
  refine Fin.keepS ⟨[(2, _)], [(102, _)]⟩ rfl (Fin.result' [.agg (eBig x_2)] (.inl rfl) rfl (.cons (.agg tyAgg25 rfl rfl rfl rfl) .nil) ⟨rfl, rfl⟩)
 ·refine Tri.skip (Fin.keepS ⟨[(1, _), (2, _)], [(101, _), (102, _)]⟩ rfl (Fin.then (Tri.seq (Tri.regionL ?_))))
  refine Oc (op_field_p tyFld25_2 rfl rfl) (Oc (lp tyAgg23) ?_)
  obtain ⟨x_3, e3, h⟩ := bnd h
  refine Oc (op_call0 (w_signed_spec e3) goes135 rfl rfl) (Oc (op_store_p tyAgg25 rfl rfl rfl rfl (Nat.le_of_ble_eq_true rfl) rfl) ?_)
  refine OpsL.nilS ⟨[(2, _)], [(102, .box 25 (eBig x_3))]⟩ rfl (Tri.ret ?_)
  obtain rfl := Option.some.inj h
  refine Fin.keepS ⟨[(2, _)], [(102, _)]⟩ rfl (Fin.result' [.agg (eBig x_3)] (.inl rfl) rfl (.cons (.agg tyAgg25 rfl rfl rfl rfl) .nil) ⟨rfl, rfl⟩)
def w_Gcd_R (F : Nat) : Nat → Big → Big → Option Big
 | 0, _, _ => none
 | n + 1, a0, b0 => (w_good_S F [a0, b0]).bind fun x_1 => if (!x_1) = true then ((w_Bad_S F).bind fun x_2 => some x_2) else (Option.bind ((w_size_S F a0.W).bind fun x_3 => (gcall (decide (x_3 ≤ 2)) (w_size_S F b0.W)).bind fun x_4 => if ((decide (x_3 ≤ 2)) && (decide (x_4 ≤ 2))) = true then (Option.bind (iter F (un2 fun x_6 y_7 => if (decide (y_7 ≠ 0)) = true then ((rem? x_6 y_7).bind fun x_9 => some (.inl (y_7, x_9))) else (some (.inr x_6))) (ior .u64 (IntKind.u64.wrap ((IntKind.u64.wrap a0.W.a1) * 4294967296)) (IntKind.u64.wrap a0.W.a0), ior .u64 (IntKind.u64.wrap ((IntKind.u64.wrap b0.W.a1) * 4294967296)) (IntKind.u64.wrap b0.W.a0))) (fun x_5 => letN (⟨IntKind.u32.wrap x_5, IntKind.u32.wrap (x_5 / 4294967296), 0, 0, 0, 0, 0, 0, 0, 0, 0, 0, 0, 0, 0, 0⟩ : A16) fun x_10 => (w_signed_S F false x_10).bind fun x_11 => some (.inr x_11))) else (some (.inl ()))) (alt2 (fun _ => if (decide (b0.W ≠ A16.zero)) = true then (Option.bind (w_quotient_S F a0.W b0.W) (un2 fun x_12 x_13 => (w_signed_S F false b0.W).bind fun x_14 => (w_signed_S F false x_13).bind fun x_15 => (w_Gcd_R F n x_14 x_15).bind fun x_16 => some x_16)) else ((w_Abs_S F a0).bind fun x_17 => some x_17)) (fun y => some y)))
def w_Gcd_S (F : Nat) (a0 : Big) (b0 : Big) : Option Big := w_Gcd_R F F a0 b0
theorem w_Gcd_specR {F : Nat} : ∀ (n : Nat) {a0 : Big} {b0 : Big} {r : Big} (h : w_Gcd_R F n a0 b0 = some r), Meets Tryz.prog (tabs mx) 77 [] [.agg (eBig a0), .agg (eBig b0)] (Is [] (.b (.agg (eBig r)))) := by
 intro n
 induction n with
 | zero => intro a0 b0 r h; simp [w_Gcd_R] at h
 | succ n ih =>
 intro a0 b0 r h
 unfold w_Gcd_R at h
 refine Meets.intro 80 Tryz.func77 Tryz.ntmps77 rfl (by simp) fun E => ?_
 show Tri _ E ⟨80, [], []⟩ _ ⟨[(0, .b (.agg (eBig a0))), (1, .b (.agg (eBig b0)))], []⟩ _
 refine Tri.seq (Tri.regionL ?_)
 refine Oc (op_box (k := 101) rfl rfl) (Oc (op_box (k := 102) rfl rfl) (Oc (op_alloc (k := 103) tyZero25 rfl) ?_))
 refine OpsL.nilS ⟨[(2, Pt 101 0), (3, Pt 102 0), (4, Pt 103 0)], [(101, .box 25 (eBig a0)), (102, .box 25 (eBig b0)), (103, .box 25 zBig)]⟩ rfl (Tri.seq (Tri.seq (Tri.regionL ?_)))
 refine Oc (lp tyAgg25) (Oc (lp tyAgg25) (Oc (op_buildSlice (k := 104) (es := [a0, b0].map eBig) tySl170 rfl rfl (uni_map fun _ => rfl) rfl (by decide) (by decide) rfl) ?_))
 obtain ⟨x_1, e1, h⟩ := bnd h
 refine Oc (op_callB (w_good_spec e1) goes124 rfl CP.flat_bool) (Oc (op_not rfl) ?_)
 refine OpsL.nilS ⟨[(2, _), (3, _), (4, _), (15, B (!x_1))], [(101, _), (102, _), (103, _)]⟩ rfl (Tri.ite h rfl (fun _ h => ?_) (fun _ h => ?_))
 ·refine Tri.seq (Tri.regionL ?_)
  obtain ⟨x_2, e2, h⟩ := bnd h
  refine Oc (op_call0 (w_Bad_spec e2) goes136 rfl rfl) (Oc (op_store_p tyAgg25 rfl rfl rfl rfl (Nat.le_of_ble_eq_true rfl) rfl) ?_)
  refine OpsL.nilS ⟨[(4, _)], [(103, .box 25 (eBig x_2))]⟩ rfl (Tri.ret (Fin.then_ret ?_))
  obtain rfl := Option.some.inj h
  refine Fin.keepS ⟨[(4, _)], [(103, _)]⟩ rfl (Fin.result' [.agg (eBig x_2)] (.inl rfl) rfl (.cons (.agg tyAgg25 rfl rfl rfl rfl) .nil) ⟨rfl, rfl⟩)
 ·refine Tri.skip (Fin.keepS ⟨[(2, _), (3, _), (4, _)], [(101, _), (102, _), (103, _)]⟩ rfl (Fin.then ?_))
  obtain ⟨v3, h4, h⟩ := bnd h
  refine Tri.seqJ (v := v3) (fun (_ : Unit) => ⟨[(2, Pt 101 0), (3, Pt 102 0), (4, Pt 103 0)], [(101, .box 25 (eBig a0)), (102, .box 25 (eBig b0)), (103, .box 25 zBig)]⟩) (fun z => .inl z) ?_ ?_
  ·refine Tri.seq (Tri.regionL ?_)
   refine Oc (op_field_p tyFld25_2 rfl rfl) (Oc (lp tyAgg23) ?_)
   obtain ⟨x_3, e5, h4⟩ := bnd h4
   refine Oc (op_call0 (w_size_spec e5) goes137 rfl rfl) (Oc (op_leq rfl rfl) (Oc om ?_))
   refine OpsL.keepS ⟨[(2, _), (3, _), (4, _), (21, B (decide (x_3 ≤ 2)))], [(101, _), (102, _), (103, _)]⟩ rfl (CgT (decide (x_3 ≤ 2)) [] (fun g6 => trivial) (fun g6 => op_field_p tyFld25_2 rfl rfl) (CgT (decide (x_3 ≤ 2)) [22] (fun g7 => ⟨g7, trivial⟩) (fun g7 => lp tyAgg23) ?_))
   obtain ⟨x_4, e9, h4⟩ := bnd h4
   refine CgT (decide (x_3 ≤ 2)) [23] (fun g8 => ⟨g8, trivial⟩) (fun g8 => op_call0 (w_size_spec (gc e9 g8)) goes137 rfl rfl) (CgT (decide (x_3 ≤ 2)) [24] (fun g10 => ⟨g10, trivial⟩) (fun g10 => op_leq rfl rfl) (Oc (op_pick_and (fun e => e) rfl rfl rfl rfl) (OpsL.nilS ⟨[(2, _), (3, _), (4, _), (26, B ((decide (x_3 ≤ 2)) && (decide (x_4 ≤ 2))))], [(101, _), (102, _), (103, _)]⟩ rfl (Tri.ite h4 rfl (fun _ h4 => ?_) (fun _ h4 => ?_)))))
   ·refine Tri.seq (Tri.keepS ⟨[(2, _), (3, _), (4, _)], [(101, _), (102, _), (103, _)]⟩ rfl (Tri.regionY mixed 22 [Pt 101 2, Pt 101 3, .b (.one (.int .u32 a0.W.a1)), .b (.one (.int .u64 (IntKind.u64.wrap a0.W.a1))), .b (.one (.int .u64 (IntKind.u64.wrap ((IntKind.u64.wrap a0.W.a1) * 4294967296)))), Pt 101 2, Pt 101 2, .b (.one (.int .u32 a0.W.a0)), .b (.one (.int .u64 (IntKind.u64.wrap a0.W.a0))), .b (.one (.int .u64 (ior .u64 (IntKind.u64.wrap ((IntKind.u64.wrap a0.W.a1) * 4294967296)) (IntKind.u64.wrap a0.W.a0)))), Pt 102 2, Pt 102 3, .b (.one (.int .u32 b0.W.a1)), .b (.one (.int .u64 (IntKind.u64.wrap b0.W.a1))), .b (.one (.int .u64 (IntKind.u64.wrap ((IntKind.u64.wrap b0.W.a1) * 4294967296)))), Pt 102 2, Pt 102 2, .b (.one (.int .u32 b0.W.a0)), .b (.one (.int .u64 (IntKind.u64.wrap b0.W.a0))), .b (.one (.int .u64 (ior .u64 (IntKind.u64.wrap ((IntKind.u64.wrap b0.W.a1) * 4294967296)) (IntKind.u64.wrap b0.W.a0)))), .b (.one (.int .u64 (ior .u64 (IntKind.u64.wrap ((IntKind.u64.wrap a0.W.a1) * 4294967296)) (IntKind.u64.wrap a0.W.a0)))), .b (.one (.int .u64 (ior .u64 (IntKind.u64.wrap ((IntKind.u64.wrap b0.W.a1) * 4294967296)) (IntKind.u64.wrap b0.W.a0))))] [4, 5, 6] [103] (s' := ⟨[(4, _), (5, .b (.one (.int .u64 (ior .u64 (IntKind.u64.wrap ((IntKind.u64.wrap a0.W.a1) * 4294967296)) (IntKind.u64.wrap a0.W.a0))))), (6, .b (.one (.int .u64 (ior .u64 (IntKind.u64.wrap ((IntKind.u64.wrap b0.W.a1) * 4294967296)) (IntKind.u64.wrap b0.W.a0)))))], [(103, _)]⟩) rfl ⟨fun _ => .p (op_field_p tyFld25_2 rfl rfl), fun _ => .p (op_index_p tyArr23 (by decide) (by decide) rfl rfl rfl), fun _ => .p (op_load_p1 tyOne22 rfl rfl rfl), fun _ => .p (op_conv_wrap undi22 undi145 rfl), fun _ => .p (op_shl0 (m := 32) (q := 4294967296) (by decide) rfl rfl (by decide)), fun _ => .p (op_field_p tyFld25_2 rfl rfl), fun _ => .p (op_index_p tyArr23 (by decide) (by decide) rfl rfl rfl), fun _ => .p (op_load_p1 tyOne22 rfl rfl rfl), fun _ => .p (op_conv_wrap undi22 undi145 rfl), fun _ => .p (op_or rfl rfl), fun _ => .p (op_field_p tyFld25_2 rfl rfl), fun _ => .p (op_index_p tyArr23 (by decide) (by decide) rfl rfl rfl), fun _ => .p (op_load_p1 tyOne22 rfl rfl rfl), fun _ => .p (op_conv_wrap undi22 undi145 rfl), fun _ => .p (op_shl0 (m := 32) (q := 4294967296) (by decide) rfl rfl (by decide)), fun _ => .p (op_field_p tyFld25_2 rfl rfl), fun _ => .p (op_index_p tyArr23 (by decide) (by decide) rfl rfl rfl), fun _ => .p (op_load_p1 tyOne22 rfl rfl rfl), fun _ => .p (op_conv_wrap undi22 undi145 rfl), fun _ => .p (op_or rfl rfl), fun _ => .p oa, fun _ => .p oa, trivial⟩ rfl rfl ?_))
    obtain ⟨v11, h12, h4⟩ := bnd h4
    refine Tri.seqJ (v := v11) (fun (x_5 : Int) => ⟨[(4, Pt 103 0), (5, .b (.one (.int .u64 x_5)))], [(103, .box 25 zBig)]⟩) (fun z => z) ?_ ?_
    ·refine Tri.block (Tri.loopJ h12 (un2 fun (x_6 : Int) (y_7 : Int) => ⟨[(4, Pt 103 0), (5, .b (.one (.int .u64 x_6))), (6, .b (.one (.int .u64 y_7)))], [(103, .box 25 zBig)]⟩) [4, 5, 6] [103] rfl ?_)
     rintro ⟨x_6, y_7⟩ o13 h14 hy15
     refine Tri.seq (Tri.seq (Tri.regionL ?_))
     refine Oc om (Oc (op_neq rfl rfl) ?_)
     refine OpsL.nilS ⟨[(4, _), (5, _), (6, _), (48, B (decide (y_7 ≠ 0)))], [(103, _)]⟩ rfl (Tri.ite h14 rfl (fun _ h14 => ?_) (fun _ h14 => ?_))
     ·refine Tri.skip (Fin.keepS ⟨[(4, _), (5, _), (6, _)], [(103, _)]⟩ rfl (Fin.then (Tri.block ?_)))
      refine Tri.keepS ⟨[(4, _), (5, _), (6, _)], [(103, _)]⟩ rfl ?_
      obtain ⟨x_9, e16, h14⟩ := bnd h14
      refine Tri.regionYF mixed 5 [.b (.one (.int .u64 y_7)), .b (.one (.int .u64 x_6)), .b (.one (.int .u64 y_7)), .b (.one (.int .u64 x_9)), .b (.one (.int .u64 y_7))] [4, 5, 6] [103] (s' := ⟨[(4, _), (5, .b (.one (.int .u64 y_7))), (6, .b (.one (.int .u64 x_9)))], [(103, _)]⟩) rfl ⟨fun _ => .p om, fun _ => .p om, fun _ => .p om, fun _ => .p (op_rem2 e16 rfl rfl), fun _ => .p oa, trivial⟩ ⟨_, by exact .p oa, rfl⟩ rfl (Fin.block_normal ?_)
      exact Fin.againJ [4, 5, 6] [103] (y_7, x_9) (Option.some.inj h14) rfl
     ·refine Tri.exit (Fin.then_exit ?_)
      obtain rfl := hy15 _ (Option.some.inj h14).symm
      refine Fin.then_exit (Fin.block_exit ?_)
      exact Fin.join [4, 5] [103] x_6 rfl rfl
    ·rintro x_5 hv
     subst v11
     refine Tri.seq (Tri.regionL ?_)
     refine Oc om (Oc (op_conv_wrap undi145 undi22 rfl) (Oc om (Oc (op_shr2 (m := 32) (by decide) rfl rfl rfl) (Oc (op_conv_wrap undi145 undi22 rfl) ?_))))
     refine OpsL.consA eW h4 rfl (op_buildA tyBuild23 rfl rfl) (fun x_10 h4 => ?_)
     obtain ⟨x_11, e17, h4⟩ := bnd h4
     refine Oc (op_call0 (w_signed_spec e17) goes135 rfl rfl) (Oc (op_store_p tyAgg25 rfl rfl rfl rfl (Nat.le_of_ble_eq_true rfl) rfl) ?_)
     refine OpsL.nilS ⟨[(4, _)], [(103, .box 25 (eBig x_11))]⟩ rfl (Tri.ret ?_)
     obtain rfl := Option.some.inj h4
     refine Fin.then_ret ?_
     obtain rfl := Option.some.inj h
     refine Fin.keepS ⟨[(4, _)], [(103, _)]⟩ rfl (Fin.result' [.agg (eBig x_11)] (.inl rfl) rfl (.cons (.agg tyAgg25 rfl rfl rfl rfl) .nil) ⟨rfl, rfl⟩)
   ·refine Tri.skip ?_
    exact Fin.join [2, 3, 4] [101, 102, 103] () (Option.some.inj h4) rfl
  ·rintro _ hv
   subst v3
   refine Tri.seq (Tri.seq ?_)
   refine Tri.keepS ⟨[(2, _), (3, _), (4, _)], [(101, _), (102, _), (103, _)]⟩ rfl (Tri.regionW mixed [false, false, false, false, true, true, true, true] [Pt 101 2, .b (.agg (eW a0.W)), Pt 102 2, .b (.agg (eW b0.W)), Pt 105 0, Pt 106 0, B true, B true] [⟨[false, false, false, false, false, false, false, false], [(2, Pt 101 0), (3, Pt 102 0), (4, Pt 103 0)], [(101, .box 25 (eBig a0)), (102, .box 25 (eBig b0)), (103, .box 25 zBig)], [true, true, true, true, true, true, true, true], []⟩, ⟨[false, false, false, false, true, false, false, false], [(2, Pt 101 0), (3, Pt 102 0), (4, Pt 103 0)], [(101, .box 25 (eBig a0)), (102, .box 25 (eBig b0)), (103, .box 25 zBig), (105, .box 23 (eW A16.zero))], [true, true, true, true, true, true, true, true], [4]⟩, ⟨[false, false, false, false, false, true, false, false], [(2, Pt 101 0), (3, Pt 102 0), (4, Pt 103 0)], [(101, .box 25 (eBig a0)), (102, .box 25 (eBig b0)), (103, .box 25 zBig), (106, .box 23 (eW A16.zero))], [true, true, true, true, true, true, true, true], [5]⟩, ⟨[false, false, false, false, true, true, false, false], [(2, Pt 101 0), (3, Pt 102 0), (4, Pt 103 0)], [(101, .box 25 (eBig a0)), (102, .box 25 (eBig b0)), (103, .box 25 zBig), (105, .box 23 (eW A16.zero)), (106, .box 23 (eW A16.zero))], [true, true, true, true, true, true, true, true], [4, 5]⟩, ⟨[false, false, false, false, true, true, true, false], [(2, Pt 101 0), (3, Pt 102 0), (4, Pt 103 0)], [(101, .box 25 (eBig a0)), (102, .box 25 (eBig b0)), (103, .box 25 zBig), (105, .box 23 (eW a0.W)), (106, .box 23 (eW A16.zero))], [true, true, true, true, true, true, true, true], [0, 1, 4, 5, 6]⟩, ⟨[false, false, false, false, true, true, true, true], [(2, Pt 101 0), (3, Pt 102 0), (4, Pt 103 0)], [(101, .box 25 (eBig a0)), (102, .box 25 (eBig b0)), (103, .box 25 zBig), (105, .box 23 (eW a0.W)), (106, .box 23 (eW b0.W))], [true, true, true, true, true, true, true, true], [0, 1, 2, 3, 4, 5, 6, 7]⟩] rfl (⟨by kernel_rfl, ⟨⟨Pt 101 2, fun _ => rfl, fun _ => .p (by exact op_field_p tyFld25_2 rfl rfl)⟩, ⟨.b (.agg (eW a0.W)), fun _ => rfl, fun _ => .p (by exact op_load_p tyAgg23 rfl rfl rfl rfl)⟩, ⟨Pt 102 2, fun _ => rfl, fun _ => .p (by exact op_field_p tyFld25_2 rfl rfl)⟩, ⟨.b (.agg (eW b0.W)), fun _ => rfl, fun _ => .p (by exact op_load_p tyAgg23 rfl rfl rfl rfl)⟩, ⟨_, some 105, Pt 105 0, rfl, fun _ => rfl, rfl, rfl, fun _ => .toO [101, 102, 103, 105] (by exact .p (by exact op_alloc (k := 105) tyZero23 rfl)) (by exact rfl)⟩, ⟨_, some 106, Pt 106 0, rfl, fun _ => rfl, rfl, rfl, fun _ => .toO [101, 102, 103, 106] (by exact .p (by exact op_alloc (k := 106) tyZero23 rfl)) (by exact rfl)⟩, trivial, trivial, trivial⟩, ⟨by kernel_rfl, ⟨⟨Pt 101 2, fun _ => rfl, fun _ => .p (by exact op_field_p tyFld25_2 rfl rfl)⟩, ⟨.b (.agg (eW a0.W)), fun _ => rfl, fun _ => .p (by exact op_load_p tyAgg23 rfl rfl rfl rfl)⟩, ⟨Pt 102 2, fun _ => rfl, fun _ => .p (by exact op_field_p tyFld25_2 rfl rfl)⟩, ⟨.b (.agg (eW b0.W)), fun _ => rfl, fun _ => .p (by exact op_load_p tyAgg23 rfl rfl rfl rfl)⟩, trivial, ⟨_, some 106, Pt 106 0, rfl, fun _ => rfl, rfl, rfl, fun _ => .toO [101, 102, 103, 105, 106] (by exact .p (by exact op_alloc (k := 106) tyZero23 rfl)) (by exact rfl)⟩, trivial, trivial, trivial⟩, ⟨by kernel_rfl, ⟨⟨Pt 101 2, fun _ => rfl, fun _ => .p (by exact op_field_p tyFld25_2 rfl rfl)⟩, ⟨.b (.agg (eW a0.W)), fun _ => rfl, fun _ => .p (by exact op_load_p tyAgg23 rfl rfl rfl rfl)⟩, ⟨Pt 102 2, fun _ => rfl, fun _ => .p (by exact op_field_p tyFld25_2 rfl rfl)⟩, ⟨.b (.agg (eW b0.W)), fun _ => rfl, fun _ => .p (by exact op_load_p tyAgg23 rfl rfl rfl rfl)⟩, ⟨_, some 105, Pt 105 0, rfl, fun _ => rfl, rfl, rfl, fun _ => .toO [101, 102, 103, 105, 106] (by exact .p (by exact op_alloc (k := 105) tyZero23 rfl)) (by exact rfl)⟩, trivial, trivial, trivial, trivial⟩, ⟨by kernel_rfl, ⟨⟨Pt 101 2, fun _ => rfl, fun _ => .p (by exact op_field_p tyFld25_2 rfl rfl)⟩, ⟨.b (.agg (eW a0.W)), fun _ => rfl, fun _ => .p (by exact op_load_p tyAgg23 rfl rfl rfl rfl)⟩, ⟨Pt 102 2, fun _ => rfl, fun _ => .p (by exact op_field_p tyFld25_2 rfl rfl)⟩, ⟨.b (.agg (eW b0.W)), fun _ => rfl, fun _ => .p (by exact op_load_p tyAgg23 rfl rfl rfl rfl)⟩, trivial, trivial, ⟨_, none, .b (.one .any), rfl, (fun e => by simp at e), rfl, rfl, fun _ => .toO [101, 102, 103, 105, 106] (by exact .p (by exact op_store_p tyAgg23 rfl rfl rfl rfl (Nat.le_of_ble_eq_true rfl) rfl)) (by exact rfl)⟩, trivial, trivial⟩, ⟨by kernel_rfl, ⟨trivial, trivial, ⟨Pt 102 2, fun _ => rfl, fun _ => .p (by exact op_field_p tyFld25_2 rfl rfl)⟩, ⟨.b (.agg (eW b0.W)), fun _ => rfl, fun _ => .p (by exact op_load_p tyAgg23 rfl rfl rfl rfl)⟩, trivial, trivial, trivial, ⟨_, none, .b (.one .any), rfl, (fun e => by simp at e), rfl, rfl, fun _ => .toO [101, 102, 103, 105, 106] (by exact .p (by exact op_store_p tyAgg23 rfl rfl rfl rfl (Nat.le_of_ble_eq_true rfl) rfl)) (by exact rfl)⟩, trivial⟩, ⟨by kernel_rfl, ⟨trivial, trivial, trivial, trivial, trivial, trivial, trivial, trivial, trivial⟩, trivial⟩⟩⟩⟩⟩⟩) rfl rfl rfl [2, 4, 7, 8] [101, 103, 105, 106] (s' := ⟨[(2, _), (4, _), (7, Pt 105 0), (8, Pt 106 0)], [(101, _), (103, _), (105, .box 23 (eW a0.W)), (106, .box 23 (eW b0.W))]⟩) rfl ?_)
   refine Tri.seq (Tri.regionL ?_)
   refine Oc (lp tyAgg23) (Oc (op_buildA tyBuild23 rfl rfl) (Oc (op_neq_agg (eqAgg23 b0.W A16.zero) rfl rfl neg_dec) ?_))
   refine OpsL.nilS ⟨[(2, _), (4, _), (7, _), (8, _), (66, B (decide (b0.W ≠ A16.zero)))], [(101, _), (103, _), (105, _), (106, _)]⟩ rfl (Tri.ite h rfl (fun _ h => ?_) (fun _ h => ?_))
   ·refine Tri.seq (Tri.regionL ?_)
    refine Oc (lp tyAgg23) (Oc (lp tyAgg23) ?_)
    obtain ⟨⟨x_12, x_13⟩, e18, h⟩ := bnd h
    refine Oc (op_call0 (w_quotient_spec e18) goes138 rfl rfl) (Oc om (Oc (op_extract rfl rfl) ?_))
    refine OpsL.keepS ⟨[(4, _), (8, _), (67, .tup [.agg (eW x_12), .agg (eW x_13)]), (71, .b (.agg (eW x_12)))], [(103, _), (106, _)]⟩ rfl (Oc (op_extract rfl rfl) (Oc (op_alloc (k := 107) tyZero23 rfl) (Oc (op_alloc (k := 108) tyZero23 rfl) (Oc (op_store_p tyAgg23 rfl rfl rfl rfl (Nat.le_of_ble_eq_true rfl) rfl) (Oc (op_store_p tyAgg23 rfl rfl rfl rfl (Nat.le_of_ble_eq_true rfl) rfl) ?_)))))
    refine OpsL.nilS ⟨[(4, _), (8, _), (10, Pt 108 0)], [(103, _), (106, _), (108, .box 23 (eW x_13))]⟩ rfl (Tri.seq ?_)
    obtain ⟨x_14, e19, h⟩ := bnd h
    obtain ⟨x_15, e20, h⟩ := bnd h
    obtain ⟨x_16, e21, h⟩ := bnd h
    refine Tri.regionY mixed 5 [.b (.agg (eW b0.W)), .b (.agg (eBig x_14)), .b (.agg (eW x_13)), .b (.agg (eBig x_15)), .b (.agg (eBig x_16))] [4] [103] (s' := ⟨[(4, _)], [(103, .box 25 (eBig x_16))]⟩) rfl ⟨fun _ => .p (lp tyAgg23), fun _ => .p (op_call0 (w_signed_spec e19) goes135 rfl rfl), fun _ => .p (lp tyAgg23), fun _ => .p (op_call0 (w_signed_spec e20) goes135 rfl rfl), fun _ => .p (op_call0 (ih e21) goes77 rfl rfl), trivial⟩ ⟨_, by exact .p (op_store_p tyAgg25 rfl rfl rfl rfl (Nat.le_of_ble_eq_true rfl) rfl), rfl⟩ rfl (Tri.ret (Fin.then_ret ?_))
    obtain rfl := Option.some.inj h
    refine Fin.keepS ⟨[(4, _)], [(103, _)]⟩ rfl (Fin.result' [.agg (eBig x_16)] (.inl rfl) rfl (.cons (.agg tyAgg25 rfl rfl rfl rfl) .nil) ⟨rfl, rfl⟩)
   ·refine Tri.skip (Fin.keepS ⟨[(2, _), (4, _)], [(101, _), (103, _)]⟩ rfl (Fin.then (Tri.seq (Tri.regionL ?_))))
    refine Oc (lp tyAgg25) ?_
    obtain ⟨x_17, e22, h⟩ := bnd h
    refine Oc (op_call0 (w_Abs_spec e22) goes139 rfl rfl) (Oc (op_store_p tyAgg25 rfl rfl rfl rfl (Nat.le_of_ble_eq_true rfl) rfl) ?_)
    refine OpsL.nilS ⟨[(4, _)], [(103, .box 25 (eBig x_17))]⟩ rfl (Tri.ret ?_)
    obtain rfl := Option.some.inj h
    refine Fin.keepS ⟨[(4, _)], [(103, _)]⟩ rfl (Fin.result' [.agg (eBig x_17)] (.inl rfl) rfl (.cons (.agg tyAgg25 rfl rfl rfl rfl) .nil) ⟨rfl, rfl⟩)
theorem w_Gcd_spec {F : Nat} {a0 : Big} {b0 : Big} {r : Big} (h : w_Gcd_S F a0 b0 = some r) : Meets Tryz.prog (tabs mx) 77 [] [.agg (eBig a0), .agg (eBig b0)] (Is [] (.b (.agg (eBig r)))) := w_Gcd_specR F h
def w_Of_S (F : Nat) (n0 : Int) : Option Big :=
 Option.bind (if (decide (n0 < 0)) = true then (letN (IntKind.u64.wrap (-(IntKind.u64.wrap n0))) fun x_2 => some x_2) else (some (IntKind.u64.wrap n0))) (fun u_1 => letN (⟨IntKind.u32.wrap u_1, IntKind.u32.wrap (u_1 / 4294967296), 0, 0, 0, 0, 0, 0, 0, 0, 0, 0, 0, 0, 0, 0⟩ : A16) fun x_3 => (w_signed_S F (decide (n0 < 0)) x_3).bind fun x_4 => some x_4)
theorem w_Of_spec {F : Nat} {n0 : Int} {r : Big} (h : w_Of_S F n0 = some r) : Meets Tryz.prog (tabs mx) 74 [] [.one (.i n0)] (Is [] (.b (.agg (eBig r)))) := by
 unfold w_Of_S at h
 refine Meets.intro 19 Tryz.func74 Tryz.ntmps74 rfl (by simp) fun E => ?_
 show Tri _ E ⟨19, [], []⟩ _ ⟨[(0, I n0)], []⟩ _
 refine Tri.seq (Tri.regionL ?_)
 refine Oc (op_alloc (k := 101) tyZero25 rfl) (OpsL.nilS ⟨[(0, I n0), (2, Pt 101 0)], [(101, .box 25 zBig)]⟩ rfl (Tri.seq (Tri.regionL ?_)))
 refine Oc om (Oc (op_conv_wrap undi3 undi145 rfl) (Oc oa ?_))
 refine OpsL.nilS ⟨[(0, _), (2, _), (3, .b (.one (.int .u64 (IntKind.u64.wrap n0))))], [(101, _)]⟩ rfl ?_
 obtain ⟨v1, h2, h⟩ := bnd h
 refine Tri.seqJ (v := v1) (fun (u_1 : Int) => ⟨[(0, I n0), (2, Pt 101 0), (3, .b (.one (.int .u64 u_1)))], [(101, .box 25 zBig)]⟩) (fun z => z) ?_ ?_
 ·refine Tri.seq (Tri.regionL ?_)
  refine Oc om (Oc (op_lss rfl rfl) ?_)
  refine OpsL.nilS ⟨[(0, _), (2, _), (3, _), (7, B (decide (n0 < 0)))], [(101, _)]⟩ rfl (Tri.ite h2 rfl (fun _ h2 => ?_) (fun _ h2 => ?_))
  ·refine Tri.regionL (Oc om (OpsL.consI .u64 h2 rfl (op_neg rfl) (fun x_2 h2 => ?_)))
   refine Oc oa (OpsL.nil ?_)
   exact Fin.join [0, 2, 3] [101] x_2 (Option.some.inj h2) rfl
  ·refine Tri.skip ?_
   exact Fin.join [0, 2, 3] [101] (IntKind.u64.wrap n0) (Option.some.inj h2) rfl
 ·rintro u_1 hv
  subst v1
  refine Tri.seq (Tri.regionL ?_)
  refine Oc om (Oc (op_lss rfl rfl) (Oc om (Oc (op_conv_wrap undi145 undi22 rfl) (Oc om (Oc (op_shr2 (m := 32) (by decide) rfl rfl rfl) ?_)))))
  refine Oc (op_conv_wrap undi145 undi22 rfl) (OpsL.keepS ⟨[(2, _), (11, B (decide (n0 < 0))), (13, .b (.one (.int .u32 (IntKind.u32.wrap u_1)))), (16, .b (.one (.int .u32 (IntKind.u32.wrap (u_1 / 4294967296)))))], [(101, _)]⟩ rfl (OpsL.consA eW h rfl (op_buildA tyBuild23 rfl rfl) (fun x_3 h => ?_)))
  obtain ⟨x_4, e3, h⟩ := bnd h
  refine Oc (op_call0 (w_signed_spec e3) goes135 rfl rfl) (Oc (op_store_p tyAgg25 rfl rfl rfl rfl (Nat.le_of_ble_eq_true rfl) rfl) ?_)
  refine OpsL.nilS ⟨[(2, _)], [(101, .box 25 (eBig x_4))]⟩ rfl (Tri.ret ?_)
  obtain rfl := Option.some.inj h
  refine Fin.keepS ⟨[(2, _)], [(101, _)]⟩ rfl (Fin.result' [.agg (eBig x_4)] (.inl rfl) rfl (.cons (.agg tyAgg25 rfl rfl rfl rfl) .nil) ⟨rfl, rfl⟩)
def q_one_S (F : Nat) : Option Big :=
 (w_Of_S F 1).bind fun x_1 => some x_1
theorem q_one_spec {F : Nat} {r : Big} (h : q_one_S F = some r) : Meets Tryz.prog (tabs mx) 63 [] [] (Is [] (.b (.agg (eBig r)))) := by
 unfold q_one_S at h
 refine Meets.intro 2 Tryz.func63 Tryz.ntmps63 rfl (by simp) fun E => ?_
 show Tri _ E ⟨2, [], []⟩ _ ⟨[], []⟩ _
 refine Tri.seq (Tri.regionL ?_)
 refine Oc (op_alloc (k := 101) tyZero25 rfl) (OpsL.nilS ⟨[(0, Pt 101 0)], [(101, .box 25 zBig)]⟩ rfl (Tri.seq (Tri.regionL ?_)))
 obtain ⟨x_1, e1, h⟩ := bnd h
 refine Oc (op_call0 (w_Of_spec e1) goes74 rfl rfl) (Oc (op_store_p tyAgg25 rfl rfl rfl rfl (Nat.le_of_ble_eq_true rfl) rfl) ?_)
 refine OpsL.nilS ⟨[(0, _)], [(101, .box 25 (eBig x_1))]⟩ rfl (Tri.ret ?_)
 obtain rfl := Option.some.inj h
 refine Fin.keepS ⟨[(0, _)], [(101, _)]⟩ rfl (Fin.result' [.agg (eBig x_1)] (.inl rfl) rfl (.cons (.agg tyAgg25 rfl rfl rfl rfl) .nil) ⟨rfl, rfl⟩)
def q_Good_S (F : Nat) (x0 : Frc) : Option Bool :=
 (q_good_S F x0.N).bind fun x_1 => (gcall x_1 (q_good_S F x0.D)).bind fun x_2 => (gcall (x_1 && x_2) (w_Sign_S F x0.D)).bind fun x_3 => (gcall ((x_1 && x_2) && (decide (0 < x_3))) (w_Gcd_S F x0.N x0.D)).bind fun x_4 => (gcall ((x_1 && x_2) && (decide (0 < x_3))) (q_one_S F)).bind fun x_5 => some (((x_1 && x_2) && (decide (0 < x_3))) && (decide (x_4 = x_5)))
theorem q_Good_spec {F : Nat} {x0 : Frc} {r : Bool} (h : q_Good_S F x0 = some r) : Meets Tryz.prog (tabs mx) 62 [] [.agg (eFrc x0)] (Is [] (.b (.one (.bool r)))) := by
 unfold q_Good_S at h
 refine Meets.intro 26 Tryz.func62 Tryz.ntmps62 rfl (by simp) fun E => ?_
 show Tri _ E ⟨26, [], []⟩ _ ⟨[(0, .b (.agg (eFrc x0)))], []⟩ _
 refine Tri.seq (Tri.regionL ?_)
 refine Oc (op_box (k := 101) rfl rfl) (Oc oa ?_)
 refine OpsL.nilS ⟨[(1, Pt 101 0)], [(101, .box 27 (eFrc x0))]⟩ rfl (Tri.seq (Tri.regionL ?_))
 refine Oc (op_field_p tyFld27_0 rfl rfl) (Oc (lp tyAgg25) ?_)
 obtain ⟨x_1, e1, h⟩ := bnd h
 refine Oc (op_call0 (q_good_spec e1) goes123 rfl rfl) (Oc om ?_)
 refine CgT x_1 [] (fun g2 => trivial) (fun g2 => op_field_p tyFld27_1 rfl rfl) (OpsL.keepS ⟨[(1, _), (6, B x_1), (7, .opt x_1 (.ptr 101 18))], [(101, _)]⟩ rfl (CgT x_1 [7] (fun g3 => ⟨g3, trivial⟩) (fun g3 => lp tyAgg25) ?_))
 obtain ⟨x_2, e5, h⟩ := bnd h
 refine CgT x_1 [8] (fun g4 => ⟨g4, trivial⟩) (fun g4 => op_call0 (q_good_spec (gc e5 g4)) goes123 rfl rfl) (Oc (op_pick_and (fun e => e) rfl rfl rfl rfl) (Oc om ?_))
 refine CgT (x_1 && x_2) [] (fun g6 => trivial) (fun g6 => op_field_p tyFld27_1 rfl rfl) (CgT (x_1 && x_2) [12] (fun g7 => ⟨g7, trivial⟩) (fun g7 => lp tyAgg25) (OpsL.keepS ⟨[(1, _), (11, B (x_1 && x_2)), (13, .opt (x_1 && x_2) (.agg (eBig x0.D)))], [(101, _)]⟩ rfl ?_))
 obtain ⟨x_3, e9, h⟩ := bnd h
 refine CgT (x_1 && x_2) [13] (fun g8 => ⟨g8, trivial⟩) (fun g8 => op_call0 (w_Sign_spec (gc e9 g8)) goes90 rfl rfl) (CgT (x_1 && x_2) [14] (fun g10 => ⟨g10, trivial⟩) (fun g10 => op_gtr rfl rfl) (Oc (op_pick_and (fun e => e) rfl rfl rfl rfl) (Oc om ?_)))
 refine CgT ((x_1 && x_2) && (decide (0 < x_3))) [] (fun g11 => trivial) (fun g11 => op_field_p tyFld27_0 rfl rfl) (CgT ((x_1 && x_2) && (decide (0 < x_3))) [18] (fun g12 => ⟨g12, trivial⟩) (fun g12 => lp tyAgg25) (CgT ((x_1 && x_2) && (decide (0 < x_3))) [] (fun g13 => by exact trivial) (fun g13 => op_field_p tyFld27_1 rfl rfl) (CgT ((x_1 && x_2) && (decide (0 < x_3))) [20] (fun g14 => by exact ⟨g14, trivial⟩) (fun g14 => lp tyAgg25) (OpsL.keepS ⟨[(17, B ((x_1 && x_2) && (decide (0 < x_3)))), (19, .opt ((x_1 && x_2) && (decide (0 < x_3))) (.agg (eBig x0.N))), (21, .opt ((x_1 && x_2) && (decide (0 < x_3))) (.agg (eBig x0.D)))], []⟩ rfl ?_))))
 obtain ⟨x_4, e16, h⟩ := bnd h
 refine CgT ((x_1 && x_2) && (decide (0 < x_3))) [19, 21] (fun g15 => ⟨g15, g15, trivial⟩) (fun g15 => op_call0 (w_Gcd_spec (gc e16 g15)) goes77 rfl rfl) ?_
 obtain ⟨x_5, e18, h⟩ := bnd h
 refine CgT ((x_1 && x_2) && (decide (0 < x_3))) [] (fun g17 => trivial) (fun g17 => op_call0 (q_one_spec (gc e18 g17)) goes63 rfl rfl) (CgT ((x_1 && x_2) && (decide (0 < x_3))) [22, 23] (fun g19 => ⟨g19, g19, trivial⟩) (fun g19 => op_eql_agg (eqAgg25 x_4 x_5) rfl rfl) (Oc (op_pick_and (fun e => e) rfl rfl rfl rfl) (Oc oa ?_)))
 refine OpsL.nilS ⟨[(2, B (((x_1 && x_2) && (decide (0 < x_3))) && (decide (x_4 = x_5))))], []⟩ rfl (Tri.ret ?_)
 obtain rfl := Option.some.inj h
 refine Fin.keepS ⟨[(2, _)], []⟩ rfl (Fin.result' [.one (.bool (((x_1 && x_2) && (decide (0 < x_3))) && (decide (x_4 = x_5))))] (.inl rfl) rfl (.cons (.tmp rfl) .nil) ⟨rfl, rfl⟩)
def q_Bad_S (F : Nat) : Option Frc :=
 (w_Bad_S F).bind fun x_1 => (q_one_S F).bind fun x_2 => some (⟨x_1, x_2⟩ : Frc)
theorem q_Bad_spec {F : Nat} {r : Frc} (h : q_Bad_S F = some r) : Meets Tryz.prog (tabs mx) 75 [] [] (Is [] (.b (.agg (eFrc r)))) := by
 unfold q_Bad_S at h
 refine Meets.intro 4 Tryz.func75 Tryz.ntmps75 rfl (by simp) fun E => ?_
 show Tri _ E ⟨4, [], []⟩ _ ⟨[], []⟩ _
 refine Tri.seq (Tri.regionL ?_)
 refine Oc (op_alloc (k := 101) tyZero27 rfl) (OpsL.nilS ⟨[(0, Pt 101 0)], [(101, .box 27 zFrc)]⟩ rfl (Tri.seq (Tri.regionL ?_)))
 obtain ⟨x_1, e1, h⟩ := bnd h
 refine Oc (op_call0 (w_Bad_spec e1) goes136 rfl rfl) ?_
 obtain ⟨x_2, e2, h⟩ := bnd h
 refine Oc (op_call0 (q_one_spec e2) goes63 rfl rfl) (Oc (op_build tyBuild27 rfl rfl) (Oc (op_store_p tyAgg27 rfl rfl rfl rfl (Nat.le_of_ble_eq_true rfl) rfl) ?_))
 refine OpsL.nilS ⟨[(0, _)], [(101, .box 27 (eBig x_1 ++ (eBig x_2)))]⟩ rfl (Tri.ret ?_)
 obtain rfl := Option.some.inj h
 refine Fin.keepS ⟨[(0, _)], [(101, _)]⟩ rfl (Fin.result' [.agg (eBig x_1 ++ (eBig x_2))] (.inl rfl) rfl (.cons (.agg tyAgg27 rfl rfl rfl rfl) .nil) ⟨rfl, rfl⟩)
def w_Bits_S (F : Nat) (x0 : Big) : Option Int :=
 (w_size_S F x0.W).bind fun x_1 => (w_good_S F [x0]).bind fun x_2 => if ((!x_2) || (decide (x_1 = 0))) = true then (some 0) else (letN (IntKind.i64.wrap (32 * (IntKind.i64.wrap (x_1 - 1)))) fun x_3 => (idx? x0.W.l (IntKind.i64.wrap (x_1 - 1))).bind fun x_4 => (bits_Len32_S F x_4).bind fun x_5 => some (IntKind.i64.wrap (x_3 + x_5)))
theorem w_Bits_spec {F : Nat} {x0 : Big} {r : Int} (h : w_Bits_S F x0 = some r) : Meets Tryz.prog (tabs mx) 202 [] [.agg (eBig x0)] (Is [] (.b (.one (.i r)))) := by
 unfold w_Bits_S at h
 refine Meets.intro 25 Tryz.func202 Tryz.ntmps202 rfl (by simp) fun E => ?_
 show Tri _ E ⟨25, [], []⟩ _ ⟨[(0, .b (.agg (eBig x0)))], []⟩ _
 refine Tri.seq (Tri.regionL ?_)
 refine Oc (op_box (k := 101) rfl rfl) (Oc oa ?_)
 refine OpsL.nilS ⟨[(1, Pt 101 0)], [(101, .box 25 (eBig x0))]⟩ rfl (Tri.seq (Tri.regionL ?_))
 refine Oc (op_field_p tyFld25_2 rfl rfl) (Oc (lp tyAgg23) ?_)
 obtain ⟨x_1, e1, h⟩ := bnd h
 refine Oc (op_call0 (w_size_spec e1) goes137 rfl rfl) (Oc oa ?_)
 refine OpsL.nilS ⟨[(1, _), (3, I x_1)], [(101, _)]⟩ rfl (Tri.seq (Tri.seq (Tri.regionL ?_)))
 refine Oc (lp tyAgg25) (Oc (op_buildSlice (k := 102) (es := [x0].map eBig) tySl170 rfl rfl (uni_map fun _ => rfl) rfl (by decide) (by decide) rfl) ?_)
 obtain ⟨x_2, e2, h⟩ := bnd h
 refine Oc (op_callB (w_good_spec e2) goes124 rfl CP.flat_bool) (Oc (op_not rfl) ?_)
 refine OpsL.keepS ⟨[(1, _), (3, _), (10, B (!x_2))], [(101, _)]⟩ rfl (Oc om (CgF (!(!x_2)) [] (fun g3 => by exact trivial) (fun g3 => om) (CgF (!(!x_2)) [12] (fun g4 => by exact ⟨g4, trivial⟩) (fun g4 => op_eql rfl rfl) (Oc (op_pick_or (fun e => by rw [e]; rfl) rfl rfl rfl rfl) (OpsL.nilS ⟨[(1, _), (3, _), (14, B ((!x_2) || (decide (x_1 = 0))))], [(101, _)]⟩ rfl ?_)))))
 refine Tri.ite h rfl (fun _ h => ?_) (fun _ h => ?_)
 ·refine Tri.seq (Tri.regionL ?_)
  refine Oc oa (OpsL.nilS ⟨[(2, I 0)], []⟩ rfl (Tri.ret (Fin.then_ret ?_)))
  obtain rfl := Option.some.inj h
  refine Fin.keepS ⟨[(2, _)], []⟩ rfl (Fin.result' [.one (.i 0)] (.inl rfl) rfl (.cons (.tmp rfl) .nil) ⟨rfl, rfl⟩)
 ·refine Tri.skip (Fin.keepS ⟨[(1, _), (3, _)], [(101, _)]⟩ rfl (Fin.then (Tri.seq (Tri.regionL ?_))))
  refine Oc om (Oc (op_sub rfl rfl) ?_)
  refine OpsL.consI .i64 h rfl (op_mul rfl rfl) (fun x_3 h => ?_)
  refine Oc om (Oc (op_sub rfl rfl) (Oc (op_field_p tyFld25_2 rfl rfl) ?_))
  obtain ⟨x_4, e5, h⟩ := bnd h
  refine Oc (op_index_p tyArr23 (ix_lo e5) (ix_hi e5) rfl rfl rfl) (OpsL.keepS ⟨[(17, I x_3), (21, .b (.ptr 101 (2 + (IntKind.i64.wrap (x_1 - 1) : Int).toNat * 1)))], [(101, _)]⟩ rfl (Oc (op_load_p1 tyOne22 rfl rfl (arr_get (post := []) (k := .u32) [.bool x0.Bad, .bool x0.Neg] e5 rfl rfl rfl)) ?_))
  obtain ⟨x_5, e6, h⟩ := bnd h
  refine Oc (op_call0 (bits_Len32_spec e6) goes201 rfl rfl) (Oc (op_add rfl rfl) (Oc oa ?_))
  refine OpsL.nilS ⟨[(2, I (IntKind.i64.wrap (x_3 + x_5)))], []⟩ rfl (Tri.ret ?_)
  obtain rfl := Option.some.inj h
  refine Fin.keepS ⟨[(2, _)], []⟩ rfl (Fin.result' [.one (.i (IntKind.i64.wrap (x_3 + x_5)))] (.inl rfl) rfl (.cons (.tmp rfl) .nil) ⟨rfl, rfl⟩)
def w_Small_S (F : Nat) (x0 : Big) : Option (Int × Bool) :=
 (w_good_S F [x0]).bind fun x_1 => (gcall (!(!x_1)) (w_Bits_S F x0)).bind fun x_2 => if ((!x_1) || (decide (64 < x_2))) = true then (some (0, false)) else (letN (IntKind.u64.wrap ((IntKind.u64.wrap x0.W.a1) * 4294967296)) fun x_3 => letN (ior .u64 x_3 (IntKind.u64.wrap x0.W.a0)) fun x_4 => if (x0.Neg && (decide (x_4 ≤ 9223372036854775808))) = true then (letN (IntKind.i64.wrap (IntKind.u64.wrap (-x_4))) fun x_5 => some (x_5, true)) else (if ((!x0.Neg) && (decide (x_4 < 9223372036854775808))) = true then (some (IntKind.i64.wrap x_4, true)) else (some (0, false))))
theorem w_Small_spec {F : Nat} {x0 : Big} {r : Int × Bool} (h : w_Small_S F x0 = some r) : Meets Tryz.prog (tabs mx) 181 [] [.agg (eBig x0)] (Is [] (.tup [.one (.i r.1), .one (.bool r.2)])) := by
 unfold w_Small_S at h
 refine Meets.intro 44 Tryz.func181 Tryz.ntmps181 rfl (by simp) fun E => ?_
 show Tri _ E ⟨44, [], []⟩ _ ⟨[(0, .b (.agg (eBig x0)))], []⟩ _
 refine Tri.seq (Tri.regionL ?_)
 refine Oc (op_box (k := 101) rfl rfl) (Oc oa (Oc oa ?_))
 refine OpsL.nilS ⟨[(1, Pt 101 0)], [(101, .box 25 (eBig x0))]⟩ rfl (Tri.seq (Tri.seq (Tri.regionL ?_)))
 refine Oc (lp tyAgg25) (Oc (op_buildSlice (k := 102) (es := [x0].map eBig) tySl170 rfl rfl (uni_map fun _ => rfl) rfl (by decide) (by decide) rfl) ?_)
 obtain ⟨x_1, e1, h⟩ := bnd h
 refine Oc (op_callB (w_good_spec e1) goes124 rfl CP.flat_bool) (Oc (op_not rfl) ?_)
 refine OpsL.keepS ⟨[(1, _), (8, B (!x_1))], [(101, _)]⟩ rfl (Oc om (CgF (!(!x_1)) [] (fun g2 => by exact trivial) (fun g2 => lp tyAgg25) ?_))
 obtain ⟨x_2, e4, h⟩ := bnd h
 refine CgF (!(!x_1)) [10] (fun g3 => ⟨g3, trivial⟩) (fun g3 => op_call0 (w_Bits_spec (gc e4 g3)) goes202 rfl rfl) (CgF (!(!x_1)) [11] (fun g5 => ⟨g5, trivial⟩) (fun g5 => op_gtr rfl rfl) (Oc (op_pick_or (fun e => by rw [e]; rfl) rfl rfl rfl rfl) (OpsL.nilS ⟨[(1, _), (13, B ((!x_1) || (decide (64 < x_2))))], [(101, _)]⟩ rfl (Tri.ite h rfl (fun _ h => ?_) (fun _ h => ?_)))))
 ·refine Tri.seq (Tri.regionL ?_)
  refine Oc oa (Oc oa ?_)
  refine OpsL.nilS ⟨[(2, I 0), (3, B false)], []⟩ rfl (Tri.ret (Fin.then_ret ?_))
  obtain rfl := Option.some.inj h
  refine Fin.keepS ⟨[(2, _), (3, _)], []⟩ rfl (Fin.result' [.one (.i 0), .one (.bool false)] (.inl rfl) rfl (.cons (.tmp rfl) (.cons (.tmp rfl) .nil)) ⟨rfl, rfl⟩)
 ·refine Tri.skip (Fin.keepS ⟨[(1, _)], [(101, _)]⟩ rfl (Fin.then (Tri.seq (Tri.regionL ?_))))
  refine Oc (op_field_p tyFld25_2 rfl rfl) (Oc (op_index_p tyArr23 (by decide) (by decide) rfl rfl rfl) (Oc (op_load_p1 tyOne22 rfl rfl rfl) (Oc (op_conv_wrap undi22 undi145 rfl) ?_)))
  refine OpsL.consI .u64 h rfl (op_shl0 (m := 32) (q := 4294967296) (by decide) rfl rfl (by decide)) (fun x_3 h => ?_)
  refine Oc (op_field_p tyFld25_2 rfl rfl) (Oc (op_index_p tyArr23 (by decide) (by decide) rfl rfl rfl) ?_)
  refine OpsL.keepS ⟨[(1, _), (18, .b (.one (.int .u64 x_3))), (20, Pt 101 2)], [(101, _)]⟩ rfl (Oc (op_load_p1 tyOne22 rfl rfl rfl) (Oc (op_conv_wrap undi22 undi145 rfl) ?_))
  refine OpsL.consI .u64 h rfl (op_or rfl rfl) (fun x_4 h => ?_)
  refine Oc oa (OpsL.nilS ⟨[(1, _), (4, .b (.one (.int .u64 x_4)))], [(101, _)]⟩ rfl (Tri.seq (Tri.block (Tri.seq (Tri.regionL ?_)))))
  refine Oc (op_field_p tyFld25_1 rfl rfl) (Oc (op_load_p1 tyOne4 rfl rfl rfl) (Oc om ?_))
  refine CgT x0.Neg [] (fun g6 => trivial) (fun g6 => om) (CgT x0.Neg [28] (fun g7 => by exact ⟨g7, trivial⟩) (fun g7 => op_leq rfl rfl) (Oc (op_pick_and (fun e => e) rfl rfl rfl rfl) (Oc oa ?_)))
  refine OpsL.nilS ⟨[(1, _), (4, _), (24, B (x0.Neg && (decide (x_4 ≤ 9223372036854775808))))], [(101, _)]⟩ rfl (Tri.ite h rfl (fun _ h => ?_) (fun _ h => ?_))
  ·refine Tri.seq (Tri.regionL ?_)
   refine Oc om (Oc (op_neg rfl) ?_)
   refine OpsL.consI .i64 h rfl (op_conv_wrap undi145 undi3 rfl) (fun x_5 h => ?_)
   refine Oc oa (Oc oa ?_)
   refine OpsL.nilS ⟨[(2, I x_5), (3, B true)], []⟩ rfl (Tri.ret (Fin.block_ret (Fin.then_ret ?_)))
   obtain rfl := Option.some.inj h
   refine Fin.keepS ⟨[(2, _), (3, _)], []⟩ rfl (Fin.result' [.one (.i x_5), .one (.bool true)] (.inl rfl) rfl (.cons (.tmp rfl) (.cons (.tmp rfl) .nil)) ⟨rfl, rfl⟩)
  ·refine Tri.seq (Tri.regionL ?_)
   refine Oc (op_field_p tyFld25_1 rfl rfl) (Oc (op_load_p1 tyOne4 rfl rfl rfl) (Oc (op_not rfl) (Oc om ?_)))
   refine CgT (!x0.Neg) [] (fun g8 => trivial) (fun g8 => om) (CgT (!x0.Neg) [39] (fun g9 => by exact ⟨g9, trivial⟩) (fun g9 => op_lss rfl rfl) (Oc (op_pick_and (fun e => e) rfl rfl rfl rfl) (Oc oa ?_)))
   refine OpsL.nilS ⟨[(4, _), (34, B ((!x0.Neg) && (decide (x_4 < 9223372036854775808))))], []⟩ rfl (Tri.ite h rfl (fun _ h => ?_) (fun _ h => ?_))
   ·refine Tri.seq (Tri.regionL ?_)
    refine Oc om (Oc (op_conv_wrap undi145 undi3 rfl) (Oc oa (Oc oa ?_)))
    refine OpsL.nilS ⟨[(2, I (IntKind.i64.wrap x_4)), (3, B true)], []⟩ rfl (Tri.ret (Fin.block_ret (Fin.then_ret ?_)))
    obtain rfl := Option.some.inj h
    refine Fin.keepS ⟨[(2, _), (3, _)], []⟩ rfl (Fin.result' [.one (.i (IntKind.i64.wrap x_4)), .one (.bool true)] (.inl rfl) rfl (.cons (.tmp rfl) (.cons (.tmp rfl) .nil)) ⟨rfl, rfl⟩)
   ·refine Tri.skip (Fin.block_normal (Fin.keepS ⟨[], []⟩ rfl (Fin.then (Tri.seq (Tri.regionL ?_)))))
    refine Oc oa (Oc oa ?_)
    refine OpsL.nilS ⟨[(2, I 0), (3, B false)], []⟩ rfl (Tri.ret ?_)
    obtain rfl := Option.some.inj h
    refine Fin.keepS ⟨[(2, _), (3, _)], []⟩ rfl (Fin.result' [.one (.i 0), .one (.bool false)] (.inl rfl) rfl (.cons (.tmp rfl) (.cons (.tmp rfl) .nil)) ⟨rfl, rfl⟩)
def w_Neg_S (F : Nat) (x0 : Big) : Option Big :=
 (w_good_S F [x0]).bind fun x_1 => if (!x_1) = true then ((w_Bad_S F).bind fun x_2 => some x_2) else ((w_signed_S F (!x0.Neg) x0.W).bind fun x_3 => some x_3)
theorem w_Neg_spec {F : Nat} {x0 : Big} {r : Big} (h : w_Neg_S F x0 = some r) : Meets Tryz.prog (tabs mx) 81 [] [.agg (eBig x0)] (Is [] (.b (.agg (eBig r)))) := by
 unfold w_Neg_S at h
 refine Meets.intro 14 Tryz.func81 Tryz.ntmps81 rfl (by simp) fun E => ?_
 show Tri _ E ⟨14, [], []⟩ _ ⟨[(0, .b (.agg (eBig x0)))], []⟩ _
 refine Tri.seq (Tri.regionL ?_)
 refine Oc (op_box (k := 101) rfl rfl) (Oc (op_alloc (k := 102) tyZero25 rfl) ?_)
 refine OpsL.nilS ⟨[(1, Pt 101 0), (2, Pt 102 0)], [(101, .box 25 (eBig x0)), (102, .box 25 zBig)]⟩ rfl (Tri.seq (Tri.seq (Tri.regionL ?_)))
 refine Oc (lp tyAgg25) (Oc (op_buildSlice (k := 103) (es := [x0].map eBig) tySl170 rfl rfl (uni_map fun _ => rfl) rfl (by decide) (by decide) rfl) ?_)
 obtain ⟨x_1, e1, h⟩ := bnd h
 refine Oc (op_callB (w_good_spec e1) goes124 rfl CP.flat_bool) (Oc (op_not rfl) ?_)
 refine OpsL.nilS ⟨[(1, _), (2, _), (6, B (!x_1))], [(101, _), (102, _)]⟩ rfl (Tri.ite h rfl (fun _ h => ?_) (fun _ h => ?_))
 ·refine Tri.seq (Tri.regionL ?_)
  obtain ⟨x_2, e2, h⟩ := bnd h
  refine Oc (op_call0 (w_Bad_spec e2) goes136 rfl rfl) (Oc (op_store_p tyAgg25 rfl rfl rfl rfl (Nat.le_of_ble_eq_true rfl) rfl) ?_)
  refine OpsL.nilS ⟨[(2, _)], [(102, .box 25 (eBig x_2))]⟩ rfl (Tri.ret (Fin.then_ret ?_))
  obtain rfl := Option.some.inj h
  refine Fin.keepS ⟨[(2, _)], [(102, _)]⟩ rfl (Fin.result' [.agg (eBig x_2)] (.inl rfl) rfl (.cons (.agg tyAgg25 rfl rfl rfl rfl) .nil) ⟨rfl, rfl⟩)
 ·refine Tri.skip (Fin.keepS ⟨[(1, _), (2, _)], [(101, _), (102, _)]⟩ rfl (Fin.then (Tri.seq (Tri.regionL ?_))))
  refine Oc (op_field_p tyFld25_1 rfl rfl) (Oc (op_load_p1 tyOne4 rfl rfl rfl) (Oc (op_not rfl) (Oc (op_field_p tyFld25_2 rfl rfl) (Oc (lp tyAgg23) ?_))))
  obtain ⟨x_3, e3, h⟩ := bnd h
  refine Oc (op_call0 (w_signed_spec e3) goes135 rfl rfl) (Oc (op_store_p tyAgg25 rfl rfl rfl rfl (Nat.le_of_ble_eq_true rfl) rfl) ?_)
  refine OpsL.nilS ⟨[(2, _)], [(102, .box 25 (eBig x_3))]⟩ rfl (Tri.ret ?_)
  obtain rfl := Option.some.inj h
  refine Fin.keepS ⟨[(2, _)], [(102, _)]⟩ rfl (Fin.result' [.agg (eBig x_3)] (.inl rfl) rfl (.cons (.agg tyAgg25 rfl rfl rfl rfl) .nil) ⟨rfl, rfl⟩)
def w_plus_S (F : Nat) (a0 : A16) (b0 : A16) : Option (A16 × Bool) :=
 Option.bind (iter F (un3 fun out_3 carry_4 x_5 => if (decide (x_5 < 16)) = true then ((idx? a0.l x_5).bind fun x_8 => (idx? b0.l x_5).bind fun x_9 => letN (IntKind.u64.wrap (carry_4 + (IntKind.u64.wrap ((IntKind.u64.wrap x_8) + (IntKind.u64.wrap x_9))))) fun x_10 => (idx? out_3.l x_5).bind fun x_11 => letN (IntKind.u64.wrap (carry_4 + (IntKind.u64.wrap ((IntKind.u64.wrap x_8) + (IntKind.u64.wrap x_9))))) fun x_12 => some (.inl (out_3.set x_5 (IntKind.u32.wrap x_10), x_12 / 4294967296, IntKind.i64.wrap (x_5 + 1)))) else (some (.inr (out_3, carry_4)))) (A16.zero, 0, 0)) (un2 fun out_1 carry_2 => some (out_1, decide (carry_2 = 0)))
theorem w_plus_spec {F : Nat} {a0 : A16} {b0 : A16} {r : A16 × Bool} (h : w_plus_S F a0 b0 = some r) : Meets Tryz.prog (tabs mx) 141 [] [.agg (eW a0), .agg (eW b0)] (Is [] (.tup [.agg (eW r.1), .one (.bool r.2)])) := by
 unfold w_plus_S at h
 refine Meets.intro 33 Tryz.func141 Tryz.ntmps141 rfl (by simp) fun E => ?_
 show Tri _ E ⟨33, [], []⟩ _ ⟨[(0, .b (.agg (eW a0))), (1, .b (.agg (eW b0)))], []⟩ _
 refine Tri.seq (Tri.regionL ?_)
 refine Oc (op_box (k := 101) rfl rfl) (Oc (op_box (k := 102) rfl rfl) (Oc (op_alloc (k := 103) tyZero23 rfl) (Oc oa ?_)))
 refine OpsL.nilS ⟨[(2, Pt 101 0), (3, Pt 102 0), (4, Pt 103 0)], [(101, .box 23 (eW a0)), (102, .box 23 (eW b0)), (103, .box 23 (eW A16.zero))]⟩ rfl (Tri.seq (Tri.regionL ?_))
 refine Oc (op_alloc (k := 104) tyZero23 rfl) (OpsL.nilS ⟨[(2, _), (3, _), (4, _), (6, Pt 104 0)], [(101, _), (102, _), (103, _), (104, .box 23 (eW A16.zero))]⟩ rfl (Tri.seq (Tri.regionL ?_)))
 refine Oc oa (OpsL.nilS ⟨[(2, _), (3, _), (4, _), (6, _), (7, .b (.one (.int .u64 0)))], [(101, _), (102, _), (103, _), (104, _)]⟩ rfl ?_)
 obtain ⟨v1, h2, h⟩ := bnd h
 refine Tri.seqJ (v := v1) (un2 fun (out_1 : A16) (carry_2 : Int) => ⟨[(4, Pt 103 0), (6, Pt 104 0), (7, .b (.one (.int .u64 carry_2)))], [(103, .box 23 (eW A16.zero)), (104, .box 23 (eW out_1))]⟩) (fun z => z) ?_ ?_
 ·refine Tri.seq (Tri.regionL ?_)
  refine Oc om (OpsL.nilS ⟨[(2, _), (3, _), (4, _), (6, _), (7, _), (9, I 0)], [(101, _), (102, _), (103, _), (104, _)]⟩ rfl (Tri.block (Tri.loopJ h2 (un3 fun (out_3 : A16) (carry_4 : Int) (x_5 : Int) => ⟨[(2, Pt 101 0), (3, Pt 102 0), (4, Pt 103 0), (6, Pt 104 0), (7, .b (.one (.int .u64 carry_4))), (9, I x_5)], [(101, .box 23 (eW a0)), (102, .box 23 (eW b0)), (103, .box 23 (eW A16.zero)), (104, .box 23 (eW out_3))]⟩) [2, 3, 4, 6, 7, 9] [101, 102, 103, 104] rfl ?_)))
  rintro ⟨out_3, carry_4, x_5⟩ o3 h4 hy5
  refine Tri.seq (Tri.regionL ?_)
  refine Oc (op_lss rfl rfl) (OpsL.nilS ⟨[(2, _), (3, _), (4, _), (6, _), (7, _), (9, _), (10, B (decide (x_5 < 16)))], [(101, _), (102, _), (103, _), (104, _)]⟩ rfl (Tri.seq (Tri.ite h4 rfl (fun _ h4 => ?_) (fun _ h4 => ?_))))
  ·refine Tri.skip (Fin.keepS ⟨[(2, _), (3, _), (4, _), (6, _), (7, _), (9, _)], [(101, _), (102, _), (103, _), (104, _)]⟩ rfl (Fin.then (Tri.seq (Tri.block (Tri.seq (Tri.regionL ?_))))))
   refine Oc om (Oc oa ?_)
   refine OpsL.nilS ⟨[(2, _), (3, _), (4, _), (6, _), (7, _), (8, I x_5), (9, _)], [(101, _), (102, _), (103, _), (104, _)]⟩ rfl (Tri.seq ?_)
   obtain ⟨x_8, e6, h4⟩ := bnd h4
   obtain ⟨x_9, e7, h4⟩ := bnd h4
   refine Tri.regionY mixed 11 [.b (.one (.int .u64 carry_4)), I x_5, .b (.ptr 101 (0 + (x_5 : Int).toNat * 1)), .b (.one (.int .u32 x_8)), .b (.one (.int .u64 (IntKind.u64.wrap x_8))), I x_5, .b (.ptr 102 (0 + (x_5 : Int).toNat * 1)), .b (.one (.int .u32 x_9)), .b (.one (.int .u64 (IntKind.u64.wrap x_9))), .b (.one (.int .u64 (IntKind.u64.wrap ((IntKind.u64.wrap x_8) + (IntKind.u64.wrap x_9))))), .b (.one (.int .u64 (IntKind.u64.wrap (carry_4 + (IntKind.u64.wrap ((IntKind.u64.wrap x_8) + (IntKind.u64.wrap x_9)))))))] [2, 3, 4, 6, 7, 8, 9] [101, 102, 103, 104] (s' := ⟨[(2, _), (3, _), (4, _), (6, _), (7, .b (.one (.int .u64 (IntKind.u64.wrap (carry_4 + (IntKind.u64.wrap ((IntKind.u64.wrap x_8) + (IntKind.u64.wrap x_9)))))))), (8, _), (9, _)], [(101, _), (102, _), (103, _), (104, _)]⟩) rfl ⟨fun _ => .p om, fun _ => .p om, fun _ => .p (op_index_p tyArr23 (ix_lo e6) (ix_hi e6) rfl rfl rfl), fun _ => .p (op_load_p1 tyOne22 rfl rfl (arr_get (post := []) (k := .u32) [] e6 rfl rfl rfl)), fun _ => .p (op_conv_wrap undi22 undi145 rfl), fun _ => .p om, fun _ => .p (op_index_p tyArr23 (ix_lo e7) (ix_hi e7) rfl rfl rfl), fun _ => .p (op_load_p1 tyOne22 rfl rfl (arr_get (post := []) (k := .u32) [] e7 rfl rfl rfl)), fun _ => .p (op_conv_wrap undi22 undi145 rfl), fun _ => .p (op_add rfl rfl), fun _ => .p (op_add rfl rfl), trivial⟩ ⟨_, by exact .p oa, rfl⟩ rfl (Tri.seq (Tri.regionL ?_))
   refine Oc om (OpsL.consI .u64 h4 rfl om (fun x_10 h4 => ?_))
   refine Oc (op_conv_wrap undi145 undi22 rfl) ?_
   obtain ⟨x_11, e8, h4⟩ := bnd h4
   refine Oc (op_index_p tyArr23 (ix_lo e8) (ix_hi e8) rfl rfl rfl) (Oc (op_store_p1 tyOne22 rfl rfl rfl (arr_lt (post := []) (k := .u32) [] e8 rfl rfl rfl) (arr_set (post := []) (k := .u32) [] e8 rfl rfl (A16.set_l out_3 x_5 (IntKind.u32.wrap x_10)) rfl rfl)) ?_)
   refine OpsL.nilS ⟨[(2, _), (3, _), (4, _), (6, _), (7, _), (9, _)], [(101, _), (102, _), (103, _), (104, .box 23 (eW (out_3.set x_5 (IntKind.u32.wrap x_10))))]⟩ rfl (Tri.regionL (OpsL.consI .u64 h4 rfl om (fun x_12 h4 => ?_)))
   refine Oc (op_shr2 (m := 32) (by decide) rfl rfl rfl) (Oc oa ?_)
   refine OpsL.nil (Fin.block_normal (Fin.keepS ⟨[(2, _), (3, _), (4, _), (6, _), (7, .b (.one (.int .u64 (x_12 / 4294967296)))), (9, _)], [(101, _), (102, _), (103, _), (104, _)]⟩ rfl (Fin.then (Tri.regionL ?_))))
   refine Oc (op_add rfl rfl) (Oc om ?_)
   refine OpsL.nil ?_
   exact Fin.againJ [2, 3, 4, 6, 7, 9] [101, 102, 103, 104] (out_3.set x_5 (IntKind.u32.wrap x_10), x_12 / 4294967296, IntKind.i64.wrap (x_5 + 1)) (Option.some.inj h4) rfl
  ·refine Tri.exit (Fin.then_exit ?_)
   obtain rfl := hy5 _ (Option.some.inj h4).symm
   refine Fin.then_exit (Fin.block_exit ?_)
   exact Fin.join [4, 6, 7] [103, 104] (out_3, carry_4) rfl rfl
 ·rintro ⟨out_1, carry_2⟩ hv
  subst v1
  refine Tri.seq (Tri.regionL ?_)
  refine Oc (lp tyAgg23) (Oc om (Oc (op_eql rfl rfl) (Oc (op_store_p tyAgg23 rfl rfl rfl rfl (Nat.le_of_ble_eq_true rfl) rfl) (Oc oa ?_))))
  refine OpsL.nilS ⟨[(4, _), (5, B (decide (carry_2 = 0)))], [(103, .box 23 (eW out_1))]⟩ rfl (Tri.ret ?_)
  obtain rfl := Option.some.inj h
  refine Fin.keepS ⟨[(4, _), (5, _)], [(103, _)]⟩ rfl (Fin.result' [.agg (eW out_1), .one (.bool (decide (carry_2 = 0)))] (.inl rfl) rfl (.cons (.agg tyAgg23 rfl rfl rfl rfl) (.cons (.tmp rfl) .nil)) ⟨rfl, rfl⟩)
def w_minus_S (F : Nat) (a0 : A16) (b0 : A16) : Option A16 :=
 Option.bind (iter F (un3 fun out_2 borrow_3 x_4 => if (decide (x_4 < 16)) = true then ((idx? a0.l x_4).bind fun x_6 => (idx? b0.l x_4).bind fun x_7 => letN (IntKind.u64.wrap ((IntKind.u64.wrap ((IntKind.u64.wrap x_6) - (IntKind.u64.wrap x_7))) - borrow_3)) fun x_8 => (idx? out_2.l x_4).bind fun x_9 => letN (IntKind.u64.wrap ((IntKind.u64.wrap ((IntKind.u64.wrap x_6) - (IntKind.u64.wrap x_7))) - borrow_3)) fun x_10 => some (.inl (out_2.set x_4 (IntKind.u32.wrap x_8), x_10 / 9223372036854775808, IntKind.i64.wrap (x_4 + 1)))) else (some (.inr out_2))) (A16.zero, 0, 0)) (fun out_1 => some out_1)
theorem w_minus_spec {F : Nat} {a0 : A16} {b0 : A16} {r : A16} (h : w_minus_S F a0 b0 = some r) : Meets Tryz.prog (tabs mx) 143 [] [.agg (eW a0), .agg (eW b0)] (Is [] (.b (.agg (eW r)))) := by
 unfold w_minus_S at h
 refine Meets.intro 31 Tryz.func143 Tryz.ntmps143 rfl (by simp) fun E => ?_
 show Tri _ E ⟨31, [], []⟩ _ ⟨[(0, .b (.agg (eW a0))), (1, .b (.agg (eW b0)))], []⟩ _
 refine Tri.seq (Tri.regionL ?_)
 refine Oc (op_box (k := 101) rfl rfl) (Oc (op_box (k := 102) rfl rfl) (Oc (op_alloc (k := 103) tyZero23 rfl) ?_))
 refine OpsL.nilS ⟨[(2, Pt 101 0), (3, Pt 102 0), (4, Pt 103 0)], [(101, .box 23 (eW a0)), (102, .box 23 (eW b0)), (103, .box 23 (eW A16.zero))]⟩ rfl (Tri.seq (Tri.regionL ?_))
 refine Oc (op_alloc (k := 104) tyZero23 rfl) (OpsL.nilS ⟨[(2, _), (3, _), (4, _), (5, Pt 104 0)], [(101, _), (102, _), (103, _), (104, .box 23 (eW A16.zero))]⟩ rfl (Tri.seq (Tri.regionL ?_)))
 refine Oc oa (OpsL.nilS ⟨[(2, _), (3, _), (4, _), (5, _), (6, .b (.one (.int .u64 0)))], [(101, _), (102, _), (103, _), (104, _)]⟩ rfl ?_)
 obtain ⟨v1, h2, h⟩ := bnd h
 refine Tri.seqJ (v := v1) (fun (out_1 : A16) => ⟨[(4, Pt 103 0), (5, Pt 104 0)], [(103, .box 23 (eW A16.zero)), (104, .box 23 (eW out_1))]⟩) (fun z => z) ?_ ?_
 ·refine Tri.seq (Tri.regionL ?_)
  refine Oc om (OpsL.nilS ⟨[(2, _), (3, _), (4, _), (5, _), (6, _), (9, I 0)], [(101, _), (102, _), (103, _), (104, _)]⟩ rfl (Tri.block (Tri.loopJ h2 (un3 fun (out_2 : A16) (borrow_3 : Int) (x_4 : Int) => ⟨[(2, Pt 101 0), (3, Pt 102 0), (4, Pt 103 0), (5, Pt 104 0), (6, .b (.one (.int .u64 borrow_3))), (9, I x_4)], [(101, .box 23 (eW a0)), (102, .box 23 (eW b0)), (103, .box 23 (eW A16.zero)), (104, .box 23 (eW out_2))]⟩) [2, 3, 4, 5, 6, 9] [101, 102, 103, 104] rfl ?_)))
  rintro ⟨out_2, borrow_3, x_4⟩ o3 h4 hy5
  refine Tri.seq (Tri.regionL ?_)
  refine Oc (op_lss rfl rfl) (OpsL.nilS ⟨[(2, _), (3, _), (4, _), (5, _), (6, _), (9, _), (10, B (decide (x_4 < 16)))], [(101, _), (102, _), (103, _), (104, _)]⟩ rfl (Tri.seq (Tri.ite h4 rfl (fun _ h4 => ?_) (fun _ h4 => ?_))))
  ·refine Tri.skip (Fin.keepS ⟨[(2, _), (3, _), (4, _), (5, _), (6, _), (9, _)], [(101, _), (102, _), (103, _), (104, _)]⟩ rfl (Fin.then (Tri.seq (Tri.block (Tri.seq (Tri.regionL ?_))))))
   refine Oc om (Oc oa ?_)
   refine OpsL.nilS ⟨[(2, _), (3, _), (4, _), (5, _), (6, _), (7, I x_4), (9, _)], [(101, _), (102, _), (103, _), (104, _)]⟩ rfl (Tri.seq ?_)
   obtain ⟨x_6, e6, h4⟩ := bnd h4
   obtain ⟨x_7, e7, h4⟩ := bnd h4
   refine Tri.regionY mixed 12 [I x_4, .b (.ptr 101 (0 + (x_4 : Int).toNat * 1)), .b (.one (.int .u32 x_6)), .b (.one (.int .u64 (IntKind.u64.wrap x_6))), I x_4, .b (.ptr 102 (0 + (x_4 : Int).toNat * 1)), .b (.one (.int .u32 x_7)), .b (.one (.int .u64 (IntKind.u64.wrap x_7))), .b (.one (.int .u64 (IntKind.u64.wrap ((IntKind.u64.wrap x_6) - (IntKind.u64.wrap x_7))))), .b (.one (.int .u64 borrow_3)), .b (.one (.int .u64 (IntKind.u64.wrap ((IntKind.u64.wrap ((IntKind.u64.wrap x_6) - (IntKind.u64.wrap x_7))) - borrow_3)))), .b (.one (.int .u64 (IntKind.u64.wrap ((IntKind.u64.wrap ((IntKind.u64.wrap x_6) - (IntKind.u64.wrap x_7))) - borrow_3))))] [2, 3, 4, 5, 7, 8, 9] [101, 102, 103, 104] (s' := ⟨[(2, _), (3, _), (4, _), (5, _), (7, _), (8, .b (.one (.int .u64 (IntKind.u64.wrap ((IntKind.u64.wrap ((IntKind.u64.wrap x_6) - (IntKind.u64.wrap x_7))) - borrow_3))))), (9, _)], [(101, _), (102, _), (103, _), (104, _)]⟩) rfl ⟨fun _ => .p om, fun _ => .p (op_index_p tyArr23 (ix_lo e6) (ix_hi e6) rfl rfl rfl), fun _ => .p (op_load_p1 tyOne22 rfl rfl (arr_get (post := []) (k := .u32) [] e6 rfl rfl rfl)), fun _ => .p (op_conv_wrap undi22 undi145 rfl), fun _ => .p om, fun _ => .p (op_index_p tyArr23 (ix_lo e7) (ix_hi e7) rfl rfl rfl), fun _ => .p (op_load_p1 tyOne22 rfl rfl (arr_get (post := []) (k := .u32) [] e7 rfl rfl rfl)), fun _ => .p (op_conv_wrap undi22 undi145 rfl), fun _ => .p (op_sub rfl rfl), fun _ => .p om, fun _ => .p (op_sub rfl rfl), fun _ => .p oa, trivial⟩ rfl rfl (Tri.seq (Tri.regionL ?_))
   refine Oc om (OpsL.consI .u64 h4 rfl om (fun x_8 h4 => ?_))
   refine Oc (op_conv_wrap undi145 undi22 rfl) ?_
   obtain ⟨x_9, e8, h4⟩ := bnd h4
   refine Oc (op_index_p tyArr23 (ix_lo e8) (ix_hi e8) rfl rfl rfl) (Oc (op_store_p1 tyOne22 rfl rfl rfl (arr_lt (post := []) (k := .u32) [] e8 rfl rfl rfl) (arr_set (post := []) (k := .u32) [] e8 rfl rfl (A16.set_l out_2 x_4 (IntKind.u32.wrap x_8)) rfl rfl)) ?_)
   refine OpsL.nilS ⟨[(2, _), (3, _), (4, _), (5, _), (8, _), (9, _)], [(101, _), (102, _), (103, _), (104, .box 23 (eW (out_2.set x_4 (IntKind.u32.wrap x_8))))]⟩ rfl (Tri.regionL (OpsL.consI .u64 h4 rfl om (fun x_10 h4 => ?_)))
   refine Oc (op_shr2 (m := 63) (by decide) rfl rfl rfl) (Oc oa ?_)
   refine OpsL.nil (Fin.block_normal (Fin.keepS ⟨[(2, _), (3, _), (4, _), (5, _), (6, .b (.one (.int .u64 (x_10 / 9223372036854775808)))), (9, _)], [(101, _), (102, _), (103, _), (104, _)]⟩ rfl (Fin.then (Tri.regionL ?_))))
   refine Oc (op_add rfl rfl) (Oc om ?_)
   refine OpsL.nil ?_
   exact Fin.againJ [2, 3, 4, 5, 6, 9] [101, 102, 103, 104] (out_2.set x_4 (IntKind.u32.wrap x_8), x_10 / 9223372036854775808, IntKind.i64.wrap (x_4 + 1)) (Option.some.inj h4) rfl
  ·refine Tri.exit (Fin.then_exit ?_)
   obtain rfl := hy5 _ (Option.some.inj h4).symm
   refine Fin.then_exit (Fin.block_exit ?_)
   exact Fin.join [4, 5] [103, 104] out_2 rfl rfl
 ·rintro out_1 hv
  subst v1
  refine Tri.seq (Tri.regionL ?_)
  refine Oc (lp tyAgg23) (Oc (op_store_p tyAgg23 rfl rfl rfl rfl (Nat.le_of_ble_eq_true rfl) rfl) ?_)
  refine OpsL.nilS ⟨[(4, _)], [(103, .box 23 (eW out_1))]⟩ rfl (Tri.ret ?_)
  obtain rfl := Option.some.inj h
  refine Fin.keepS ⟨[(4, _)], [(103, _)]⟩ rfl (Fin.result' [.agg (eW out_1)] (.inl rfl) rfl (.cons (.agg tyAgg23 rfl rfl rfl rfl) .nil) ⟨rfl, rfl⟩)
def w_Add_S (F : Nat) (a0 : Big) (b0 : Big) : Option Big :=
 (w_good_S F [a0, b0]).bind fun x_1 => if (!x_1) = true then ((w_Bad_S F).bind fun x_2 => some x_2) else (if (a0.Neg == b0.Neg) = true then (Option.bind (w_plus_S F a0.W b0.W) (un2 fun x_3 x_4 => if (!x_4) = true then ((w_Bad_S F).bind fun x_5 => some x_5) else ((w_signed_S F a0.Neg x_3).bind fun x_6 => some x_6))) else ((w_order_S F a0.W b0.W).bind fun x_7 => if (decide (0 ≤ x_7)) = true then ((w_minus_S F a0.W b0.W).bind fun x_8 => (w_signed_S F a0.Neg x_8).bind fun x_9 => some x_9) else ((w_minus_S F b0.W a0.W).bind fun x_10 => (w_signed_S F b0.Neg x_10).bind fun x_11 => some x_11)))
theorem w_Add_spec {F : Nat} {a0 : Big} {b0 : Big} {r : Big} (h : w_Add_S F a0 b0 = some r) : Meets Tryz.prog (tabs mx) 79 [] [.agg (eBig a0), .agg (eBig b0)] (Is [] (.b (.agg (eBig r)))) := by
 unfold w_Add_S at h
 refine Meets.intro 55 Tryz.func79 Tryz.ntmps79 rfl (by simp) fun E => ?_
 show Tri _ E ⟨55, [], []⟩ _ ⟨[(0, .b (.agg (eBig a0))), (1, .b (.agg (eBig b0)))], []⟩ _
 refine Tri.seq (Tri.regionL ?_)
 refine Oc (op_box (k := 101) rfl rfl) (Oc (op_box (k := 102) rfl rfl) (Oc (op_alloc (k := 103) tyZero25 rfl) ?_))
 refine OpsL.nilS ⟨[(2, Pt 101 0), (3, Pt 102 0), (4, Pt 103 0)], [(101, .box 25 (eBig a0)), (102, .box 25 (eBig b0)), (103, .box 25 zBig)]⟩ rfl (Tri.seq (Tri.seq (Tri.regionL ?_)))
 refine Oc (lp tyAgg25) (Oc (lp tyAgg25) (Oc (op_buildSlice (k := 104) (es := [a0, b0].map eBig) tySl170 rfl rfl (uni_map fun _ => rfl) rfl (by decide) (by decide) rfl) ?_))
 obtain ⟨x_1, e1, h⟩ := bnd h
 refine Oc (op_callB (w_good_spec e1) goes124 rfl CP.flat_bool) (Oc (op_not rfl) ?_)
 refine OpsL.nilS ⟨[(2, _), (3, _), (4, _), (11, B (!x_1))], [(101, _), (102, _), (103, _)]⟩ rfl (Tri.ite h rfl (fun _ h => ?_) (fun _ h => ?_))
 ·refine Tri.seq (Tri.regionL ?_)
  obtain ⟨x_2, e2, h⟩ := bnd h
  refine Oc (op_call0 (w_Bad_spec e2) goes136 rfl rfl) (Oc (op_store_p tyAgg25 rfl rfl rfl rfl (Nat.le_of_ble_eq_true rfl) rfl) ?_)
  refine OpsL.nilS ⟨[(4, _)], [(103, .box 25 (eBig x_2))]⟩ rfl (Tri.ret (Fin.then_ret ?_))
  obtain rfl := Option.some.inj h
  refine Fin.keepS ⟨[(4, _)], [(103, _)]⟩ rfl (Fin.result' [.agg (eBig x_2)] (.inl rfl) rfl (.cons (.agg tyAgg25 rfl rfl rfl rfl) .nil) ⟨rfl, rfl⟩)
 ·refine Tri.skip (Fin.keepS ⟨[(2, _), (3, _), (4, _)], [(101, _), (102, _), (103, _)]⟩ rfl (Fin.then (Tri.seq (Tri.seq (Tri.regionL ?_)))))
  refine Oc (op_field_p tyFld25_1 rfl rfl) (Oc (op_load_p1 tyOne4 rfl rfl rfl) (Oc (op_field_p tyFld25_1 rfl rfl) (Oc (op_load_p1 tyOne4 rfl rfl rfl) (Oc (op_eql_bool und4 rfl rfl) ?_))))
  refine OpsL.nilS ⟨[(2, _), (3, _), (4, _), (17, B (a0.Neg == b0.Neg))], [(101, _), (102, _), (103, _)]⟩ rfl (Tri.ite h rfl (fun _ h => ?_) (fun _ h => ?_))
  ·refine Tri.seq (Tri.regionL ?_)
   refine Oc (op_field_p tyFld25_2 rfl rfl) (Oc (lp tyAgg23) (Oc (op_field_p tyFld25_2 rfl rfl) (Oc (lp tyAgg23) ?_)))
   obtain ⟨⟨x_3, x_4⟩, e3, h⟩ := bnd h
   refine Oc (op_call0 (w_plus_spec e3) goes141 rfl rfl) (OpsL.keepS ⟨[(2, _), (4, _), (23, .tup [.agg (eW x_3), .one (.bool x_4)])], [(101, _), (103, _)]⟩ rfl (Oc om (Oc (op_extract rfl rfl) (Oc (op_extract rfl rfl) (Oc (op_alloc (k := 105) tyZero23 rfl) (Oc (op_store_p tyAgg23 rfl rfl rfl rfl (Nat.le_of_ble_eq_true rfl) rfl) (Oc oa ?_)))))))
   refine OpsL.nilS ⟨[(2, _), (4, _), (5, Pt 105 0), (6, B x_4)], [(101, _), (103, _), (105, .box 23 (eW x_3))]⟩ rfl (Tri.seq (Tri.seq (Tri.regionL ?_)))
   refine Oc om (Oc (op_not rfl) ?_)
   refine OpsL.nilS ⟨[(2, _), (4, _), (5, _), (27, B (!x_4))], [(101, _), (103, _), (105, _)]⟩ rfl (Tri.ite h rfl (fun _ h => ?_) (fun _ h => ?_))
   ·refine Tri.seq (Tri.regionL ?_)
    obtain ⟨x_5, e4, h⟩ := bnd h
    refine Oc (op_call0 (w_Bad_spec e4) goes136 rfl rfl) (Oc (op_store_p tyAgg25 rfl rfl rfl rfl (Nat.le_of_ble_eq_true rfl) rfl) ?_)
    refine OpsL.nilS ⟨[(4, _)], [(103, .box 25 (eBig x_5))]⟩ rfl (Tri.ret (Fin.then_ret (Fin.then_ret ?_)))
    obtain rfl := Option.some.inj h
    refine Fin.keepS ⟨[(4, _)], [(103, _)]⟩ rfl (Fin.result' [.agg (eBig x_5)] (.inl rfl) rfl (.cons (.agg tyAgg25 rfl rfl rfl rfl) .nil) ⟨rfl, rfl⟩)
   ·refine Tri.skip (Fin.keepS ⟨[(2, _), (4, _), (5, _)], [(101, _), (103, _), (105, _)]⟩ rfl (Fin.then (Tri.seq (Tri.regionL ?_))))
    refine Oc (op_field_p tyFld25_1 rfl rfl) (Oc (op_load_p1 tyOne4 rfl rfl rfl) (Oc (lp tyAgg23) ?_))
    obtain ⟨x_6, e5, h⟩ := bnd h
    refine Oc (op_call0 (w_signed_spec e5) goes135 rfl rfl) (Oc (op_store_p tyAgg25 rfl rfl rfl rfl (Nat.le_of_ble_eq_true rfl) rfl) ?_)
    refine OpsL.nilS ⟨[(4, _)], [(103, .box 25 (eBig x_6))]⟩ rfl (Tri.ret (Fin.then_ret ?_))
    obtain rfl := Option.some.inj h
    refine Fin.keepS ⟨[(4, _)], [(103, _)]⟩ rfl (Fin.result' [.agg (eBig x_6)] (.inl rfl) rfl (.cons (.agg tyAgg25 rfl rfl rfl rfl) .nil) ⟨rfl, rfl⟩)
  ·refine Tri.skip (Fin.keepS ⟨[(2, _), (3, _), (4, _)], [(101, _), (102, _), (103, _)]⟩ rfl (Fin.then (Tri.seq (Tri.seq (Tri.regionL ?_)))))
   refine Oc (op_field_p tyFld25_2 rfl rfl) (Oc (lp tyAgg23) (Oc (op_field_p tyFld25_2 rfl rfl) (Oc (lp tyAgg23) ?_)))
   obtain ⟨x_7, e6, h⟩ := bnd h
   refine Oc (op_call0 (w_order_spec e6) goes142 rfl rfl) (Oc (op_geq rfl rfl) ?_)
   refine OpsL.nilS ⟨[(2, _), (3, _), (4, _), (38, B (decide (0 ≤ x_7)))], [(101, _), (102, _), (103, _)]⟩ rfl (Tri.ite h rfl (fun _ h => ?_) (fun _ h => ?_))
   ·refine Tri.seq (Tri.keepS ⟨[(2, _), (3, _), (4, _)], [(101, _), (102, _), (103, _)]⟩ rfl ?_)
    obtain ⟨x_8, e7, h⟩ := bnd h
    obtain ⟨x_9, e8, h⟩ := bnd h
    refine Tri.regionY mixed 8 [Pt 101 1, B a0.Neg, Pt 101 2, .b (.agg (eW a0.W)), Pt 102 2, .b (.agg (eW b0.W)), .b (.agg (eW x_8)), .b (.agg (eBig x_9))] [4] [103] (s' := ⟨[(4, _)], [(103, .box 25 (eBig x_9))]⟩) rfl ⟨fun _ => .p (op_field_p tyFld25_1 rfl rfl), fun _ => .p (op_load_p1 tyOne4 rfl rfl rfl), fun _ => .p (op_field_p tyFld25_2 rfl rfl), fun _ => .p (lp tyAgg23), fun _ => .p (op_field_p tyFld25_2 rfl rfl), fun _ => .p (lp tyAgg23), fun _ => .p (op_call0 (w_minus_spec e7) goes143 rfl rfl), fun _ => .p (op_call0 (w_signed_spec e8) goes135 rfl rfl), trivial⟩ ⟨_, by exact .p (op_store_p tyAgg25 rfl rfl rfl rfl (Nat.le_of_ble_eq_true rfl) rfl), rfl⟩ rfl (Tri.ret (Fin.then_ret ?_))
    obtain rfl := Option.some.inj h
    refine Fin.keepS ⟨[(4, _)], [(103, _)]⟩ rfl (Fin.result' [.agg (eBig x_9)] (.inl rfl) rfl (.cons (.agg tyAgg25 rfl rfl rfl rfl) .nil) ⟨rfl, rfl⟩)
   ·refine Tri.skip (Fin.keepS ⟨[(2, _), (3, _), (4, _)], [(101, _), (102, _), (103, _)]⟩ rfl (Fin.then (Tri.seq ?_)))
    refine Tri.keepS ⟨[(2, _), (3, _), (4, _)], [(101, _), (102, _), (103, _)]⟩ rfl ?_
    obtain ⟨x_10, e9, h⟩ := bnd h
    obtain ⟨x_11, e10, h⟩ := bnd h
    refine Tri.regionY mixed 8 [Pt 102 1, B b0.Neg, Pt 102 2, .b (.agg (eW b0.W)), Pt 101 2, .b (.agg (eW a0.W)), .b (.agg (eW x_10)), .b (.agg (eBig x_11))] [4] [103] (s' := ⟨[(4, _)], [(103, .box 25 (eBig x_11))]⟩) rfl ⟨fun _ => .p (op_field_p tyFld25_1 rfl rfl), fun _ => .p (op_load_p1 tyOne4 rfl rfl rfl), fun _ => .p (op_field_p tyFld25_2 rfl rfl), fun _ => .p (lp tyAgg23), fun _ => .p (op_field_p tyFld25_2 rfl rfl), fun _ => .p (lp tyAgg23), fun _ => .p (op_call0 (w_minus_spec e9) goes143 rfl rfl), fun _ => .p (op_call0 (w_signed_spec e10) goes135 rfl rfl), trivial⟩ ⟨_, by exact .p (op_store_p tyAgg25 rfl rfl rfl rfl (Nat.le_of_ble_eq_true rfl) rfl), rfl⟩ rfl (Tri.ret ?_)
    obtain rfl := Option.some.inj h
    refine Fin.keepS ⟨[(4, _)], [(103, _)]⟩ rfl (Fin.result' [.agg (eBig x_11)] (.inl rfl) rfl (.cons (.agg tyAgg25 rfl rfl rfl rfl) .nil) ⟨rfl, rfl⟩)
def w_Sub_S (F : Nat) (a0 : Big) (b0 : Big) : Option Big :=
 (w_Neg_S F b0).bind fun x_1 => (w_Add_S F a0 x_1).bind fun x_2 => some x_2
theorem w_Sub_spec {F : Nat} {a0 : Big} {b0 : Big} {r : Big} (h : w_Sub_S F a0 b0 = some r) : Meets Tryz.prog (tabs mx) 182 [] [.agg (eBig a0), .agg (eBig b0)] (Is [] (.b (.agg (eBig r)))) := by
 unfold w_Sub_S at h
 refine Meets.intro 9 Tryz.func182 Tryz.ntmps182 rfl (by simp) fun E => ?_
 show Tri _ E ⟨9, [], []⟩ _ ⟨[(0, .b (.agg (eBig a0))), (1, .b (.agg (eBig b0)))], []⟩ _
 refine Tri.seq (Tri.regionL ?_)
 refine Oc (op_box (k := 101) rfl rfl) (Oc (op_box (k := 102) rfl rfl) (Oc (op_alloc (k := 103) tyZero25 rfl) ?_))
 refine OpsL.nilS ⟨[(2, Pt 101 0), (3, Pt 102 0), (4, Pt 103 0)], [(101, .box 25 (eBig a0)), (102, .box 25 (eBig b0)), (103, .box 25 zBig)]⟩ rfl (Tri.seq ?_)
 obtain ⟨x_1, e1, h⟩ := bnd h
 obtain ⟨x_2, e2, h⟩ := bnd h
 refine Tri.regionY mixed 4 [.b (.agg (eBig a0)), .b (.agg (eBig b0)), .b (.agg (eBig x_1)), .b (.agg (eBig x_2))] [4] [103] (s' := ⟨[(4, _)], [(103, .box 25 (eBig x_2))]⟩) rfl ⟨fun _ => .p (lp tyAgg25), fun _ => .p (lp tyAgg25), fun _ => .p (op_call0 (w_Neg_spec e1) goes81 rfl rfl), fun _ => .p (op_call0 (w_Add_spec e2) goes79 rfl rfl), trivial⟩ ⟨_, by exact .p (op_store_p tyAgg25 rfl rfl rfl rfl (Nat.le_of_ble_eq_true rfl) rfl), rfl⟩ rfl (Tri.ret ?_)
 obtain rfl := Option.some.inj h
 refine Fin.keepS ⟨[(4, _)], [(103, _)]⟩ rfl (Fin.result' [.agg (eBig x_2)] (.inl rfl) rfl (.cons (.agg tyAgg25 rfl rfl rfl rfl) .nil) ⟨rfl, rfl⟩)
def w_divided_S (F : Nat) (a0 : Big) (b0 : Big) : Option (Big × Big) :=
 (w_good_S F [a0, b0]).bind fun x_1 => (gcall (!(!x_1)) (w_Sign_S F b0)).bind fun x_2 => if ((!x_1) || (decide (x_2 = 0))) = true then ((w_Bad_S F).bind fun x_3 => (w_Bad_S F).bind fun x_4 => some (x_3, x_4)) else (Option.bind (Option.bind (w_Small_S F a0) (un2 fun x_5 x_6 => if (x_6 && (decide (x_5 ≠ (-9223372036854775808)))) = true then (Option.bind (w_Small_S F b0) (un2 fun x_7 x_8 => if (x_8 && (decide (x_7 ≠ (-9223372036854775808)))) = true then ((quo? .i64 x_5 x_7).bind fun x_9 => (rem? x_5 x_7).bind fun x_10 => Option.bind (letN ((decide (x_10 ≠ 0)) && ((decide (x_10 < 0)) != (decide (x_7 < 0)))) fun x_13 => if x_13 = true then (some (IntKind.i64.wrap (x_9 - 1), IntKind.i64.wrap (x_10 + x_7))) else (some (x_9, x_10))) (un2 fun q_11 r_12 => (w_Of_S F q_11).bind fun x_14 => (w_Of_S F r_12).bind fun x_15 => some (.inr (x_14, x_15)))) else (some (.inl ())))) else (some (.inl ())))) (alt2 (fun _ => Option.bind (w_quotient_S F a0.W b0.W) (un2 fun x_16 x_17 => (w_signed_S F (a0.Neg != b0.Neg) x_16).bind fun x_18 => Option.bind (if ((decide (x_17 ≠ A16.zero)) && (a0.Neg != b0.Neg)) = true then ((w_Of_S F 1).bind fun x_21 => (w_Sub_S F x_18 x_21).bind fun x_22 => (w_minus_S F b0.W x_17).bind fun x_23 => some (x_23, x_22)) else (some (x_17, x_18))) (un2 fun r_19 q_20 => (w_signed_S F b0.Neg r_19).bind fun x_24 => some (q_20, x_24)))) (fun y => some y)))
theorem w_divided_spec {F : Nat} {a0 : Big} {b0 : Big} {r : Big × Big} (h : w_divided_S F a0 b0 = some r) : Meets Tryz.prog (tabs mx) 140 [] [.agg (eBig a0), .agg (eBig b0)] (Is [] (.tup [.agg (eBig r.1), .agg (eBig r.2)])) := by
 unfold w_divided_S at h
 refine Meets.intro 108 Tryz.func140 Tryz.ntmps140 rfl (by simp) fun E => ?_
 show Tri _ E ⟨108, [], []⟩ _ ⟨[(0, .b (.agg (eBig a0))), (1, .b (.agg (eBig b0)))], []⟩ _
 refine Tri.seq (Tri.regionL ?_)
 refine Oc (op_box (k := 101) rfl rfl) (Oc (op_box (k := 102) rfl rfl) (Oc (op_alloc (k := 103) tyZero25 rfl) (Oc (op_alloc (k := 104) tyZero25 rfl) ?_)))
 refine OpsL.nilS ⟨[(2, Pt 101 0), (3, Pt 102 0), (4, Pt 103 0), (5, Pt 104 0)], [(101, .box 25 (eBig a0)), (102, .box 25 (eBig b0)), (103, .box 25 zBig), (104, .box 25 zBig)]⟩ rfl (Tri.seq (Tri.seq (Tri.regionL ?_)))
 refine Oc (lp tyAgg25) (Oc (lp tyAgg25) (Oc (op_buildSlice (k := 105) (es := [a0, b0].map eBig) tySl170 rfl rfl (uni_map fun _ => rfl) rfl (by decide) (by decide) rfl) ?_))
 obtain ⟨x_1, e1, h⟩ := bnd h
 refine Oc (op_callB (w_good_spec e1) goes124 rfl CP.flat_bool) (OpsL.keepS ⟨[(2, _), (3, _), (4, _), (5, _), (18, B x_1)], [(101, _), (102, _), (103, _), (104, _)]⟩ rfl (Oc (op_not rfl) (Oc om ?_)))
 refine CgF (!(!x_1)) [] (fun g2 => trivial) (fun g2 => lp tyAgg25) ?_
 obtain ⟨x_2, e4, h⟩ := bnd h
 refine CgF (!(!x_1)) [21] (fun g3 => ⟨g3, trivial⟩) (fun g3 => op_call0 (w_Sign_spec (gc e4 g3)) goes90 rfl rfl) (CgF (!(!x_1)) [22] (fun g5 => ⟨g5, trivial⟩) (fun g5 => op_eql rfl rfl) (Oc (op_pick_or (fun e => by rw [e]; rfl) rfl rfl rfl rfl) (OpsL.nilS ⟨[(2, _), (3, _), (4, _), (5, _), (24, B ((!x_1) || (decide (x_2 = 0))))], [(101, _), (102, _), (103, _), (104, _)]⟩ rfl (Tri.ite h rfl (fun _ h => ?_) (fun _ h => ?_)))))
 ·refine Tri.seq (Tri.regionL ?_)
  obtain ⟨x_3, e6, h⟩ := bnd h
  refine Oc (op_call0 (w_Bad_spec e6) goes136 rfl rfl) ?_
  obtain ⟨x_4, e7, h⟩ := bnd h
  refine Oc (op_call0 (w_Bad_spec e7) goes136 rfl rfl) (Oc (op_store_p tyAgg25 rfl rfl rfl rfl (Nat.le_of_ble_eq_true rfl) rfl) (Oc (op_store_p tyAgg25 rfl rfl rfl rfl (Nat.le_of_ble_eq_true rfl) rfl) ?_))
  refine OpsL.nilS ⟨[(4, _), (5, _)], [(103, .box 25 (eBig x_3)), (104, .box 25 (eBig x_4))]⟩ rfl (Tri.ret (Fin.then_ret ?_))
  obtain rfl := Option.some.inj h
  refine Fin.keepS ⟨[(4, _), (5, _)], [(103, _), (104, _)]⟩ rfl (Fin.result' [.agg (eBig x_3), .agg (eBig x_4)] (.inl rfl) rfl (.cons (.agg tyAgg25 rfl rfl rfl rfl) (.cons (.agg tyAgg25 rfl rfl rfl rfl) .nil)) ⟨rfl, rfl⟩)
 ·refine Tri.skip (Fin.keepS ⟨[(2, _), (3, _), (4, _), (5, _)], [(101, _), (102, _), (103, _), (104, _)]⟩ rfl (Fin.then ?_))
  obtain ⟨v8, h9, h⟩ := bnd h
  refine Tri.seqJ (v := v8) (fun (_ : Unit) => ⟨[(2, Pt 101 0), (3, Pt 102 0), (4, Pt 103 0), (5, Pt 104 0)], [(101, .box 25 (eBig a0)), (102, .box 25 (eBig b0)), (103, .box 25 zBig), (104, .box 25 zBig)]⟩) (fun z => .inl z) ?_ ?_
  ·refine Tri.seq (Tri.regionL ?_)
   refine Oc (lp tyAgg25) ?_
   obtain ⟨⟨x_5, x_6⟩, e10, h9⟩ := bnd h9
   refine Oc (op_call0 (w_Small_spec e10) goes181 rfl rfl) (Oc om (Oc (op_extract rfl rfl) (Oc (op_extract rfl rfl) (Oc oa (Oc oa ?_)))))
   refine OpsL.nilS ⟨[(2, _), (3, _), (4, _), (5, _), (6, I x_5), (7, B x_6)], [(101, _), (102, _), (103, _), (104, _)]⟩ rfl (Tri.seq (Tri.regionL ?_))
   refine Oc om (Oc om ?_)
   refine CgT x_6 [] (fun g11 => trivial) (fun g11 => om) (CgT x_6 [34] (fun g12 => by exact ⟨g12, trivial⟩) (fun g12 => op_neq rfl rfl) (Oc (op_pick_and (fun e => e) rfl rfl rfl rfl) (OpsL.nilS ⟨[(2, _), (3, _), (4, _), (5, _), (6, _), (36, B (x_6 && (decide (x_5 ≠ (-9223372036854775808)))))], [(101, _), (102, _), (103, _), (104, _)]⟩ rfl (Tri.ite h9 rfl (fun _ h9 => ?_) (fun _ h9 => ?_)))))
   ·refine Tri.seq (Tri.regionL ?_)
    refine Oc (lp tyAgg25) ?_
    obtain ⟨⟨x_7, x_8⟩, e13, h9⟩ := bnd h9
    refine Oc (op_call0 (w_Small_spec e13) goes181 rfl rfl) (Oc om (Oc (op_extract rfl rfl) (Oc (op_extract rfl rfl) (Oc oa (Oc oa ?_)))))
    refine OpsL.nilS ⟨[(2, _), (3, _), (4, _), (5, _), (6, _), (8, I x_7), (9, B x_8)], [(101, _), (102, _), (103, _), (104, _)]⟩ rfl (Tri.seq (Tri.regionL ?_))
    refine Oc om (Oc om ?_)
    refine CgT x_8 [] (fun g14 => trivial) (fun g14 => om) (CgT x_8 [44] (fun g15 => by exact ⟨g15, trivial⟩) (fun g15 => op_neq rfl rfl) (Oc (op_pick_and (fun e => e) rfl rfl rfl rfl) (OpsL.nilS ⟨[(2, _), (3, _), (4, _), (5, _), (6, _), (8, _), (46, B (x_8 && (decide (x_7 ≠ (-9223372036854775808)))))], [(101, _), (102, _), (103, _), (104, _)]⟩ rfl (Tri.ite h9 rfl (fun _ h9 => ?_) (fun _ h9 => ?_)))))
    ·refine Tri.seq (Tri.keepS ⟨[(4, _), (5, _), (6, _), (8, _)], [(103, _), (104, _)]⟩ rfl ?_)
     obtain ⟨x_9, e16, h9⟩ := bnd h9
     obtain ⟨x_10, e17, h9⟩ := bnd h9
     refine Tri.regionY mixed 8 [I x_5, I x_7, I x_9, I x_5, I x_7, I x_10, I x_9, I x_10] [4, 5, 8, 10, 11] [103, 104] (s' := ⟨[(4, _), (5, _), (8, _), (10, I x_9), (11, I x_10)], [(103, _), (104, _)]⟩) rfl ⟨fun _ => .p om, fun _ => .p om, fun _ => .p (op_quo2 e16 rfl rfl), fun _ => .p om, fun _ => .p om, fun _ => .p (op_rem2 e17 rfl rfl), fun _ => .p oa, fun _ => .p oa, trivial⟩ rfl rfl ?_
     obtain ⟨v18, h19, h9⟩ := bnd h9
     refine Tri.seqJ (v := v18) (un2 fun (q_11 : Int) (r_12 : Int) => ⟨[(4, Pt 103 0), (5, Pt 104 0), (10, I q_11), (11, I r_12)], [(103, .box 25 zBig), (104, .box 25 zBig)]⟩) (fun z => z) ?_ ?_
     ·refine Tri.seq (Tri.regionL ?_)
      refine Oc om (Oc (op_neq rfl rfl) (Oc om ?_))
      refine CgT (decide (x_10 ≠ 0)) [] (fun g20 => trivial) (fun g20 => om) (CgT (decide (x_10 ≠ 0)) [56] (fun g21 => by exact ⟨g21, trivial⟩) (fun g21 => op_lss rfl rfl) (CgT (decide (x_10 ≠ 0)) [] (fun g22 => by exact trivial) (fun g22 => om) (CgT (decide (x_10 ≠ 0)) [58] (fun g23 => by exact ⟨g23, trivial⟩) (fun g23 => op_lss rfl rfl) (CgT (decide (x_10 ≠ 0)) [57, 59] (fun g24 => by exact ⟨g24, g24, trivial⟩) (fun g24 => op_neq_bool und4 rfl rfl) (OpsL.consB h19 rfl (op_pick_and (fun e => e) rfl rfl rfl rfl) (fun x_13 h19 => ?_))))))
      refine OpsL.nilS ⟨[(4, _), (5, _), (8, _), (10, _), (11, _), (61, B x_13)], [(103, _), (104, _)]⟩ rfl (Tri.ite h19 rfl (fun _ h19 => ?_) (fun _ h19 => ?_))
      ·refine Tri.regionL (Oc om (Oc (op_sub rfl rfl) (Oc om (Oc om (Oc (op_add rfl rfl) (Oc oa ?_))))))
       refine Oc oa (OpsL.nil ?_)
       exact Fin.join [4, 5, 10, 11] [103, 104] (IntKind.i64.wrap (x_9 - 1), IntKind.i64.wrap (x_10 + x_7)) (Option.some.inj h19) rfl
      ·refine Tri.skip ?_
       exact Fin.join [4, 5, 10, 11] [103, 104] (x_9, x_10) (Option.some.inj h19) rfl
     ·rintro ⟨q_11, r_12⟩ hv
      subst v18
      refine Tri.seq (Tri.regionL ?_)
      refine Oc om ?_
      obtain ⟨x_14, e25, h9⟩ := bnd h9
      refine Oc (op_call0 (w_Of_spec e25) goes74 rfl rfl) (Oc om ?_)
      refine OpsL.keepS ⟨[(4, _), (5, _), (68, .b (.agg (eBig x_14))), (69, I r_12)], [(103, _), (104, _)]⟩ rfl ?_
      obtain ⟨x_15, e26, h9⟩ := bnd h9
      refine Oc (op_call0 (w_Of_spec e26) goes74 rfl rfl) (Oc (op_store_p tyAgg25 rfl rfl rfl rfl (Nat.le_of_ble_eq_true rfl) rfl) (Oc (op_store_p tyAgg25 rfl rfl rfl rfl (Nat.le_of_ble_eq_true rfl) rfl) ?_))
      refine OpsL.nilS ⟨[(4, _), (5, _)], [(103, .box 25 (eBig x_14)), (104, .box 25 (eBig x_15))]⟩ rfl (Tri.ret ?_)
      obtain rfl := Option.some.inj h9
      refine Fin.then_ret ?_
      obtain rfl := Option.some.inj h
      refine Fin.keepS ⟨[(4, _), (5, _)], [(103, _), (104, _)]⟩ rfl (Fin.result' [.agg (eBig x_14), .agg (eBig x_15)] (.inl rfl) rfl (.cons (.agg tyAgg25 rfl rfl rfl rfl) (.cons (.agg tyAgg25 rfl rfl rfl rfl) .nil)) ⟨rfl, rfl⟩)
    ·refine Tri.skip ?_
     exact Fin.join [2, 3, 4, 5] [101, 102, 103, 104] () (Option.some.inj h9) rfl
   ·refine Tri.skip ?_
    exact Fin.join [2, 3, 4, 5] [101, 102, 103, 104] () (Option.some.inj h9) rfl
  ·rintro _ hv
   subst v8
   refine Tri.seq (Tri.regionL ?_)
   refine Oc (op_field_p tyFld25_2 rfl rfl) (Oc (lp tyAgg23) (Oc (op_field_p tyFld25_2 rfl rfl) (Oc (lp tyAgg23) ?_)))
   obtain ⟨⟨x_16, x_17⟩, e27, h⟩ := bnd h
   refine Oc (op_call0 (w_quotient_spec e27) goes138 rfl rfl) (OpsL.keepS ⟨[(2, _), (3, _), (4, _), (5, _), (76, .tup [.agg (eW x_16), .agg (eW x_17)])], [(101, _), (102, _), (103, _), (104, _)]⟩ rfl (Oc om (Oc (op_extract rfl rfl) (Oc (op_extract rfl rfl) (Oc (op_alloc (k := 106) tyZero23 rfl) (Oc (op_alloc (k := 107) tyZero23 rfl) (Oc (op_store_p tyAgg23 rfl rfl rfl rfl (Nat.le_of_ble_eq_true rfl) rfl) ?_)))))))
   refine Oc (op_store_p tyAgg23 rfl rfl rfl rfl (Nat.le_of_ble_eq_true rfl) rfl) (OpsL.nilS ⟨[(2, _), (3, _), (4, _), (5, _), (12, Pt 106 0), (13, Pt 107 0)], [(101, _), (102, _), (103, _), (104, _), (106, .box 23 (eW x_16)), (107, .box 23 (eW x_17))]⟩ rfl (Tri.seq (Tri.regionL ?_)))
   refine Oc (op_field_p tyFld25_1 rfl rfl) (Oc (op_load_p1 tyOne4 rfl rfl rfl) (Oc (op_field_p tyFld25_1 rfl rfl) (Oc (op_load_p1 tyOne4 rfl rfl rfl) (Oc (op_neq_bool und4 rfl rfl) (Oc (lp tyAgg23) ?_)))))
   refine OpsL.keepS ⟨[(2, _), (3, _), (4, _), (5, _), (13, _), (83, B (a0.Neg != b0.Neg)), (84, .b (.agg (eW x_16)))], [(101, _), (102, _), (103, _), (104, _), (107, _)]⟩ rfl ?_
   obtain ⟨x_18, e28, h⟩ := bnd h
   refine Oc (op_call0 (w_signed_spec e28) goes135 rfl rfl) (Oc (op_alloc (k := 108) tyZero25 rfl) (Oc (op_store_p tyAgg25 rfl rfl rfl rfl (Nat.le_of_ble_eq_true rfl) rfl) ?_))
   refine OpsL.nilS ⟨[(2, _), (3, _), (4, _), (5, _), (13, _), (14, Pt 108 0)], [(101, _), (102, _), (103, _), (104, _), (107, _), (108, .box 25 (eBig x_18))]⟩ rfl ?_
   obtain ⟨v29, h30, h⟩ := bnd h
   refine Tri.seqJ (v := v29) (un2 fun (r_19 : A16) (q_20 : Big) => ⟨[(3, Pt 102 0), (4, Pt 103 0), (5, Pt 104 0), (13, Pt 107 0), (14, Pt 108 0)], [(102, .box 25 (eBig b0)), (103, .box 25 zBig), (104, .box 25 zBig), (107, .box 23 (eW r_19)), (108, .box 25 (eBig q_20))]⟩) (fun z => z) ?_ ?_
   ·refine Tri.seq (Tri.regionL ?_)
    refine Oc (lp tyAgg23) (Oc (op_buildA tyBuild23 rfl rfl) (Oc (op_neq_agg (eqAgg23 x_17 A16.zero) rfl rfl neg_dec) (Oc om ?_)))
    refine CgT (decide (x_17 ≠ A16.zero)) [] (fun g31 => trivial) (fun g31 => op_field_p tyFld25_1 rfl rfl) (CgT (decide (x_17 ≠ A16.zero)) [90] (fun g32 => ⟨g32, trivial⟩) (fun g32 => op_load_p1 tyOne4 rfl rfl rfl) (CgT (decide (x_17 ≠ A16.zero)) [] (fun g33 => trivial) (fun g33 => op_field_p tyFld25_1 rfl rfl) (OpsL.keepS ⟨[(3, _), (4, _), (5, _), (13, _), (14, _), (89, B (decide (x_17 ≠ A16.zero))), (91, .opt (decide (x_17 ≠ A16.zero)) (.one (.bool a0.Neg))), (92, .opt (decide (x_17 ≠ A16.zero)) (.ptr 102 1))], [(102, _), (103, _), (104, _), (107, _), (108, _)]⟩ rfl (CgT (decide (x_17 ≠ A16.zero)) [92] (fun g34 => ⟨g34, trivial⟩) (fun g34 => op_load_p1 tyOne4 rfl rfl rfl) (CgT (decide (x_17 ≠ A16.zero)) [91, 93] (fun g35 => ⟨g35, g35, trivial⟩) (fun g35 => op_neq_bool und4 rfl rfl) ?_)))))
    refine Oc (op_pick_and (fun e => e) rfl rfl rfl rfl) (OpsL.nilS ⟨[(3, _), (4, _), (5, _), (13, _), (14, _), (95, B ((decide (x_17 ≠ A16.zero)) && (a0.Neg != b0.Neg)))], [(102, _), (103, _), (104, _), (107, _), (108, _)]⟩ rfl (Tri.ite h30 rfl (fun _ h30 => ?_) (fun _ h30 => ?_)))
    ·refine Tri.keepS ⟨[(3, _), (4, _), (5, _), (13, _), (14, _)], [(102, _), (103, _), (104, _), (107, _), (108, _)]⟩ rfl ?_
     obtain ⟨x_21, e36, h30⟩ := bnd h30
     obtain ⟨x_22, e37, h30⟩ := bnd h30
     obtain ⟨x_23, e38, h30⟩ := bnd h30
     refine Tri.regionYF mixed 7 [.b (.agg (eBig x_18)), .b (.agg (eBig x_21)), .b (.agg (eBig x_22)), Pt 102 2, .b (.agg (eW b0.W)), .b (.agg (eW x_17)), .b (.agg (eW x_23))] [3, 4, 5, 13, 14] [102, 103, 104, 107, 108] (s' := ⟨[(3, _), (4, _), (5, _), (13, _), (14, _)], [(102, _), (103, _), (104, _), (107, .box 23 (eW x_23)), (108, .box 25 (eBig x_22))]⟩) rfl ⟨fun _ => .p (lp tyAgg25), fun _ => .p (op_call0 (w_Of_spec e36) goes74 rfl rfl), fun _ => .p (op_call0 (w_Sub_spec e37) goes182 rfl rfl), fun _ => .p (op_field_p tyFld25_2 rfl rfl), fun _ => .p (lp tyAgg23), fun _ => .p (lp tyAgg23), fun _ => .p (op_call0 (w_minus_spec e38) goes143 rfl rfl), trivial⟩ ⟨_, by exact .p (op_store_p tyAgg25 rfl rfl rfl rfl (Nat.le_of_ble_eq_true rfl) rfl), ⟨_, by exact .p (op_store_p tyAgg23 rfl rfl rfl rfl (Nat.le_of_ble_eq_true rfl) rfl), rfl⟩⟩ rfl ?_
     exact Fin.join [3, 4, 5, 13, 14] [102, 103, 104, 107, 108] (x_23, x_22) (Option.some.inj h30) rfl
    ·refine Tri.skip ?_
     exact Fin.join [3, 4, 5, 13, 14] [102, 103, 104, 107, 108] (x_17, x_18) (Option.some.inj h30) rfl
   ·rintro ⟨r_19, q_20⟩ hv
    subst v29
    refine Tri.seq (Tri.keepS ⟨[(3, _), (4, _), (5, _), (13, _), (14, _)], [(102, _), (103, _), (104, _), (107, _), (108, _)]⟩ rfl ?_)
    obtain ⟨x_24, e39, h⟩ := bnd h
    refine Tri.regionY mixed 5 [.b (.agg (eBig q_20)), Pt 102 1, B b0.Neg, .b (.agg (eW r_19)), .b (.agg (eBig x_24))] [4, 5] [103, 104] (s' := ⟨[(4, _), (5, _)], [(103, .box 25 (eBig q_20)), (104, .box 25 (eBig x_24))]⟩) rfl ⟨fun _ => .p (lp tyAgg25), fun _ => .p (op_field_p tyFld25_1 rfl rfl), fun _ => .p (op_load_p1 tyOne4 rfl rfl rfl), fun _ => .p (lp tyAgg23), fun _ => .p (op_call0 (w_signed_spec e39) goes135 rfl rfl), trivial⟩ ⟨_, by exact .p (op_store_p tyAgg25 rfl rfl rfl rfl (Nat.le_of_ble_eq_true rfl) rfl), ⟨_, by exact .p (op_store_p tyAgg25 rfl rfl rfl rfl (Nat.le_of_ble_eq_true rfl) rfl), rfl⟩⟩ rfl (Tri.ret ?_)
    obtain rfl := Option.some.inj h
    refine Fin.keepS ⟨[(4, _), (5, _)], [(103, _), (104, _)]⟩ rfl (Fin.result' [.agg (eBig q_20), .agg (eBig x_24)] (.inl rfl) rfl (.cons (.agg tyAgg25 rfl rfl rfl rfl) (.cons (.agg tyAgg25 rfl rfl rfl rfl) .nil)) ⟨rfl, rfl⟩)
def w_Quo_S (F : Nat) (a0 : Big) (b0 : Big) : Option Big :=
 Option.bind (w_divided_S F a0 b0) (un2 fun x_1 x_2 => some x_1)
theorem w_Quo_spec {F : Nat} {a0 : Big} {b0 : Big} {r : Big} (h : w_Quo_S F a0 b0 = some r) : Meets Tryz.prog (tabs mx) 78 [] [.agg (eBig a0), .agg (eBig b0)] (Is [] (.b (.agg (eBig r)))) := by
 unfold w_Quo_S at h
 refine Meets.intro 14 Tryz.func78 Tryz.ntmps78 rfl (by simp) fun E => ?_
 show Tri _ E ⟨14, [], []⟩ _ ⟨[(0, .b (.agg (eBig a0))), (1, .b (.agg (eBig b0)))], []⟩ _
 refine Tri.seq (Tri.regionL ?_)
 refine Oc (op_box (k := 101) rfl rfl) (Oc (op_box (k := 102) rfl rfl) (Oc (op_alloc (k := 103) tyZero25 rfl) ?_))
 refine OpsL.nilS ⟨[(2, Pt 101 0), (3, Pt 102 0), (4, Pt 103 0)], [(101, .box 25 (eBig a0)), (102, .box 25 (eBig b0)), (103, .box 25 zBig)]⟩ rfl (Tri.seq (Tri.regionL ?_))
 refine Oc (lp tyAgg25) (Oc (lp tyAgg25) ?_)
 obtain ⟨⟨x_1, x_2⟩, e1, h⟩ := bnd h
 refine Oc (op_call0 (w_divided_spec e1) goes140 rfl rfl) (Oc om (Oc (op_extract rfl rfl) ?_))
 refine OpsL.keepS ⟨[(4, _), (7, .tup [.agg (eBig x_1), .agg (eBig x_2)]), (11, .b (.agg (eBig x_1)))], [(103, _)]⟩ rfl (Oc (op_extract rfl rfl) (Oc (op_alloc (k := 104) tyZero25 rfl) (Oc (op_alloc (k := 105) tyZero25 rfl) (Oc (op_store_p tyAgg25 rfl rfl rfl rfl (Nat.le_of_ble_eq_true rfl) rfl) (Oc (op_store_p tyAgg25 rfl rfl rfl rfl (Nat.le_of_ble_eq_true rfl) rfl) ?_)))))
 refine OpsL.nilS ⟨[(4, _), (5, Pt 104 0)], [(103, _), (104, .box 25 (eBig x_1))]⟩ rfl (Tri.seq (Tri.regionL ?_))
 refine Oc (lp tyAgg25) (Oc (op_store_p tyAgg25 rfl rfl rfl rfl (Nat.le_of_ble_eq_true rfl) rfl) ?_)
 refine OpsL.nilS ⟨[(4, _)], [(103, .box 25 (eBig x_1))]⟩ rfl (Tri.ret ?_)
 obtain rfl := Option.some.inj h
 refine Fin.keepS ⟨[(4, _)], [(103, _)]⟩ rfl (Fin.result' [.agg (eBig x_1)] (.inl rfl) rfl (.cons (.agg tyAgg25 rfl rfl rfl rfl) .nil) ⟨rfl, rfl⟩)
def w_Mul_S (F : Nat) (a0 : Big) (b0 : Big) : Option Big :=
 (w_good_S F [a0, b0]).bind fun x_1 => if (!x_1) = true then ((w_Bad_S F).bind fun x_2 => some x_2) else ((w_size_S F a0.W).bind fun x_3 => (w_size_S F b0.W).bind fun x_4 => Option.bind (iter F (un2 fun out_6 x_7 => if (decide (x_7 < x_3)) = true then (Option.bind (Option.bind (iter F (un3 fun out_12 carry_13 x_14 => if (decide (x_14 < x_4)) = true then ((idx? a0.W.l x_7).bind fun x_17 => (idx? b0.W.l x_14).bind fun x_18 => (idx? out_12.l (IntKind.i64.wrap (x_7 + x_14))).bind fun x_19 => letN (IntKind.u64.wrap (carry_13 + (IntKind.u64.wrap ((IntKind.u64.wrap ((IntKind.u64.wrap x_17) * (IntKind.u64.wrap x_18))) + (IntKind.u64.wrap x_19))))) fun x_20 => (idx? out_12.l (IntKind.i64.wrap (x_7 + x_14))).bind fun x_21 => letN (IntKind.u64.wrap (carry_13 + (IntKind.u64.wrap ((IntKind.u64.wrap ((IntKind.u64.wrap x_17) * (IntKind.u64.wrap x_18))) + (IntKind.u64.wrap x_19))))) fun x_22 => some (.inl (out_12.set (IntKind.i64.wrap (x_7 + x_14)) (IntKind.u32.wrap x_20), x_22 / 4294967296, IntKind.i64.wrap (x_14 + 1)))) else (some (.inr (out_12, carry_13)))) (out_6, 0, 0)) (un2 fun out_10 carry_11 => (idx? out_10.l (IntKind.i64.wrap (x_7 + x_4))).bind fun x_23 => some (out_10.set (IntKind.i64.wrap (x_7 + x_4)) (IntKind.u32.wrap carry_11)))) (fun out_9 => some (.inl (out_9, IntKind.i64.wrap (x_7 + 1))))) else (some (.inr out_6))) (A32.zero, 0)) (fun out_5 => letN (⟨out_5.a16, out_5.a17, out_5.a18, out_5.a19, out_5.a20, out_5.a21, out_5.a22, out_5.a23, out_5.a24, out_5.a25, out_5.a26, out_5.a27, out_5.a28, out_5.a29, out_5.a30, out_5.a31⟩ : A16) fun x_24 => if (decide (x_24 ≠ A16.zero)) = true then ((w_Bad_S F).bind fun x_25 => some x_25) else ((w_signed_S F (a0.Neg != b0.Neg) (⟨out_5.a0, out_5.a1, out_5.a2, out_5.a3, out_5.a4, out_5.a5, out_5.a6, out_5.a7, out_5.a8, out_5.a9, out_5.a10, out_5.a11, out_5.a12, out_5.a13, out_5.a14, out_5.a15⟩ : A16)).bind fun x_26 => some x_26)))
theorem w_Mul_spec {F : Nat} {a0 : Big} {b0 : Big} {r : Big} (h : w_Mul_S F a0 b0 = some r) : Meets Tryz.prog (tabs mx) 80 [] [.agg (eBig a0), .agg (eBig b0)] (Is [] (.b (.agg (eBig r)))) := by
 unfold w_Mul_S at h
 refine Meets.intro 82 Tryz.func80 Tryz.ntmps80 rfl (by simp) fun E => ?_
 show Tri _ E ⟨82, [], []⟩ _ ⟨[(0, .b (.agg (eBig a0))), (1, .b (.agg (eBig b0)))], []⟩ _
 refine Tri.seq (Tri.regionL ?_)
 refine Oc (op_box (k := 101) rfl rfl) (Oc (op_box (k := 102) rfl rfl) (Oc (op_alloc (k := 103) tyZero25 rfl) ?_))
 refine OpsL.nilS ⟨[(2, Pt 101 0), (3, Pt 102 0), (4, Pt 103 0)], [(101, .box 25 (eBig a0)), (102, .box 25 (eBig b0)), (103, .box 25 zBig)]⟩ rfl (Tri.seq (Tri.seq (Tri.regionL ?_)))
 refine Oc (lp tyAgg25) (Oc (lp tyAgg25) (Oc (op_buildSlice (k := 104) (es := [a0, b0].map eBig) tySl170 rfl rfl (uni_map fun _ => rfl) rfl (by decide) (by decide) rfl) ?_))
 obtain ⟨x_1, e1, h⟩ := bnd h
 refine Oc (op_callB (w_good_spec e1) goes124 rfl CP.flat_bool) (Oc (op_not rfl) ?_)
 refine OpsL.nilS ⟨[(2, _), (3, _), (4, _), (15, B (!x_1))], [(101, _), (102, _), (103, _)]⟩ rfl (Tri.ite h rfl (fun _ h => ?_) (fun _ h => ?_))
 ·refine Tri.seq (Tri.regionL ?_)
  obtain ⟨x_2, e2, h⟩ := bnd h
  refine Oc (op_call0 (w_Bad_spec e2) goes136 rfl rfl) (Oc (op_store_p tyAgg25 rfl rfl rfl rfl (Nat.le_of_ble_eq_true rfl) rfl) ?_)
  refine OpsL.nilS ⟨[(4, _)], [(103, .box 25 (eBig x_2))]⟩ rfl (Tri.ret (Fin.then_ret ?_))
  obtain rfl := Option.some.inj h
  refine Fin.keepS ⟨[(4, _)], [(103, _)]⟩ rfl (Fin.result' [.agg (eBig x_2)] (.inl rfl) rfl (.cons (.agg tyAgg25 rfl rfl rfl rfl) .nil) ⟨rfl, rfl⟩)
 ·refine Tri.skip (Fin.keepS ⟨[(2, _), (3, _), (4, _)], [(101, _), (102, _), (103, _)]⟩ rfl (Fin.then (Tri.seq (Tri.regionL ?_))))
  refine Oc (op_alloc (k := 105) tyZero157 rfl) (OpsL.nilS ⟨[(2, _), (3, _), (4, _), (5, Pt 105 0)], [(101, _), (102, _), (103, _), (105, .box 157 ((eA32 .u32) A32.zero))]⟩ rfl (Tri.seq ?_))
  obtain ⟨x_3, e3, h⟩ := bnd h
  obtain ⟨x_4, e4, h⟩ := bnd h
  refine Tri.regionY mixed 8 [Pt 101 2, .b (.agg (eW a0.W)), I x_3, Pt 102 2, .b (.agg (eW b0.W)), I x_4, I x_3, I x_4] [2, 3, 4, 5, 6, 7] [101, 102, 103, 105] (s' := ⟨[(2, _), (3, _), (4, _), (5, _), (6, I x_3), (7, I x_4)], [(101, _), (102, _), (103, _), (105, _)]⟩) rfl ⟨fun _ => .p (op_field_p tyFld25_2 rfl rfl), fun _ => .p (lp tyAgg23), fun _ => .p (op_call0 (w_size_spec e3) goes137 rfl rfl), fun _ => .p (op_field_p tyFld25_2 rfl rfl), fun _ => .p (lp tyAgg23), fun _ => .p (op_call0 (w_size_spec e4) goes137 rfl rfl), fun _ => .p oa, fun _ => .p oa, trivial⟩ rfl rfl ?_
  obtain ⟨v5, h6, h⟩ := bnd h
  refine Tri.seqJ (v := v5) (fun (out_5 : A32) => ⟨[(2, Pt 101 0), (3, Pt 102 0), (4, Pt 103 0), (5, Pt 105 0)], [(101, .box 25 (eBig a0)), (102, .box 25 (eBig b0)), (103, .box 25 zBig), (105, .box 157 ((eA32 .u32) out_5))]⟩) (fun z => z) ?_ ?_
  ·refine Tri.seq (Tri.regionL ?_)
   refine Oc om (Oc om ?_)
   refine OpsL.nilS ⟨[(2, _), (3, _), (4, _), (5, _), (7, _), (23, I x_3), (24, I 0)], [(101, _), (102, _), (103, _), (105, _)]⟩ rfl (Tri.block (Tri.loopJ h6 (un2 fun (out_6 : A32) (x_7 : Int) => ⟨[(2, Pt 101 0), (3, Pt 102 0), (4, Pt 103 0), (5, Pt 105 0), (7, I x_4), (23, I x_3), (24, I x_7)], [(101, .box 25 (eBig a0)), (102, .box 25 (eBig b0)), (103, .box 25 zBig), (105, .box 157 ((eA32 .u32) out_6))]⟩) [2, 3, 4, 5, 7, 23, 24] [101, 102, 103, 105] rfl ?_))
   rintro ⟨out_6, x_7⟩ o7 h8 hy9
   refine Tri.seq (Tri.regionL ?_)
   refine Oc (op_lss rfl rfl) (OpsL.nilS ⟨[(2, _), (3, _), (4, _), (5, _), (7, _), (23, _), (24, _), (25, B (decide (x_7 < x_3)))], [(101, _), (102, _), (103, _), (105, _)]⟩ rfl (Tri.seq (Tri.ite h8 rfl (fun _ h8 => ?_) (fun _ h8 => ?_))))
   ·refine Tri.skip (Fin.keepS ⟨[(2, _), (3, _), (4, _), (5, _), (7, _), (23, _), (24, _)], [(101, _), (102, _), (103, _), (105, _)]⟩ rfl (Fin.then ?_))
    obtain ⟨v10, h11, h8⟩ := bnd h8
    refine Tri.seqJ (v := v10) (fun (out_9 : A32) => ⟨[(2, Pt 101 0), (3, Pt 102 0), (4, Pt 103 0), (5, Pt 105 0), (7, I x_4), (23, I x_3), (24, I x_7)], [(101, .box 25 (eBig a0)), (102, .box 25 (eBig b0)), (103, .box 25 zBig), (105, .box 157 ((eA32 .u32) out_9))]⟩) (fun z => z) ?_ ?_
    ·refine Tri.block (Tri.seq (Tri.regionL ?_))
     refine Oc om (Oc oa ?_)
     refine OpsL.nilS ⟨[(2, _), (3, _), (4, _), (5, _), (7, _), (8, I x_7), (23, _), (24, _)], [(101, _), (102, _), (103, _), (105, _)]⟩ rfl (Tri.seq (Tri.regionL ?_))
     refine Oc oa (OpsL.nilS ⟨[(2, _), (3, _), (4, _), (5, _), (7, _), (8, _), (9, .b (.one (.int .u64 0))), (23, _), (24, _)], [(101, _), (102, _), (103, _), (105, _)]⟩ rfl ?_)
     obtain ⟨v12, h13, h11⟩ := bnd h11
     refine Tri.seqJ (v := v12) (un2 fun (out_10 : A32) (carry_11 : Int) => ⟨[(2, Pt 101 0), (3, Pt 102 0), (4, Pt 103 0), (5, Pt 105 0), (7, I x_4), (8, I x_7), (9, .b (.one (.int .u64 carry_11))), (23, I x_3), (24, I x_7)], [(101, .box 25 (eBig a0)), (102, .box 25 (eBig b0)), (103, .box 25 zBig), (105, .box 157 ((eA32 .u32) out_10))]⟩) (fun z => z) ?_ ?_
     ·refine Tri.seq (Tri.regionL ?_)
      refine Oc om (Oc om ?_)
      refine OpsL.nilS ⟨[(2, _), (3, _), (4, _), (5, _), (7, _), (8, _), (9, _), (23, _), (24, _), (27, I x_4), (28, I 0)], [(101, _), (102, _), (103, _), (105, _)]⟩ rfl (Tri.block (Tri.loopJ h13 (un3 fun (out_12 : A32) (carry_13 : Int) (x_14 : Int) => ⟨[(2, Pt 101 0), (3, Pt 102 0), (4, Pt 103 0), (5, Pt 105 0), (7, I x_4), (8, I x_7), (9, .b (.one (.int .u64 carry_13))), (23, I x_3), (24, I x_7), (27, I x_4), (28, I x_14)], [(101, .box 25 (eBig a0)), (102, .box 25 (eBig b0)), (103, .box 25 zBig), (105, .box 157 ((eA32 .u32) out_12))]⟩) [2, 3, 4, 5, 7, 8, 9, 23, 24, 27, 28] [101, 102, 103, 105] rfl ?_))
      rintro ⟨out_12, carry_13, x_14⟩ o14 h15 hy16
      refine Tri.seq (Tri.regionL ?_)
      refine Oc (op_lss rfl rfl) (OpsL.nilS ⟨[(2, _), (3, _), (4, _), (5, _), (7, _), (8, _), (9, _), (23, _), (24, _), (27, _), (28, _), (29, B (decide (x_14 < x_4)))], [(101, _), (102, _), (103, _), (105, _)]⟩ rfl (Tri.seq (Tri.ite h15 rfl (fun _ h15 => ?_) (fun _ h15 => ?_))))
      ·refine Tri.skip (Fin.keepS ⟨[(2, _), (3, _), (4, _), (5, _), (7, _), (8, _), (9, _), (23, _), (24, _), (27, _), (28, _)], [(101, _), (102, _), (103, _), (105, _)]⟩ rfl (Fin.then (Tri.seq (Tri.block (Tri.seq (Tri.regionL ?_))))))
       refine Oc om (Oc oa ?_)
       refine OpsL.nilS ⟨[(2, _), (3, _), (4, _), (5, _), (7, _), (8, _), (9, _), (10, I x_14), (23, _), (24, _), (27, _), (28, _)], [(101, _), (102, _), (103, _), (105, _)]⟩ rfl (Tri.seq ?_)
       obtain ⟨x_17, e17, h15⟩ := bnd h15
       obtain ⟨x_18, e18, h15⟩ := bnd h15
       obtain ⟨x_19, e19, h15⟩ := bnd h15
       refine Tri.regionY mixed 20 [.b (.one (.int .u64 carry_13)), I x_7, Pt 101 2, .b (.ptr 101 (2 + (x_7 : Int).toNat * 1)), .b (.one (.int .u32 x_17)), .b (.one (.int .u64 (IntKind.u64.wrap x_17))), I x_14, Pt 102 2, .b (.ptr 102 (2 + (x_14 : Int).toNat * 1)), .b (.one (.int .u32 x_18)), .b (.one (.int .u64 (IntKind.u64.wrap x_18))), .b (.one (.int .u64 (IntKind.u64.wrap ((IntKind.u64.wrap x_17) * (IntKind.u64.wrap x_18))))), I x_7, I x_14, I (IntKind.i64.wrap (x_7 + x_14)), .b (.ptr 105 (0 + (IntKind.i64.wrap (x_7 + x_14) : Int).toNat * 1)), .b (.one (.int .u32 x_19)), .b (.one (.int .u64 (IntKind.u64.wrap x_19))), .b (.one (.int .u64 (IntKind.u64.wrap ((IntKind.u64.wrap ((IntKind.u64.wrap x_17) * (IntKind.u64.wrap x_18))) + (IntKind.u64.wrap x_19))))), .b (.one (.int .u64 (IntKind.u64.wrap (carry_13 + (IntKind.u64.wrap ((IntKind.u64.wrap ((IntKind.u64.wrap x_17) * (IntKind.u64.wrap x_18))) + (IntKind.u64.wrap x_19)))))))] [2, 3, 4, 5, 7, 8, 9, 10, 23, 24, 27, 28] [101, 102, 103, 105] (s' := ⟨[(2, _), (3, _), (4, _), (5, _), (7, _), (8, _), (9, .b (.one (.int .u64 (IntKind.u64.wrap (carry_13 + (IntKind.u64.wrap ((IntKind.u64.wrap ((IntKind.u64.wrap x_17) * (IntKind.u64.wrap x_18))) + (IntKind.u64.wrap x_19)))))))), (10, _), (23, _), (24, _), (27, _), (28, _)], [(101, _), (102, _), (103, _), (105, _)]⟩) rfl ⟨fun _ => .p om, fun _ => .p om, fun _ => .p (op_field_p tyFld25_2 rfl rfl), fun _ => .p (op_index_p tyArr23 (ix_lo e17) (ix_hi e17) rfl rfl rfl), fun _ => .p (op_load_p1 tyOne22 rfl rfl (arr_get (post := []) (k := .u32) [.bool a0.Bad, .bool a0.Neg] e17 rfl rfl rfl)), fun _ => .p (op_conv_wrap undi22 undi145 rfl), fun _ => .p om, fun _ => .p (op_field_p tyFld25_2 rfl rfl), fun _ => .p (op_index_p tyArr23 (ix_lo e18) (ix_hi e18) rfl rfl rfl), fun _ => .p (op_load_p1 tyOne22 rfl rfl (arr_get (post := []) (k := .u32) [.bool b0.Bad, .bool b0.Neg] e18 rfl rfl rfl)), fun _ => .p (op_conv_wrap undi22 undi145 rfl), fun _ => .p (op_mul rfl rfl), fun _ => .p om, fun _ => .p om, fun _ => .p (op_add rfl rfl), fun _ => .p (op_index_p tyArr157 (ix_lo e19) (ix_hi e19) rfl rfl rfl), fun _ => .p (op_load_p1 tyOne22 rfl rfl (arr_get (post := []) (k := .u32) [] e19 rfl rfl rfl)), fun _ => .p (op_conv_wrap undi22 undi145 rfl), fun _ => .p (op_add rfl rfl), fun _ => .p (op_add rfl rfl), trivial⟩ ⟨_, by exact .p oa, rfl⟩ rfl (Tri.seq (Tri.regionL ?_))
       refine Oc om (Oc om (Oc (op_add rfl rfl) ?_))
       refine OpsL.consI .u64 h15 rfl om (fun x_20 h15 => ?_)
       refine Oc (op_conv_wrap undi145 undi22 rfl) ?_
       obtain ⟨x_21, e20, h15⟩ := bnd h15
       refine Oc (op_index_p tyArr157 (ix_lo e20) (ix_hi e20) rfl rfl rfl) (Oc (op_store_p1 tyOne22 rfl rfl rfl (arr_lt (post := []) (k := .u32) [] e20 rfl rfl rfl) (arr_set (post := []) (k := .u32) [] e20 rfl rfl (A32.set_l out_12 (IntKind.i64.wrap (x_7 + x_14)) (IntKind.u32.wrap x_20)) rfl rfl)) ?_)
       refine OpsL.nilS ⟨[(2, _), (3, _), (4, _), (5, _), (7, _), (8, _), (9, _), (23, _), (24, _), (27, _), (28, _)], [(101, _), (102, _), (103, _), (105, .box 157 ((eA32 .u32) (out_12.set (IntKind.i64.wrap (x_7 + x_14)) (IntKind.u32.wrap x_20))))]⟩ rfl (Tri.regionL (OpsL.consI .u64 h15 rfl om (fun x_22 h15 => ?_)))
       refine Oc (op_shr2 (m := 32) (by decide) rfl rfl rfl) (Oc oa ?_)
       refine OpsL.nil (Fin.block_normal (Fin.keepS ⟨[(2, _), (3, _), (4, _), (5, _), (7, _), (8, _), (9, .b (.one (.int .u64 (x_22 / 4294967296)))), (23, _), (24, _), (27, _), (28, _)], [(101, _), (102, _), (103, _), (105, _)]⟩ rfl (Fin.then (Tri.regionL ?_))))
       refine Oc (op_add rfl rfl) (Oc om ?_)
       refine OpsL.nil ?_
       exact Fin.againJ [2, 3, 4, 5, 7, 8, 9, 23, 24, 27, 28] [101, 102, 103, 105] (out_12.set (IntKind.i64.wrap (x_7 + x_14)) (IntKind.u32.wrap x_20), x_22 / 4294967296, IntKind.i64.wrap (x_14 + 1)) (Option.some.inj h15) rfl
      ·refine Tri.exit (Fin.then_exit ?_)
       obtain rfl := hy16 _ (Option.some.inj h15).symm
       refine Fin.then_exit (Fin.block_exit ?_)
       exact Fin.join [2, 3, 4, 5, 7, 8, 9, 23, 24] [101, 102, 103, 105] (out_12, carry_13) rfl rfl
     ·rintro ⟨out_10, carry_11⟩ hv
      subst v12
      refine Tri.regionL (Oc om (Oc om (Oc (op_add rfl rfl) (Oc om (Oc (op_conv_wrap undi145 undi22 rfl) ?_)))))
      obtain ⟨x_23, e21, h11⟩ := bnd h11
      refine Oc (op_index_p tyArr157 (ix_lo e21) (ix_hi e21) rfl rfl rfl) (Oc (op_store_p1 tyOne22 rfl rfl rfl (arr_lt (post := []) (k := .u32) [] e21 rfl rfl rfl) (arr_set (post := []) (k := .u32) [] e21 rfl rfl (A32.set_l out_10 (IntKind.i64.wrap (x_7 + x_4)) (IntKind.u32.wrap carry_11)) rfl rfl)) ?_)
      refine OpsL.nil (Fin.block_normal ?_)
      exact Fin.join [2, 3, 4, 5, 7, 23, 24] [101, 102, 103, 105] (out_10.set (IntKind.i64.wrap (x_7 + x_4)) (IntKind.u32.wrap carry_11)) (Option.some.inj h11) rfl
    ·rintro out_9 hv
     subst v10
     refine Tri.regionL (Oc (op_add rfl rfl) (Oc om ?_))
     refine OpsL.nil ?_
     exact Fin.againJ [2, 3, 4, 5, 7, 23, 24] [101, 102, 103, 105] (out_9, IntKind.i64.wrap (x_7 + 1)) (Option.some.inj h8) rfl
   ·refine Tri.exit (Fin.then_exit ?_)
    obtain rfl := hy9 _ (Option.some.inj h8).symm
    refine Fin.then_exit (Fin.block_exit ?_)
    exact Fin.join [2, 3, 4, 5] [101, 102, 103, 105] out_6 rfl rfl
  ·rintro out_5 hv
   subst v5
   refine Tri.seq (Tri.seq (Tri.regionL ?_))
   refine Oc (op_slice_al (i := 16) tyArr157 (by decide) (by decide) rfl rfl) (Oc (op_toArr tyArr23 (by decide) rfl) ?_)
   refine OpsL.consA eW h rfl (lp tyAgg23) (fun x_24 h => ?_)
   refine Oc (op_buildA tyBuild23 rfl rfl) (Oc (op_neq_agg (eqAgg23 x_24 A16.zero) rfl rfl neg_dec) ?_)
   refine OpsL.nilS ⟨[(2, _), (3, _), (4, _), (5, _), (71, B (decide (x_24 ≠ A16.zero)))], [(101, _), (102, _), (103, _), (105, _)]⟩ rfl (Tri.ite h rfl (fun _ h => ?_) (fun _ h => ?_))
   ·refine Tri.seq (Tri.regionL ?_)
    obtain ⟨x_25, e22, h⟩ := bnd h
    refine Oc (op_call0 (w_Bad_spec e22) goes136 rfl rfl) (Oc (op_store_p tyAgg25 rfl rfl rfl rfl (Nat.le_of_ble_eq_true rfl) rfl) ?_)
    refine OpsL.nilS ⟨[(4, _)], [(103, .box 25 (eBig x_25))]⟩ rfl (Tri.ret (Fin.then_ret ?_))
    obtain rfl := Option.some.inj h
    refine Fin.keepS ⟨[(4, _)], [(103, _)]⟩ rfl (Fin.result' [.agg (eBig x_25)] (.inl rfl) rfl (.cons (.agg tyAgg25 rfl rfl rfl rfl) .nil) ⟨rfl, rfl⟩)
   ·refine Tri.skip (Fin.keepS ⟨[(2, _), (3, _), (4, _), (5, _)], [(101, _), (102, _), (103, _), (105, _)]⟩ rfl (Fin.then (Tri.seq ?_)))
    refine Tri.keepS ⟨[(2, _), (3, _), (4, _), (5, _)], [(101, _), (102, _), (103, _), (105, _)]⟩ rfl ?_
    obtain ⟨x_26, e23, h⟩ := bnd h
    refine Tri.regionY mixed 9 [Pt 101 1, B a0.Neg, Pt 102 1, B b0.Neg, B (a0.Neg != b0.Neg), .b (.psl 105 0 16 32), Pt 105 0, .b (.agg [.int .u32 out_5.a0, .int .u32 out_5.a1, .int .u32 out_5.a2, .int .u32 out_5.a3, .int .u32 out_5.a4, .int .u32 out_5.a5, .int .u32 out_5.a6, .int .u32 out_5.a7, .int .u32 out_5.a8, .int .u32 out_5.a9, .int .u32 out_5.a10, .int .u32 out_5.a11, .int .u32 out_5.a12, .int .u32 out_5.a13, .int .u32 out_5.a14, .int .u32 out_5.a15]), .b (.agg (eBig x_26))] [4] [103] (s' := ⟨[(4, _)], [(103, .box 25 (eBig x_26))]⟩) rfl ⟨fun _ => .p (op_field_p tyFld25_1 rfl rfl), fun _ => .p (op_load_p1 tyOne4 rfl rfl rfl), fun _ => .p (op_field_p tyFld25_1 rfl rfl), fun _ => .p (op_load_p1 tyOne4 rfl rfl rfl), fun _ => .p (op_neq_bool und4 rfl rfl), fun _ => .p (op_slice_ah (i := 16) tyArr157 (by decide) (by decide) rfl rfl), fun _ => .p (op_toArr tyArr23 (by decide) rfl), fun _ => .p (lp tyAgg23), fun _ => .p (op_call0 (w_signed_spec e23) goes135 rfl rfl), trivial⟩ ⟨_, by exact .p (op_store_p tyAgg25 rfl rfl rfl rfl (Nat.le_of_ble_eq_true rfl) rfl), rfl⟩ rfl (Tri.ret ?_)
    obtain rfl := Option.some.inj h
    refine Fin.keepS ⟨[(4, _)], [(103, _)]⟩ rfl (Fin.result' [.agg (eBig x_26)] (.inl rfl) rfl (.cons (.agg tyAgg25 rfl rfl rfl rfl) .nil) ⟨rfl, rfl⟩)
def q_Make_S (F : Nat) (n0 : Big) (d0 : Big) : Option Frc :=
 (q_good_S F n0).bind fun x_1 => (gcall (!(!x_1)) (q_good_S F d0)).bind fun x_2 => (gcall (!((!x_1) || (!x_2))) (w_Sign_S F d0)).bind fun x_3 => if (((!x_1) || (!x_2)) || (decide (x_3 = 0))) = true then ((q_Bad_S F).bind fun x_4 => some x_4) else ((w_Gcd_S F n0 d0).bind fun x_5 => Option.bind ((w_Sign_S F d0).bind fun x_7 => if (decide (x_7 < 0)) = true then ((w_Neg_S F x_5).bind fun x_8 => some x_8) else (some x_5)) (fun g_6 => (w_Quo_S F n0 g_6).bind fun x_9 => (w_Quo_S F d0 g_6).bind fun x_10 => some (⟨x_9, x_10⟩ : Frc)))
theorem q_Make_spec {F : Nat} {n0 : Big} {d0 : Big} {r : Frc} (h : q_Make_S F n0 d0 = some r) : Meets Tryz.prog (tabs mx) 76 [] [.agg (eBig n0), .agg (eBig d0)] (Is [] (.b (.agg (eFrc r)))) := by
 unfold q_Make_S at h
 refine Meets.intro 35 Tryz.func76 Tryz.ntmps76 rfl (by simp) fun E => ?_
 show Tri _ E ⟨35, [], []⟩ _ ⟨[(0, .b (.agg (eBig n0))), (1, .b (.agg (eBig d0)))], []⟩ _
 refine Tri.seq (Tri.regionL ?_)
 refine Oc (op_box (k := 101) rfl rfl) (Oc (op_box (k := 102) rfl rfl) (Oc (op_alloc (k := 103) tyZero27 rfl) ?_))
 refine OpsL.nilS ⟨[(2, Pt 101 0), (3, Pt 102 0), (4, Pt 103 0)], [(101, .box 25 (eBig n0)), (102, .box 25 (eBig d0)), (103, .box 27 zFrc)]⟩ rfl (Tri.seq (Tri.seq (Tri.regionL ?_)))
 refine Oc (lp tyAgg25) ?_
 obtain ⟨x_1, e1, h⟩ := bnd h
 refine Oc (op_call0 (q_good_spec e1) goes123 rfl rfl) (Oc (op_not rfl) (Oc om ?_))
 refine CgF (!(!x_1)) [] (fun g2 => trivial) (fun g2 => lp tyAgg25) (OpsL.keepS ⟨[(2, _), (3, _), (4, _), (9, B (!x_1)), (10, .opt (!(!x_1)) (.agg (eBig d0)))], [(101, _), (102, _), (103, _)]⟩ rfl ?_)
 obtain ⟨x_2, e4, h⟩ := bnd h
 refine CgF (!(!x_1)) [10] (fun g3 => ⟨g3, trivial⟩) (fun g3 => op_call0 (q_good_spec (gc e4 g3)) goes123 rfl rfl) (CgF (!(!x_1)) [11] (fun g5 => ⟨g5, trivial⟩) (fun g5 => op_not rfl) (Oc (op_pick_or (fun e => by rw [e]; rfl) rfl rfl rfl rfl) (Oc om ?_)))
 refine CgF (!((!x_1) || (!x_2))) [] (fun g6 => trivial) (fun g6 => lp tyAgg25) ?_
 obtain ⟨x_3, e8, h⟩ := bnd h
 refine CgF (!((!x_1) || (!x_2))) [15] (fun g7 => ⟨g7, trivial⟩) (fun g7 => op_call0 (w_Sign_spec (gc e8 g7)) goes90 rfl rfl) (CgF (!((!x_1) || (!x_2))) [16] (fun g9 => ⟨g9, trivial⟩) (fun g9 => op_eql rfl rfl) (Oc (op_pick_or (fun e => by rw [e]; rfl) rfl rfl rfl rfl) (OpsL.nilS ⟨[(2, _), (3, _), (4, _), (18, B (((!x_1) || (!x_2)) || (decide (x_3 = 0))))], [(101, _), (102, _), (103, _)]⟩ rfl (Tri.ite h rfl (fun _ h => ?_) (fun _ h => ?_)))))
 ·refine Tri.seq (Tri.regionL ?_)
  obtain ⟨x_4, e10, h⟩ := bnd h
  refine Oc (op_call0 (q_Bad_spec e10) goes75 rfl rfl) (Oc (op_store_p tyAgg27 rfl rfl rfl rfl (Nat.le_of_ble_eq_true rfl) rfl) ?_)
  refine OpsL.nilS ⟨[(4, _)], [(103, .box 27 (eFrc x_4))]⟩ rfl (Tri.ret (Fin.then_ret ?_))
  obtain rfl := Option.some.inj h
  refine Fin.keepS ⟨[(4, _)], [(103, _)]⟩ rfl (Fin.result' [.agg (eFrc x_4)] (.inl rfl) rfl (.cons (.agg tyAgg27 rfl rfl rfl rfl) .nil) ⟨rfl, rfl⟩)
 ·refine Tri.skip (Fin.keepS ⟨[(2, _), (3, _), (4, _)], [(101, _), (102, _), (103, _)]⟩ rfl (Fin.then (Tri.seq (Tri.regionL ?_))))
  refine Oc (lp tyAgg25) (Oc (lp tyAgg25) ?_)
  obtain ⟨x_5, e11, h⟩ := bnd h
  refine Oc (op_call0 (w_Gcd_spec e11) goes77 rfl rfl) (Oc (op_alloc (k := 104) tyZero25 rfl) (Oc (op_store_p tyAgg25 rfl rfl rfl rfl (Nat.le_of_ble_eq_true rfl) rfl) ?_))
  refine OpsL.nilS ⟨[(2, _), (3, _), (4, _), (5, Pt 104 0)], [(101, _), (102, _), (103, _), (104, .box 25 (eBig x_5))]⟩ rfl ?_
  obtain ⟨v12, h13, h⟩ := bnd h
  refine Tri.seqJ (v := v12) (fun (g_6 : Big) => ⟨[(2, Pt 101 0), (3, Pt 102 0), (4, Pt 103 0), (5, Pt 104 0)], [(101, .box 25 (eBig n0)), (102, .box 25 (eBig d0)), (103, .box 27 zFrc), (104, .box 25 (eBig g_6))]⟩) (fun z => z) ?_ ?_
  ·refine Tri.seq (Tri.regionL ?_)
   refine Oc (lp tyAgg25) ?_
   obtain ⟨x_7, e14, h13⟩ := bnd h13
   refine Oc (op_call0 (w_Sign_spec e14) goes90 rfl rfl) (Oc (op_lss rfl rfl) ?_)
   refine OpsL.nilS ⟨[(2, _), (3, _), (4, _), (5, _), (25, B (decide (x_7 < 0)))], [(101, _), (102, _), (103, _), (104, _)]⟩ rfl (Tri.ite h13 rfl (fun _ h13 => ?_) (fun _ h13 => ?_))
   ·refine Tri.regionL (Oc (lp tyAgg25) ?_)
    obtain ⟨x_8, e15, h13⟩ := bnd h13
    refine Oc (op_call0 (w_Neg_spec e15) goes81 rfl rfl) (Oc (op_store_p tyAgg25 rfl rfl rfl rfl (Nat.le_of_ble_eq_true rfl) rfl) ?_)
    refine OpsL.nil ?_
    exact Fin.join [2, 3, 4, 5] [101, 102, 103, 104] x_8 (Option.some.inj h13) rfl
   ·refine Tri.skip ?_
    exact Fin.join [2, 3, 4, 5] [101, 102, 103, 104] x_5 (Option.some.inj h13) rfl
  ·rintro g_6 hv
   subst v12
   refine Tri.seq (Tri.keepS ⟨[(2, _), (3, _), (4, _), (5, _)], [(101, _), (102, _), (103, _), (104, _)]⟩ rfl ?_)
   obtain ⟨x_9, e16, h⟩ := bnd h
   obtain ⟨x_10, e17, h⟩ := bnd h
   refine Tri.regionY mixed 7 [.b (.agg (eBig n0)), .b (.agg (eBig g_6)), .b (.agg (eBig x_9)), .b (.agg (eBig d0)), .b (.agg (eBig g_6)), .b (.agg (eBig x_10)), .b (.agg (eBig x_9 ++ (eBig x_10)))] [4] [103] (s' := ⟨[(4, _)], [(103, .box 27 (eBig x_9 ++ (eBig x_10)))]⟩) rfl ⟨fun _ => .p (lp tyAgg25), fun _ => .p (lp tyAgg25), fun _ => .p (op_call0 (w_Quo_spec e16) goes78 rfl rfl), fun _ => .p (lp tyAgg25), fun _ => .p (lp tyAgg25), fun _ => .p (op_call0 (w_Quo_spec e17) goes78 rfl rfl), fun _ => .p (op_build tyBuild27 rfl rfl), trivial⟩ ⟨_, by exact .p (op_store_p tyAgg27 rfl rfl rfl rfl (Nat.le_of_ble_eq_true rfl) rfl), rfl⟩ rfl (Tri.ret ?_)
   obtain rfl := Option.some.inj h
   refine Fin.keepS ⟨[(4, _)], [(103, _)]⟩ rfl (Fin.result' [.agg (eBig x_9 ++ (eBig x_10))] (.inl rfl) rfl (.cons (.agg tyAgg27 rfl rfl rfl rfl) .nil) ⟨rfl, rfl⟩)
end Go.Proofs.YtcbbilehdaaffaaGreatDoor

