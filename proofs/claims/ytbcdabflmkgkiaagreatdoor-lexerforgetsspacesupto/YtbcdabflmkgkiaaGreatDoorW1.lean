/- printed walks -/
import Derived.Test.YtbcdabflmkgkiaaGreatDoorT1
namespace Go.Proofs.YtbcdabflmkgkiaaGreatDoor
open Go.Sk
set_option maxHeartbeats 4000000
set_option maxRecDepth 4000
set_option linter.unusedSimpArgs false
set_option linter.unusedVariables false
variable {mx : Int}
/-- the words and the signs of the lexer -/
def wordsT : List Str := [[97, 110, 100], [97, 112, 112, 108, 121], [97, 116], [98, 108, 111, 99, 107], [98, 111, 120], [98, 121], [99, 117, 116], [101, 108, 115, 101], [102, 97, 108, 115, 101], [102, 111, 114, 99, 101], [102, 114, 101, 101], [102, 114, 111, 109], [103, 114, 97, 118, 105, 116, 121], [103, 114, 111, 117, 110, 100], [105, 102], [108, 101, 116], [108, 111, 97, 100], [109, 97, 115, 115], [110, 111, 116], [111, 110], [111, 114], [112, 97, 117, 115, 101], [112, 108, 97, 99, 101], [112, 111, 105, 110, 116, 115], [112, 114, 111, 112], [114, 101, 109, 111, 118, 101], [114, 101, 112, 101, 97, 116], [114, 111, 112, 101], [114, 111, 117, 103, 104], [114, 117, 110], [115, 101, 116], [116, 105, 101], [116, 111], [116, 114, 117, 101], [116, 117, 114, 110], [121, 97, 114, 100]]
def signsT : List Str := [[46, 46], [61, 61], [33, 61], [60, 61], [62, 61], [45, 62], [40], [41], [123], [125], [91], [93], [44], [59], [58], [46], [61], [60], [62], [43], [45], [42], [47], [94], [64]]
/-- the tables (mx: what internal/bytealg.MaxLen holds, whatever it is) -/
def tabs (mx : Int) : Tabs := [(0, strV wordsT), (1, strV signsT), (2, [Value.int .i64 mx])]
theorem words_mem {mx : Int} : (0, strV wordsT) ∈ tabs mx := by simp [tabs]
theorem signs_mem {mx : Int} : (1, strV signsT) ∈ tabs mx := by simp [tabs]
theorem words_rel (h : PH) : cellsRel h (wordsT.map eS).flatten (strV wordsT) := strs_rel h (by decide)
theorem signs_rel (h : PH) : cellsRel h (signsT.map eS).flatten (strV signsT) := strs_rel h (by decide)
theorem tyFld149_1 : TyField Tryz.prog 149 1 0 32 := ⟨⟨_, _, Tryz.t32, Tryz.underlying149, rfl, rfl, rfl, by kernel_rfl, by decide⟩⟩
theorem ext171 : ExtF Tryz.prog 171 (Extern.Atomic.loadT (.int .u32)) := ⟨_, Tryz.func171, by kernel_rfl, by kernel_rfl, by kernel_rfl, by kernel_rfl⟩
theorem goes185 : Goes Tryz.prog 185 := ⟨Tryz.call185⟩
theorem ext184 : ExtF Tryz.prog 184 (Extern.Atomic.storeT) := ⟨_, Tryz.func184, by kernel_rfl, by kernel_rfl, by kernel_rfl, by kernel_rfl⟩
theorem mixed : Tryz.prog.follows .mixedOrders = true := by kernel_rfl
theorem ext189 : ExtF Tryz.prog 189 (fun _ => do _root_.Go.mark .disable; pure Extern.Race.none_) := ⟨_, Tryz.func189, by kernel_rfl, by kernel_rfl, by kernel_rfl, by kernel_rfl⟩
theorem tyFld151_0 : TyField Tryz.prog 151 0 0 21 := ⟨⟨_, _, Tryz.t21, Tryz.underlying151, rfl, rfl, rfl, by kernel_rfl, by decide⟩⟩
theorem ext190 : ExtF Tryz.prog 190 (Extern.Atomic.casT (.int .i32)) := ⟨_, Tryz.func190, by kernel_rfl, by kernel_rfl, by kernel_rfl, by kernel_rfl⟩
theorem ext191 : ExtF Tryz.prog 191 (fun _ => do _root_.Go.mark .enable; pure Extern.Race.none_) := ⟨_, Tryz.func191, by kernel_rfl, by kernel_rfl, by kernel_rfl, by kernel_rfl⟩
theorem ext192 : ExtF Tryz.prog 192 (Extern.Race.marked .acquire) := ⟨_, Tryz.func192, by kernel_rfl, by kernel_rfl, by kernel_rfl, by kernel_rfl⟩
theorem tyFld153_1 : TyField Tryz.prog 153 1 0 151 := ⟨⟨_, _, Tryz.t151, Tryz.underlying153, rfl, rfl, rfl, by kernel_rfl, by decide⟩⟩
theorem goes182 : Goes Tryz.prog 182 := ⟨Tryz.call182⟩
theorem tyOne21 : TyOne Tryz.prog 21 := ⟨⟨_, Tryz.underlying21, rfl⟩, ⟨Tryz.t21, by kernel_rfl, by kernel_rfl⟩⟩
theorem ext194 : ExtF Tryz.prog 194 (Extern.Race.marked .releaseMerge) := ⟨_, Tryz.func194, by kernel_rfl, by kernel_rfl, by kernel_rfl, by kernel_rfl⟩
theorem ext195 : ExtF Tryz.prog 195 (Extern.Atomic.update (Op.intArith .add) .i32 true) := ⟨_, Tryz.func195, by kernel_rfl, by kernel_rfl, by kernel_rfl, by kernel_rfl⟩
theorem goes183 : Goes Tryz.prog 183 := ⟨Tryz.call183⟩
theorem tyFld159_2 : TyField Tryz.prog 159 2 4 44 := ⟨⟨_, _, Tryz.t44, Tryz.underlying159, rfl, rfl, rfl, by kernel_rfl, by decide⟩⟩
theorem tyOne44 : TyOne Tryz.prog 44 := ⟨⟨_, Tryz.underlying44, rfl⟩, ⟨Tryz.t44, by kernel_rfl, by kernel_rfl⟩⟩
theorem und44 : Tryz.prog.underlying 44 = some (.slice 9) := Tryz.underlying44
theorem tySl44 : TySl Tryz.prog 44 9 1 16 [.str []] := ⟨Tryz.underlying44, ⟨Tryz.t9, _, by kernel_rfl, rfl, rfl, rfl, rfl, by decide, rfl⟩⟩
theorem tyOne9 : TyOne Tryz.prog 9 := ⟨⟨_, Tryz.underlying9, rfl⟩, ⟨Tryz.t9, by kernel_rfl, by kernel_rfl⟩⟩
theorem und9 : Tryz.prog.underlying 9 = some .string := Tryz.underlying9
theorem tyBuild211 : TyBuild Tryz.prog 211 [(0, 256), (256, 1)] (List.replicate 256 CP.nil ++ [.nil]) := ⟨⟨Tryz.t211, _, _, by kernel_rfl, rfl, rfl, Tryz.underlying211, by kernel_rfl⟩⟩
theorem tyZero211 : TyZero Tryz.prog 211 (List.replicate 256 CP.nil ++ [.nil]) := ⟨⟨Tryz.t211, _, by kernel_rfl, rfl, rfl⟩⟩
theorem tyAgg211 : TyAgg Tryz.prog 211 257 := ⟨⟨_, Tryz.underlying211, rfl⟩, ⟨Tryz.t211, by kernel_rfl, by kernel_rfl⟩⟩
theorem tyFld211_0 : TyField Tryz.prog 211 0 0 209 := ⟨⟨_, _, Tryz.t209, Tryz.underlying211, rfl, rfl, rfl, by kernel_rfl, by decide⟩⟩
theorem tyArr209 : TyArr Tryz.prog 209 50 256 1 := ⟨Tryz.underlying209, ⟨Tryz.t50, by kernel_rfl, by kernel_rfl⟩⟩
theorem tyOne50 : TyOne Tryz.prog 50 := ⟨⟨_, Tryz.underlying50, rfl⟩, ⟨Tryz.t50, by kernel_rfl, by kernel_rfl⟩⟩
theorem und50 : Tryz.prog.underlying 50 = some (.slice 5) := Tryz.underlying50
theorem tyFld211_1 : TyField Tryz.prog 211 1 256 44 := ⟨⟨_, _, Tryz.t44, Tryz.underlying211, rfl, rfl, rfl, by kernel_rfl, by decide⟩⟩
theorem tySl50 : TySl Tryz.prog 50 5 1 1 [.int .u8 0] := ⟨Tryz.underlying50, ⟨Tryz.t5, _, by kernel_rfl, rfl, rfl, rfl, rfl, by decide, rfl⟩⟩
theorem undi5 : Tryz.prog.underlying 5 = some (.int .u8) := Tryz.underlying5
theorem conc212 : Tryz.prog.concrete 212 = true := (by kernel_rfl)
theorem goes152 : Goes Tryz.prog 152 := ⟨Tryz.call152⟩
theorem tyFld159_1 : TyField Tryz.prog 159 1 3 157 := ⟨⟨_, _, Tryz.t157, Tryz.underlying159, rfl, rfl, rfl, by kernel_rfl, by decide⟩⟩
theorem tyOne157 : TyOne Tryz.prog 157 := ⟨⟨_, Tryz.underlying157, rfl⟩, ⟨Tryz.t157, by kernel_rfl, by kernel_rfl⟩⟩
theorem tyFld155_2 : TyField Tryz.prog 155 2 1 153 := ⟨⟨_, _, Tryz.t153, Tryz.underlying155, rfl, rfl, rfl, by kernel_rfl, by decide⟩⟩
theorem goes172 : Goes Tryz.prog 172 := ⟨Tryz.call172⟩
theorem tyFld155_1 : TyField Tryz.prog 155 1 0 149 := ⟨⟨_, _, Tryz.t149, Tryz.underlying155, rfl, rfl, rfl, by kernel_rfl, by decide⟩⟩
theorem goes150 : Goes Tryz.prog 150 := ⟨Tryz.call150⟩
theorem goes118 : Goes Tryz.prog 118 := ⟨Tryz.call118⟩
theorem goes174 : Goes Tryz.prog 174 := ⟨Tryz.call174⟩
theorem goes173 : Goes Tryz.prog 173 := ⟨Tryz.call173⟩
theorem goes151 : Goes Tryz.prog 151 := ⟨Tryz.call151⟩
theorem goes54 : Goes Tryz.prog 54 := ⟨Tryz.call54⟩
theorem tyOne5 : TyOne Tryz.prog 5 := ⟨⟨_, Tryz.underlying5, rfl⟩, ⟨Tryz.t5, by kernel_rfl, by kernel_rfl⟩⟩
theorem tyBuildI159 : TyBuildI Tryz.prog 159 [(0, 3), (3, 1), (4, 1)] [.int .u32 0, .int .i32 0, .int .u32 0, .raw .nilIface, .nil] := ⟨⟨Tryz.t159, _, _, by kernel_rfl, rfl, fun _ => (.cons (cell_int ⟨by decide, by decide⟩) (.cons (cell_int ⟨by decide, by decide⟩) (.cons (cell_int ⟨by decide, by decide⟩) (.cons (cell_raw rfl) (.cons (cell_raw rfl) .nil))))), Tryz.underlying159, by kernel_rfl⟩⟩
theorem tyFld159_0 : TyField Tryz.prog 159 0 0 155 := ⟨⟨_, _, Tryz.t155, Tryz.underlying159, rfl, rfl, rfl, by kernel_rfl, by decide⟩⟩
theorem goes117 : Goes Tryz.prog 117 := ⟨Tryz.call117⟩
theorem meth212_Replace : ∀ (u : Value) (args : Array Value) (w : World), (callMethod (.iface 212 u) "Replace" args).run Tryz.prog w = .ok (.enter 230 (#[u] ++ args)) w := fun _ _ _ => by kernel_rfl
theorem goes91 : Goes Tryz.prog 91 := ⟨Tryz.call91⟩
theorem goes95 : Goes Tryz.prog 95 := ⟨Tryz.call95⟩
theorem goes138 : Goes Tryz.prog 138 := ⟨Tryz.call138⟩
theorem goes100 : Goes Tryz.prog 100 := ⟨Tryz.call100⟩
theorem goes94 : Goes Tryz.prog 94 := ⟨Tryz.call94⟩
theorem goes99 : Goes Tryz.prog 99 := ⟨Tryz.call99⟩
theorem goes101 : Goes Tryz.prog 101 := ⟨Tryz.call101⟩
theorem tyFld77_1 : TyField Tryz.prog 77 1 1 3 := ⟨⟨_, _, Tryz.t3, Tryz.underlying77, rfl, rfl, rfl, by kernel_rfl, by decide⟩⟩
theorem tyOne3 : TyOne Tryz.prog 3 := ⟨⟨_, Tryz.underlying3, rfl⟩, ⟨Tryz.t3, by kernel_rfl, by kernel_rfl⟩⟩
theorem tyFld77_0 : TyField Tryz.prog 77 0 0 9 := ⟨⟨_, _, Tryz.t9, Tryz.underlying77, rfl, rfl, rfl, by kernel_rfl, by decide⟩⟩
theorem tyBuild46 : TyBuild Tryz.prog 46 [(0, 1), (1, 1)] [.i 0, .i 0] := ⟨⟨Tryz.t46, _, _, by kernel_rfl, rfl, rfl, Tryz.underlying46, by kernel_rfl⟩⟩
theorem conc46 : Tryz.prog.concrete 46 = true := (by kernel_rfl)
theorem goes149 : Goes Tryz.prog 149 := ⟨Tryz.call149⟩
theorem undi3 : Tryz.prog.underlying 3 = some (.int .i64) := Tryz.underlying3
theorem undi55 : Tryz.prog.underlying 55 = some (.int .u64) := Tryz.underlying55
theorem goes115 : Goes Tryz.prog 115 := ⟨Tryz.call115⟩
theorem goes116 : Goes Tryz.prog 116 := ⟨Tryz.call116⟩
theorem tyArr88 : TyArr Tryz.prog 88 9 36 1 := ⟨Tryz.underlying88, ⟨Tryz.t9, by kernel_rfl, by kernel_rfl⟩⟩
theorem goes56 : Goes Tryz.prog 56 := ⟨Tryz.call56⟩
theorem tyZero31 : TyZero Tryz.prog 31 [.i 0, .i 0, .str []] := ⟨⟨Tryz.t31, _, by kernel_rfl, rfl, rfl⟩⟩
theorem goes92 : Goes Tryz.prog 92 := ⟨Tryz.call92⟩
theorem tyBuild31 : TyBuild Tryz.prog 31 [(0, 1), (1, 1), (2, 1)] [.i 0, .i 0, .str []] := ⟨⟨Tryz.t31, _, _, by kernel_rfl, rfl, rfl, Tryz.underlying31, by kernel_rfl⟩⟩
theorem tyAgg31 : TyAgg Tryz.prog 31 3 := ⟨⟨_, Tryz.underlying31, rfl⟩, ⟨Tryz.t31, by kernel_rfl, by kernel_rfl⟩⟩
theorem goes93 : Goes Tryz.prog 93 := ⟨Tryz.call93⟩
theorem goes96 : Goes Tryz.prog 96 := ⟨Tryz.call96⟩
theorem tyFld31_2 : TyField Tryz.prog 31 2 2 9 := ⟨⟨_, _, Tryz.t9, Tryz.underlying31, rfl, rfl, rfl, by kernel_rfl, by decide⟩⟩
theorem goes25 : Goes Tryz.prog 25 := ⟨Tryz.call25⟩
theorem tyFld31_0 : TyField Tryz.prog 31 0 0 3 := ⟨⟨_, _, Tryz.t3, Tryz.underlying31, rfl, rfl, rfl, by kernel_rfl, by decide⟩⟩
theorem tyOne75 : TyOne Tryz.prog 75 := ⟨⟨_, Tryz.underlying75, rfl⟩, ⟨Tryz.t75, by kernel_rfl, by kernel_rfl⟩⟩
theorem goes71 : Goes Tryz.prog 71 := ⟨Tryz.call71⟩
theorem goes98 : Goes Tryz.prog 98 := ⟨Tryz.call98⟩
theorem tyArr131 : TyArr Tryz.prog 131 9 25 1 := ⟨Tryz.underlying131, ⟨Tryz.t9, by kernel_rfl, by kernel_rfl⟩⟩
theorem goes97 : Goes Tryz.prog 97 := ⟨Tryz.call97⟩
theorem tyZero22 : TyZero Tryz.prog 22 [.nil] := ⟨⟨Tryz.t22, _, by kernel_rfl, rfl, rfl⟩⟩
theorem tyZero46 : TyZero Tryz.prog 46 [.i 0, .i 0] := ⟨⟨Tryz.t46, _, by kernel_rfl, rfl, rfl⟩⟩
theorem tyOne22 : TyOne Tryz.prog 22 := ⟨⟨_, Tryz.underlying22, rfl⟩, ⟨Tryz.t22, by kernel_rfl, by kernel_rfl⟩⟩
theorem tyAgg46 : TyAgg Tryz.prog 46 2 := ⟨⟨_, Tryz.underlying46, rfl⟩, ⟨Tryz.t46, by kernel_rfl, by kernel_rfl⟩⟩
theorem tyBuild77 : TyBuild Tryz.prog 77 [(0, 1), (1, 1)] [.str [], .i 0] := ⟨⟨Tryz.t77, _, _, by kernel_rfl, rfl, rfl, Tryz.underlying77, by kernel_rfl⟩⟩
theorem tyBuild79 : TyBuildA Tryz.prog 79 1 [.raw .nilFunc, .raw .nilFunc, .raw .nilFunc, .raw .nilFunc] := ⟨⟨Tryz.t79, _, _, _, Tryz.t78, by kernel_rfl, rfl, rfl, Tryz.underlying79, by kernel_rfl, by kernel_rfl⟩⟩
theorem tyZero79 : TyZero Tryz.prog 79 [.raw .nilFunc, .raw .nilFunc, .raw .nilFunc, .raw .nilFunc] := ⟨⟨Tryz.t79, _, by kernel_rfl, rfl, rfl⟩⟩
theorem tyAgg79 : TyAgg Tryz.prog 79 4 := ⟨⟨_, Tryz.underlying79, rfl⟩, ⟨Tryz.t79, by kernel_rfl, by kernel_rfl⟩⟩
theorem goes45 : Goes Tryz.prog 45 := ⟨Tryz.call45⟩
theorem tyArr79 : TyArr Tryz.prog 79 78 4 1 := ⟨Tryz.underlying79, ⟨Tryz.t78, by kernel_rfl, by kernel_rfl⟩⟩
theorem tyOne78 : TyOne Tryz.prog 78 := ⟨⟨_, Tryz.underlying78, rfl⟩, ⟨Tryz.t78, by kernel_rfl, by kernel_rfl⟩⟩
theorem goes41 : Goes Tryz.prog 41 := ⟨Tryz.call41⟩
theorem tySl22 : TySl Tryz.prog 22 31 3 32 [.i 0, .i 0, .str []] := ⟨Tryz.underlying22, ⟨Tryz.t31, _, by kernel_rfl, rfl, rfl, rfl, rfl, by decide, rfl⟩⟩
theorem goes42 : Goes Tryz.prog 42 := ⟨Tryz.call42⟩
theorem goes43 : Goes Tryz.prog 43 := ⟨Tryz.call43⟩
theorem goes44 : Goes Tryz.prog 44 := ⟨Tryz.call44⟩
theorem goes40 : Goes Tryz.prog 40 := ⟨Tryz.call40⟩
theorem und22 : Tryz.prog.underlying 22 = some (.slice 31) := Tryz.underlying22
theorem goes57 : Goes Tryz.prog 57 := ⟨Tryz.call57⟩
theorem goes58 : Goes Tryz.prog 58 := ⟨Tryz.call58⟩
theorem goes27 : Goes Tryz.prog 27 := ⟨Tryz.call27⟩
theorem goes13 : Goes Tryz.prog 13 := ⟨Tryz.call13⟩
theorem tyFld31_1 : TyField Tryz.prog 31 1 1 3 := ⟨⟨_, _, Tryz.t3, Tryz.underlying31, rfl, rfl, rfl, by kernel_rfl, by decide⟩⟩
theorem tyOne24 : TyOne Tryz.prog 24 := ⟨⟨_, Tryz.underlying24, rfl⟩, ⟨Tryz.t24, by kernel_rfl, by kernel_rfl⟩⟩
theorem eqPart46 (x y : Problem) {d : Nat} : EqPart Tryz.prog (d + 2) 46 2 (eProblem x) (eProblem y) (decide (x = y)) :=
 (EqPart.struct (d := d + 1) (rs := [decide (x.At = y.At), decide (x.E = y.E)]) tyAgg46 Tryz.stoodInHeld46 Tryz.underlying46 (⟨by decide, ⟨_, [.i x.At], [.i y.At], rfl, rfl, rfl, rfl, EqPart.int tyOne3 Tryz.underlying3⟩, ⟨by decide, ⟨_, [.i x.E], [.i y.E], rfl, rfl, rfl, rfl, EqPart.int tyOne24 Tryz.underlying24⟩, trivial⟩⟩) rfl).cast
  (by cases x; cases y; rw [Bool.eq_iff_iff]; simp [Problem.mk.injEq])
theorem eqAgg46 (x y : Problem) : EqAgg Tryz.prog 46 (eProblem x) (eProblem y) (decide (x = y)) := EqAgg.ofPart (by kernel_rfl) tyAgg46 (eqPart46 x y (d := 9998)) rfl rfl
theorem eqPart31 (x y : Token) {d : Nat} : EqPart Tryz.prog (d + 2) 31 3 (eToken x) (eToken y) (decide (x = y)) :=
 (EqPart.struct (d := d + 1) (rs := [decide (x.Kind = y.Kind), decide (x.At = y.At), decide (x.S = y.S)]) tyAgg31 Tryz.stoodInHeld31 Tryz.underlying31 (⟨by decide, ⟨_, [.i x.Kind], [.i y.Kind], rfl, rfl, rfl, rfl, EqPart.int tyOne3 Tryz.underlying3⟩, ⟨by decide, ⟨_, [.i x.At], [.i y.At], rfl, rfl, rfl, rfl, EqPart.int tyOne3 Tryz.underlying3⟩, ⟨by decide, ⟨_, [.str x.S], [.str y.S], rfl, rfl, rfl, rfl, EqPart.str tyOne9 Tryz.underlying9⟩, trivial⟩⟩⟩) rfl).cast
  (by cases x; cases y; rw [Bool.eq_iff_iff]; simp [Token.mk.injEq])
theorem eqAgg31 (x y : Token) : EqAgg Tryz.prog 31 (eToken x) (eToken y) (decide (x = y)) := EqAgg.ofPart (by kernel_rfl) tyAgg31 (eqPart31 x y (d := 9998)) rfl rfl
theorem goes64 : Goes Tryz.prog 64 := ⟨Tryz.call64⟩
theorem tyZero35 : TyZero Tryz.prog 35 zBig := ⟨⟨Tryz.t35, _, by kernel_rfl, rfl, rfl⟩⟩
theorem tyBuild35 : TyBuild Tryz.prog 35 [(0, 1), (1, 1), (2, 16)] zBig := ⟨⟨Tryz.t35, _, _, by kernel_rfl, rfl, rfl, Tryz.underlying35, by kernel_rfl⟩⟩
theorem tyAgg35 : TyAgg Tryz.prog 35 18 := ⟨⟨_, Tryz.underlying35, rfl⟩, ⟨Tryz.t35, by kernel_rfl, by kernel_rfl⟩⟩
theorem tyAgg33 : TyAgg Tryz.prog 33 16 := ⟨⟨_, Tryz.underlying33, rfl⟩, ⟨Tryz.t33, by kernel_rfl, by kernel_rfl⟩⟩
theorem tyBuild33 : TyBuildA Tryz.prog 33 1 (eW A16.zero) := ⟨⟨Tryz.t33, _, _, _, Tryz.t32, by kernel_rfl, rfl, rfl, Tryz.underlying33, by kernel_rfl, by kernel_rfl⟩⟩
theorem tyOne32 : TyOne Tryz.prog 32 := ⟨⟨_, Tryz.underlying32, rfl⟩, ⟨Tryz.t32, by kernel_rfl, by kernel_rfl⟩⟩
theorem eqPart33 (x y : A16) {d : Nat} : EqPart Tryz.prog (d + 2) 33 16 (eW x) (eW y) (decide (x = y)) :=
 (EqPart.arr (l := x.l) (l' := y.l) tyAgg33 Tryz.underlying33 tyOne32 Tryz.underlying32).cast (by rw [Bool.eq_iff_iff]; simp [A16.l_inj])
theorem eqAgg33 (x y : A16) : EqAgg Tryz.prog 33 (eW x) (eW y) (decide (x = y)) := EqAgg.ofPart (by kernel_rfl) tyAgg33 (eqPart33 x y (d := 9998)) rfl rfl
theorem undi54 : Tryz.prog.underlying 54 = some (.int .u64) := Tryz.underlying54
theorem undi32 : Tryz.prog.underlying 32 = some (.int .u32) := Tryz.underlying32
theorem goes69 : Goes Tryz.prog 69 := ⟨Tryz.call69⟩
theorem tyFld35_2 : TyField Tryz.prog 35 2 2 33 := ⟨⟨_, _, Tryz.t33, Tryz.underlying35, rfl, rfl, rfl, by kernel_rfl, by decide⟩⟩
theorem tyFld35_0 : TyField Tryz.prog 35 0 0 4 := ⟨⟨_, _, Tryz.t4, Tryz.underlying35, rfl, rfl, rfl, by kernel_rfl, by decide⟩⟩
theorem tyOne4 : TyOne Tryz.prog 4 := ⟨⟨_, Tryz.underlying4, rfl⟩, ⟨Tryz.t4, by kernel_rfl, by kernel_rfl⟩⟩
theorem tyFld35_1 : TyField Tryz.prog 35 1 1 4 := ⟨⟨_, _, Tryz.t4, Tryz.underlying35, rfl, rfl, rfl, by kernel_rfl, by decide⟩⟩
theorem und178 : Tryz.prog.underlying 178 = some (.slice 35) := Tryz.underlying178
theorem tySl178 : TySl Tryz.prog 178 35 18 68 zBig := ⟨Tryz.underlying178, ⟨Tryz.t35, _, by kernel_rfl, rfl, rfl, rfl, rfl, by decide, rfl⟩⟩
theorem goes130 : Goes Tryz.prog 130 := ⟨Tryz.call130⟩
theorem tyArr33 : TyArr Tryz.prog 33 32 16 1 := ⟨Tryz.underlying33, ⟨Tryz.t32, by kernel_rfl, by kernel_rfl⟩⟩
theorem goes103 : Goes Tryz.prog 103 := ⟨Tryz.call103⟩
theorem goes68 : Goes Tryz.prog 68 := ⟨Tryz.call68⟩
theorem tyZero133 : TyZero Tryz.prog 133 ((eA32 .u32) A32.zero) := ⟨⟨Tryz.t133, _, by kernel_rfl, rfl, rfl⟩⟩
theorem goes104 : Goes Tryz.prog 104 := ⟨Tryz.call104⟩
theorem tyArr133 : TyArr Tryz.prog 133 32 32 1 := ⟨Tryz.underlying133, ⟨Tryz.t32, by kernel_rfl, by kernel_rfl⟩⟩
theorem und4 : Tryz.prog.underlying 4 = some .bool := Tryz.underlying4
theorem tyZero33 : TyZero Tryz.prog 33 (eW A16.zero) := ⟨⟨Tryz.t33, _, by kernel_rfl, rfl, rfl⟩⟩
theorem goes170 : Goes Tryz.prog 170 := ⟨Tryz.call170⟩
theorem goes148 : Goes Tryz.prog 148 := ⟨Tryz.call148⟩
theorem goes108 : Goes Tryz.prog 108 := ⟨Tryz.call108⟩
theorem goes109 : Goes Tryz.prog 109 := ⟨Tryz.call109⟩
theorem goes110 : Goes Tryz.prog 110 := ⟨Tryz.call110⟩
theorem goes47 : Goes Tryz.prog 47 := ⟨Tryz.call47⟩
theorem goes50 : Goes Tryz.prog 50 := ⟨Tryz.call50⟩
theorem goes53 : Goes Tryz.prog 53 := ⟨Tryz.call53⟩
theorem tyZero37 : TyZero Tryz.prog 37 zFrc := ⟨⟨Tryz.t37, _, by kernel_rfl, rfl, rfl⟩⟩
theorem goes102 : Goes Tryz.prog 102 := ⟨Tryz.call102⟩
theorem tyBuild37 : TyBuild Tryz.prog 37 [(0, 18), (18, 18)] zFrc := ⟨⟨Tryz.t37, _, _, by kernel_rfl, rfl, rfl, Tryz.underlying37, by kernel_rfl⟩⟩
theorem tyAgg37 : TyAgg Tryz.prog 37 36 := ⟨⟨_, Tryz.underlying37, rfl⟩, ⟨Tryz.t37, by kernel_rfl, by kernel_rfl⟩⟩
theorem goes168 : Goes Tryz.prog 168 := ⟨Tryz.call168⟩
theorem tyArr183 : TyArr Tryz.prog 183 32 17 1 := ⟨Tryz.underlying183, ⟨Tryz.t32, by kernel_rfl, by kernel_rfl⟩⟩
theorem goes139 : Goes Tryz.prog 139 := ⟨Tryz.call139⟩
theorem goes140 : Goes Tryz.prog 140 := ⟨Tryz.call140⟩
theorem goes141 : Goes Tryz.prog 141 := ⟨Tryz.call141⟩
theorem tyZero183 : TyZero Tryz.prog 183 ((eA17 .u32) A17.zero) := ⟨⟨Tryz.t183, _, by kernel_rfl, rfl, rfl⟩⟩
theorem tySl135 : TySl Tryz.prog 135 32 1 4 [.int .u32 0] := ⟨Tryz.underlying135, ⟨Tryz.t32, _, by kernel_rfl, rfl, rfl, rfl, rfl, by decide, rfl⟩⟩
theorem goes142 : Goes Tryz.prog 142 := ⟨Tryz.call142⟩
theorem goes143 : Goes Tryz.prog 143 := ⟨Tryz.call143⟩
theorem goes144 : Goes Tryz.prog 144 := ⟨Tryz.call144⟩
theorem goes145 : Goes Tryz.prog 145 := ⟨Tryz.call145⟩
theorem goes105 : Goes Tryz.prog 105 := ⟨Tryz.call105⟩
theorem goes51 : Goes Tryz.prog 51 := ⟨Tryz.call51⟩
theorem goes106 : Goes Tryz.prog 106 := ⟨Tryz.call106⟩
theorem goes169 : Goes Tryz.prog 169 := ⟨Tryz.call169⟩
theorem goes75 : Goes Tryz.prog 75 := ⟨Tryz.call75⟩
theorem goes74 : Goes Tryz.prog 74 := ⟨Tryz.call74⟩
theorem goes146 : Goes Tryz.prog 146 := ⟨Tryz.call146⟩
theorem goes147 : Goes Tryz.prog 147 := ⟨Tryz.call147⟩
theorem goes107 : Goes Tryz.prog 107 := ⟨Tryz.call107⟩
theorem goes73 : Goes Tryz.prog 73 := ⟨Tryz.call73⟩
theorem goes49 : Goes Tryz.prog 49 := ⟨Tryz.call49⟩
theorem goes52 : Goes Tryz.prog 52 := ⟨Tryz.call52⟩
theorem goes26 : Goes Tryz.prog 26 := ⟨Tryz.call26⟩
theorem goes31 : Goes Tryz.prog 31 := ⟨Tryz.call31⟩
theorem goes32 : Goes Tryz.prog 32 := ⟨Tryz.call32⟩
theorem goes33 : Goes Tryz.prog 33 := ⟨Tryz.call33⟩
theorem goes34 : Goes Tryz.prog 34 := ⟨Tryz.call34⟩
theorem goes35 : Goes Tryz.prog 35 := ⟨Tryz.call35⟩
theorem goes28 : Goes Tryz.prog 28 := ⟨Tryz.call28⟩
theorem goes114 : Goes Tryz.prog 114 := ⟨Tryz.call114⟩
theorem goes55 : Goes Tryz.prog 55 := ⟨Tryz.call55⟩
theorem goes14 : Goes Tryz.prog 14 := ⟨Tryz.call14⟩
theorem goes11 : Goes Tryz.prog 11 := ⟨Tryz.call11⟩
theorem goes9 : Goes Tryz.prog 9 := ⟨Tryz.call9⟩
theorem goes23 : Goes Tryz.prog 23 := ⟨Tryz.call23⟩
theorem goes24 : Goes Tryz.prog 24 := ⟨Tryz.call24⟩
theorem eqPart35 (x y : Big) {d : Nat} : EqPart Tryz.prog (d + 3) 35 18 (eBig x) (eBig y) (decide (x = y)) :=
 (EqPart.struct (d := d + 2) (rs := [x.Bad == y.Bad, x.Neg == y.Neg, decide (x.W = y.W)]) tyAgg35 Tryz.stoodInHeld35 Tryz.underlying35 (⟨by decide, ⟨_, [.bool x.Bad], [.bool y.Bad], rfl, rfl, rfl, rfl, (.bool tyOne4 Tryz.underlying4)⟩, ⟨by decide, ⟨_, [.bool x.Neg], [.bool y.Neg], rfl, rfl, rfl, rfl, (.bool tyOne4 Tryz.underlying4)⟩, ⟨by decide, ⟨_, (eW x.W), (eW y.W), rfl, rfl, rfl, rfl, eqPart33 _ _⟩, trivial⟩⟩⟩) rfl).cast
  (by cases x; cases y; rw [Bool.eq_iff_iff]; simp [Big.mk.injEq])
theorem eqPart37 (x y : Frc) {d : Nat} : EqPart Tryz.prog (d + 4) 37 36 (eFrc x) (eFrc y) (decide (x = y)) :=
 (EqPart.struct (d := d + 3) (rs := [decide (x.N = y.N), decide (x.D = y.D)]) tyAgg37 Tryz.stoodInHeld37 Tryz.underlying37 (⟨by decide, ⟨_, (eBig x.N), (eBig y.N), rfl, rfl, rfl, rfl, eqPart35 _ _⟩, ⟨by decide, ⟨_, (eBig x.D), (eBig y.D), rfl, rfl, rfl, rfl, eqPart35 _ _⟩, trivial⟩⟩) rfl).cast
  (by cases x; cases y; rw [Bool.eq_iff_iff]; simp [Frc.mk.injEq])
theorem eqAgg37 (x y : Frc) : EqAgg Tryz.prog 37 (eFrc x) (eFrc y) (decide (x = y)) := EqAgg.ofPart (by kernel_rfl) tyAgg37 (eqPart37 x y (d := 9996)) rfl rfl
theorem tyFld46_1 : TyField Tryz.prog 46 1 1 24 := ⟨⟨_, _, Tryz.t24, Tryz.underlying46, rfl, rfl, rfl, by kernel_rfl, by decide⟩⟩
theorem goes8 : Goes Tryz.prog 8 := ⟨Tryz.call8⟩
theorem goes15 : Goes Tryz.prog 15 := ⟨Tryz.call15⟩
theorem tyByte5 : TyByte Tryz.prog 5 := ⟨⟨Tryz.t5, by kernel_rfl, rfl, rfl, rfl⟩⟩
def strings_Repeat_S (F : Nat) (s0 : Str) (c0 : Int) : Option Str := repeat? s0 c0
theorem strings_Repeat_spec {F : Nat} {s0 : Str} {c0 : Int} {r : Str} (h : strings_Repeat_S F s0 c0 = some r) : Meets Tryz.prog (tabs mx) 34 [] [.one (.str s0), .one (.i c0)] (Is [] (.b (.one (.str r)))) := meets_Repeat Tryz.lays105 Tryz.Builder_Extra_105 h
def strings_Join_S (F : Nat) (l0 : List Str) (s0 : Str) : Option Str := join? l0 s0
theorem strings_Join_spec {F : Nat} {l0 : List Str} {s0 : Str} {r : Str} (h : strings_Join_S F l0 s0 = some r) : Meets Tryz.prog (tabs mx) 28 [] [.one (.sl 1 (l0.map eS)), .one (.str s0)] (Is [] (.b (.one (.str r)))) := meets_Join Tryz.lays156 Tryz.Builder_Extra_156 h
def strings_HasPrefix_S (F : Nat) (s0 : Str) (p0 : Str) : Option Bool := some (Lib.hasPrefix s0 p0)
theorem strings_HasPrefix_spec {F : Nat} {s0 : Str} {p0 : Str} {r : Bool} (h : strings_HasPrefix_S F s0 p0 = some r) : Meets Tryz.prog (tabs mx) 71 [] [.one (.str s0), .one (.str p0)] (Is [] (B r)) := meets_HasPrefix Tryz.lays99 h
def strings_Cut_S (F : Nat) (s0 : Str) (p0 : Str) : Option (Str × Str × Bool) := cut? s0 p0
theorem strings_Cut_spec {F : Nat} {s0 : Str} {p0 : Str} {r : Str × Str × Bool} (h : strings_Cut_S F s0 p0 = some r) : Meets Tryz.prog (tabs mx) 31 [] [.one (.str s0), .one (.str p0)] (Is [] (.tup [.one (.str r.1), .one (.str r.2.1), .one (.bool r.2.2)])) := meets_Cut Tryz.laysM145 (m := mx) (by simp [tabs, Tryz.laysM145_ren]) h
def lite_IndexByte_S (F : Nat) (s0 : Str) (c0 : Int) : Option Int := indexByte? s0 c0
theorem lite_IndexByte_spec {F : Nat} {s0 : Str} {c0 : Int} {r : Int} (h : lite_IndexByte_S F s0 c0 = some r) : Meets Tryz.prog (tabs mx) 138 [] [.one (.str s0), .one (.int .u8 c0)] (Is [] (I r)) := meets_IndexByte Tryz.lays217 h
def strings_Count_S (F : Nat) (s0 : Str) (p0 : Str) : Option Int := count? s0 p0
theorem strings_Count_spec {F : Nat} {s0 : Str} {p0 : Str} {r : Int} (h : strings_Count_S F s0 p0 = some r) : Meets Tryz.prog (tabs mx) 54 [] [.one (.str s0), .one (.str p0)] (Is [] (I r)) := meets_Count Tryz.lays138 h
def atomic_b32_S (F : Nat) : Option Unit :=
 some ()
theorem atomic_b32_spec {F : Nat} {r : Unit} (h : atomic_b32_S F = some r) : Meets Tryz.prog (tabs mx) 185 [] [.one (.bool true)] (Is [] (.b (.one (.int .u32 1)))) := by
 unfold atomic_b32_S at h
 refine Meets.intro 4 Tryz.func185 Tryz.ntmps185 rfl (by simp) fun E => ?_
 show Tri _ E ⟨4, [], [], []⟩ _ ⟨[(0, B true)], []⟩ _
 refine Tri.seq (Tri.regionL ?_)
 refine Oc oa (OpsL.nilS ⟨[(0, B true)], []⟩ rfl (Tri.seq (Tri.seq (Tri.regionL ?_))))
 refine Oc om (OpsL.nilS ⟨[(3, B true)], []⟩ rfl (Tri.condT rfl (Tri.seq (Tri.regionL ?_))))
 refine Oc oa (OpsL.nilS ⟨[(2, .b (.one (.int .u32 1)))], []⟩ rfl (Tri.ret (Fin.then_ret ?_)))
 obtain rfl := Option.some.inj h
 refine Fin.keepS ⟨[(2, _)], []⟩ rfl (Fin.result' [.one (.int .u32 1)] (.inl rfl) rfl (.cons (.tmp rfl) .nil) ⟨rfl, rfl⟩)
def atomic_Load_S (F : Nat) (st : Int) (se : Int) (c3 : CP) (c4 : CP) : Option Unit :=
 some ()
theorem atomic_Load_spec {F : Nat} {st : Int} {se : Int} {c3 : CP} {c4 : CP} {r : Unit} (h : atomic_Load_S F st se c3 c4 = some r) : Meets Tryz.prog (tabs mx) 150 [(1, .box 159 [.int .u32 0, .int .i32 st, .int .u32 se, c3, c4])] [.ptr 1 0] (Is [(1, .box 159 [.int .u32 0, .int .i32 st, .int .u32 se, c3, c4])] (.b (.one (.bool false)))) := by
 unfold atomic_Load_S at h
 refine Meets.intro 8 Tryz.func150 Tryz.ntmps150 rfl (by simp) fun E => ?_
 show Tri _ E ⟨8, [1], [1], []⟩ _ ⟨[(0, Pt 1 0)], [(1, .box 159 [.int .u32 0, .int .i32 st, .int .u32 se, c3, c4])]⟩ _
 refine Tri.seq (Tri.regionL ?_)
 refine Oc oa (OpsL.nilS ⟨[(0, Pt 1 0)], [(1, .box 159 [.int .u32 0, .int .i32 st, .int .u32 se, c3, c4])]⟩ rfl (Tri.seq (Tri.regionL ?_)))
 refine Oc om (Oc (op_nilCheck_p rfl) (Oc (op_field_p tyFld149_1 rfl rfl) (Oc (op_aload ext171 rfl rfl rfl) (Oc (op_neq rfl rfl) (Oc oa ?_)))))
 refine OpsL.nilS ⟨[(2, B false)], [(1, _)]⟩ rfl (Tri.ret ?_)
 obtain rfl := Option.some.inj h
 refine Fin.keepS ⟨[(2, _)], [(1, _)]⟩ rfl ?_
 exact Fin.result [.one (.bool false)] (.inl rfl) rfl (.cons (.tmp rfl) .nil) ⟨rfl, rfl⟩
def atomic_Store_S (F : Nat) (d : Int) (st : Int) (se : Int) (c3 : CP) (c4 : CP) : Option Unit :=
 (atomic_b32_S F).bind fun u_1 => some ()
theorem atomic_Store_specD {F : Nat} {d : Int} {st : Int} {se : Int} {c3 : CP} {c4 : CP} {r : Unit} (h : atomic_Store_S F d st se c3 c4 = some r) : MeetsD Tryz.prog (tabs mx) 174 [(1, .box 159 [.int .u32 d, .int .i32 st, .int .u32 se, c3, c4])] [.ptr 1 0, .one (.bool true)] [(1, .box 159 [.int .u32 1, .int .i32 st, .int .u32 se, c3, c4])] := by
 unfold atomic_Store_S at h
 refine MeetsD.intro 10 Tryz.func174 Tryz.ntmps174 rfl (by simp) fun E => ?_
 show Tri _ E ⟨10, [1], [1], []⟩ _ ⟨[(0, Pt 1 0), (1, B true)], [(1, .box 159 [.int .u32 d, .int .i32 st, .int .u32 se, c3, c4])]⟩ _
 refine Tri.keepS ⟨[(0, Pt 1 0), (1, B true)], [(1, .box 159 [.int .u32 d, .int .i32 st, .int .u32 se, c3, c4])]⟩ rfl ?_
 obtain ⟨u_1, e1, h⟩ := bnd h
 refine Tri.regionYF mixed 5 [Pt 1 0, Pt 1 0, Pt 1 0, B true, .b (.one (.int .u32 1))] [] [1] (s' := ⟨[], [(1, .box 159 [.int .u32 1, .int .i32 st, .int .u32 se, c3, c4])]⟩) rfl ⟨fun _ => .p om, fun _ => .p (op_nilCheck_p rfl), fun _ => .p (op_field_p tyFld149_1 rfl rfl), fun _ => .p om, fun _ => .p (op_call0 (atomic_b32_spec e1) goes185 rfl rfl), trivial⟩ ⟨_, by exact .p (op_astore ext184 rfl rfl rfl rfl rfl), rfl⟩ rfl ?_
 obtain rfl := Option.some.inj h
 refine Fin.keepS ⟨[], [(1, _)]⟩ rfl ?_
 exact Fin.result [] (.inr rfl) rfl (.nil) ⟨rfl, rfl⟩
def isync_Lock_S (F : Nat) (d : Int) (se : Int) (c3 : CP) (c4 : CP) : Option Unit :=
 Option.bind (some ()) (fun _ => some ())
theorem isync_Lock_spec {F : Nat} {d : Int} {se : Int} {c3 : CP} {c4 : CP} {r : Unit} (h : isync_Lock_S F d se c3 c4 = some r) : Meets Tryz.prog (tabs mx) 182 [(1, .box 159 [.int .u32 d, .int .i32 0, .int .u32 se, c3, c4])] [.ptr 1 1] (Is [(1, .box 159 [.int .u32 d, .int .i32 1, .int .u32 se, c3, c4])] (.tup [])) := by
 unfold isync_Lock_S at h
 refine Meets.intro 13 Tryz.func182 Tryz.ntmps182 rfl (by simp) fun E => ?_
 show Tri _ E ⟨13, [1], [1], []⟩ _ ⟨[(0, Pt 1 1)], [(1, .box 159 [.int .u32 d, .int .i32 0, .int .u32 se, c3, c4])]⟩ _
 refine Tri.seq (Tri.regionL ?_)
 refine Oc (op_mark0 ext189) (OpsL.nilS ⟨[(0, Pt 1 1)], [(1, .box 159 [.int .u32 d, .int .i32 0, .int .u32 se, c3, c4])]⟩ rfl (Tri.seq (Tri.seq (Tri.regionL ?_))))
 refine Oc om (Oc (op_nilCheck_p rfl) (Oc (op_field_p tyFld151_0 rfl rfl) (Oc (op_cas ext190 rfl rfl rfl rfl rfl rfl) ?_)))
 refine OpsL.nilS ⟨[(0, _), (6, B true)], [(1, .box 159 [.int .u32 d, .int .i32 1, .int .u32 se, c3, c4])]⟩ rfl (Tri.condT rfl ?_)
 obtain ⟨v1, h2, h⟩ := bnd h
 refine Tri.seqJ (v := v1) (fun (_ : Unit) => ⟨[], [(1, .box 159 [.int .u32 d, .int .i32 1, .int .u32 se, c3, c4])]⟩) (fun z => z) ?_ ?_
 ·refine Tri.condTc (Tri.seq (Tri.regionL ?_))
  refine Oc (op_mark0 ext191) (OpsL.nilS ⟨[(0, _)], [(1, _)]⟩ rfl (Tri.regionL (Oc om (Oc (op_unsafe Tryz.underlying233 Tryz.underlying192 (by kernel_rfl) rfl rfl rfl) (Oc (op_marked ext192 rfl) ?_)))))
  refine OpsL.nil ?_
  exact Fin.join [] [1] () (Option.some.inj h2) rfl
 ·rintro _ hv
  subst v1
  refine Tri.ret (Fin.then_ret ?_)
  obtain rfl := Option.some.inj h
  refine Fin.keepS ⟨[], [(1, _)]⟩ rfl ?_
  exact Fin.result [] (.inl rfl) rfl (.nil) ⟨rfl, rfl⟩
def sync_Lock_S (F : Nat) (d : Int) (se : Int) (c3 : CP) (c4 : CP) : Option Unit :=
 (isync_Lock_S F d se c3 c4).bind fun u_1 => some ()
theorem sync_Lock_spec {F : Nat} {d : Int} {se : Int} {c3 : CP} {c4 : CP} {r : Unit} (h : sync_Lock_S F d se c3 c4 = some r) : Meets Tryz.prog (tabs mx) 172 [(1, .box 159 [.int .u32 d, .int .i32 0, .int .u32 se, c3, c4])] [.ptr 1 1] (Is [(1, .box 159 [.int .u32 d, .int .i32 1, .int .u32 se, c3, c4])] (.tup [])) := by
 unfold sync_Lock_S at h
 refine Meets.intro 6 Tryz.func172 Tryz.ntmps172 rfl (by simp) fun E => ?_
 show Tri _ E ⟨6, [1], [1], []⟩ _ ⟨[(0, Pt 1 1)], [(1, .box 159 [.int .u32 d, .int .i32 0, .int .u32 se, c3, c4])]⟩ _
 refine Tri.regionL (Oc om (Oc (op_nilCheck_p rfl) (Oc (op_field_p tyFld153_1 rfl rfl) ?_)))
 obtain ⟨u_1, e1, h⟩ := bnd h
 refine Oc (op_call (own_a := [(1, _)]) (isync_Lock_spec e1) goes182 rfl ⟨rfl, trivial⟩ rfl rfl) (OpsL.nil ?_)
 obtain rfl := Option.some.inj h
 refine Fin.keepS ⟨[], [(1, .box 159 [.int .u32 d, .int .i32 1, .int .u32 se, c3, c4])]⟩ rfl ?_
 exact Fin.result [] (.inr rfl) rfl (.nil) ⟨rfl, rfl⟩
def isync_Unlock_S (F : Nat) (d : Int) (se : Int) (c3 : CP) (c4 : CP) : Option Unit :=
 Option.bind (some ()) (fun _ => Option.bind (some ()) (fun _ => some ()))
theorem isync_Unlock_spec {F : Nat} {d : Int} {se : Int} {c3 : CP} {c4 : CP} {r : Unit} (h : isync_Unlock_S F d se c3 c4 = some r) : Meets Tryz.prog (tabs mx) 183 [(1, .box 159 [.int .u32 d, .int .i32 1, .int .u32 se, c3, c4])] [.ptr 1 1] (Is [(1, .box 159 [.int .u32 d, .int .i32 0, .int .u32 se, c3, c4])] (.tup [])) := by
 unfold isync_Unlock_S at h
 refine Meets.intro 21 Tryz.func183 Tryz.ntmps183 rfl (by simp) fun E => ?_
 show Tri _ E ⟨21, [1], [1], []⟩ _ ⟨[(0, Pt 1 1)], [(1, .box 159 [.int .u32 d, .int .i32 1, .int .u32 se, c3, c4])]⟩ _
 obtain ⟨v1, h2, h⟩ := bnd h
 refine Tri.seqJ (v := v1) (fun (_ : Unit) => ⟨[(0, Pt 1 1)], [(1, .box 159 [.int .u32 d, .int .i32 1, .int .u32 se, c3, c4])]⟩) (fun z => z) ?_ ?_
 ·refine Tri.condTc (Tri.seq (Tri.regionL ?_))
  refine Oc om (Oc (op_nilCheck_p rfl) (Oc (op_field_p tyFld151_0 rfl rfl) (Oc (op_load_p1 tyOne21 rfl rfl rfl) ?_)))
  refine OpsL.nilS ⟨[(0, Pt 1 1)], [(1, .box 159 [.int .u32 d, .int .i32 1, .int .u32 se, c3, c4])]⟩ rfl (Tri.seq (Tri.regionL ?_))
  refine Oc om (Oc (op_unsafe Tryz.underlying233 Tryz.underlying192 (by kernel_rfl) rfl rfl rfl) (Oc (op_marked ext194 rfl) ?_))
  refine OpsL.nilS ⟨[(0, _)], [(1, _)]⟩ rfl (Tri.regionL (Oc (op_mark0 ext189) (OpsL.nil ?_)))
  exact Fin.join [0] [1] () (Option.some.inj h2) rfl
 ·rintro _ hv
  subst v1
  refine Tri.seq (Tri.regionL ?_)
  refine Oc om (Oc (op_nilCheck_p rfl) (Oc (op_field_p tyFld151_0 rfl rfl) (Oc (op_aadd ext195 rfl rfl rfl rfl (r := 0) rfl ⟨by decide, by decide⟩ rfl) (Oc oa ?_))))
  refine OpsL.nilS ⟨[(0, _), (2, .b (.one (.int .i32 0)))], [(1, .box 159 [.int .u32 d, .int .i32 0, .int .u32 se, c3, c4])]⟩ rfl ?_
  obtain ⟨v3, h4, h⟩ := bnd h
  refine Tri.seqJ (v := v3) (fun (_ : Unit) => ⟨[], [(1, .box 159 [.int .u32 d, .int .i32 0, .int .u32 se, c3, c4])]⟩) (fun z => z) ?_ ?_
  ·refine Tri.seq (Tri.regionL ?_)
   refine Oc om (Oc (op_neq rfl rfl) ?_)
   refine OpsL.nilS ⟨[(0, _), (2, _), (16, B false)], [(1, _)]⟩ rfl (Tri.condF rfl (Tri.skip ?_))
   exact Fin.join [] [1] () (Option.some.inj h4) rfl
  ·rintro _ hv
   subst v3
   refine Tri.regionL (Oc (op_mark0 ext191) (OpsL.nil ?_))
   obtain rfl := Option.some.inj h
   refine Fin.keepS ⟨[], [(1, _)]⟩ rfl ?_
   exact Fin.result [] (.inr rfl) rfl (.nil) ⟨rfl, rfl⟩
def sync_Unlock_S (F : Nat) (d : Int) (se : Int) (c3 : CP) (c4 : CP) : Option Unit :=
 (isync_Unlock_S F d se c3 c4).bind fun u_1 => some ()
theorem sync_Unlock_specD {F : Nat} {d : Int} {se : Int} {c3 : CP} {c4 : CP} {r : Unit} (h : sync_Unlock_S F d se c3 c4 = some r) : MeetsD Tryz.prog (tabs mx) 173 [(1, .box 159 [.int .u32 d, .int .i32 1, .int .u32 se, c3, c4])] [.ptr 1 1] [(1, .box 159 [.int .u32 d, .int .i32 0, .int .u32 se, c3, c4])] := by
 unfold sync_Unlock_S at h
 refine MeetsD.intro 6 Tryz.func173 Tryz.ntmps173 rfl (by simp) fun E => ?_
 show Tri _ E ⟨6, [1], [1], []⟩ _ ⟨[(0, Pt 1 1)], [(1, .box 159 [.int .u32 d, .int .i32 1, .int .u32 se, c3, c4])]⟩ _
 refine Tri.regionL (Oc om (Oc (op_nilCheck_p rfl) (Oc (op_field_p tyFld153_1 rfl rfl) ?_)))
 obtain ⟨u_1, e1, h⟩ := bnd h
 refine Oc (op_call (own_a := [(1, _)]) (isync_Unlock_spec e1) goes183 rfl ⟨rfl, trivial⟩ rfl rfl) (OpsL.nil ?_)
 obtain rfl := Option.some.inj h
 refine Fin.keepS ⟨[], [(1, .box 159 [.int .u32 d, .int .i32 0, .int .u32 se, c3, c4])]⟩ rfl ?_
 exact Fin.result [] (.inr rfl) rfl (.nil) ⟨rfl, rfl⟩
def Replacer_build_S (F : Nat) (se : Int) : Option Unit :=
 Option.bind (Option.bind (some ()) (fun _ => Option.bind (some ()) (fun _ => some ()))) (fun _ => Option.bind (some ()) (fun _ => Option.bind (Option.bind (Option.bind (some ()) (fun _ => some ())) (fun _ => Option.bind (Option.bind (some ()) (fun _ => some ())) (fun _ => some ()))) (fun _ => some ())))
theorem Replacer_build_spec {F : Nat} {se : Int} {r : Unit} (h : Replacer_build_S F se = some r) : Meets Tryz.prog (tabs mx) 152 [(1, .box 159 [.int .u32 0, .int .i32 1, .int .u32 se, .raw .nilIface, .sl 1 ([[92], [92, 92], [34], [92, 34]].map eS)])] [.ptr 1 0] (Is [(1, .box 159 [.int .u32 0, .int .i32 1, .int .u32 se, .raw .nilIface, .sl 1 ([[92], [92, 92], [34], [92, 34]].map eS)])] (.b (.one (.ifp 212 (tabB escB [.sl 1 ([toStr [34], toStr [92]].map eS)]))))) := by
 unfold Replacer_build_S at h
 refine Meets.intro 132 Tryz.func152 Tryz.ntmps152 rfl (by simp) fun E => ?_
 show Tri _ E ⟨132, [1], [1], []⟩ _ ⟨[(0, Pt 1 0)], [(1, .box 159 [.int .u32 0, .int .i32 1, .int .u32 se, .raw .nilIface, .sl 1 ([[92], [92, 92], [34], [92, 34]].map eS)])]⟩ _
 refine Tri.seq (Tri.regionL ?_)
 refine Oc (op_nilif) (OpsL.nilS ⟨[(0, Pt 1 0)], [(1, .box 159 [.int .u32 0, .int .i32 1, .int .u32 se, .raw .nilIface, .sl 1 ([[92], [92, 92], [34], [92, 34]].map eS)])]⟩ rfl (Tri.seq (Tri.regionL ?_)))
 refine Oc om (Oc (op_nilCheck_p rfl) (Oc (op_field_p tyFld159_2 rfl rfl) (Oc (op_load_p1 tyOne44 rfl rfl rfl) (Oc oa ?_))))
 refine OpsL.nilS ⟨[(3, .b (.one (.sl 1 ([[92], [92, 92], [34], [92, 34]].map eS))))], [(1, _)]⟩ rfl (Tri.seq (Tri.seq (Tri.regionL ?_)))
 refine Oc om (Oc (op_len_e' und44 rfl (List.length_map _)) (Oc (op_eql rfl rfl) (Oc om ?_)))
 refine CgT false [] (fun g1 => trivial) (fun g1 => om) (CgT false [23] (fun g2 => by exact ⟨g2, trivial⟩) (fun g2 => op_index_e tySl44 (ix_lo (show idx? [[92], [92, 92], [34], [92, 34]] 0 = some [92] from rfl)) (ix_map (e := eS) (show idx? [[92], [92, 92], [34], [92, 34]] 0 = some [92] from rfl)) rfl rfl) (OpsL.keepS ⟨[(3, _), (22, B false), (24, .opt false (.eptr [.str [92]]))], [(1, _)]⟩ rfl (CgT false [24] (fun g3 => by exact ⟨g3, trivial⟩) (fun g3 => op_load_e1 tyOne9 rfl rfl) (CgT false [25] (fun g4 => by exact ⟨g4, trivial⟩) (fun g4 => op_len_str und9 rfl) (CgT false [26] (fun g5 => by exact ⟨g5, trivial⟩) (fun g5 => op_gtr rfl rfl) ?_)))))
 refine Oc (op_pick_and (fun e => e) rfl rfl rfl rfl) (OpsL.nilS ⟨[(3, _), (28, B false)], [(1, _)]⟩ rfl (Tri.condF rfl (Tri.skip (Fin.keepS ⟨[(3, _)], [(1, _)]⟩ rfl (Fin.then (Tri.seq (Tri.regionL ?_)))))))
 refine Oc oa (OpsL.nilS ⟨[(3, _), (4, B true)], [(1, _)]⟩ rfl ?_)
 obtain ⟨v6, h7, h⟩ := bnd h
 refine Tri.seqJ (v := v6) (fun (_ : Unit) => ⟨[(3, .b (.one (.sl 1 ([[92], [92, 92], [34], [92, 34]].map eS)))), (4, B false)], [(1, .box 159 [.int .u32 0, .int .i32 1, .int .u32 se, .raw .nilIface, .sl 1 ([[92], [92, 92], [34], [92, 34]].map eS)])]⟩) (fun z => z) ?_ ?_
 ·refine Tri.seq (Tri.regionL ?_)
  refine Oc oa (OpsL.nilS ⟨[(3, _), (4, _), (5, I 0)], [(1, _)]⟩ rfl (Tri.block (Tri.loopN 12 (Tri.seq (Tri.seq (Tri.regionL ?_))))))
  refine Oc om (Oc om (Oc (op_len_e' und44 rfl (List.length_map _)) (Oc (op_lss rfl rfl) ?_)))
  refine OpsL.nilS ⟨[(3, _), (4, _), (5, _), (40, B true)], [(1, _)]⟩ rfl (Tri.condT rfl (Tri.skip (Fin.keepS ⟨[(3, _), (4, _), (5, _)], [(1, _)]⟩ rfl (Fin.then ?_))))
  obtain ⟨v8, h9, h7⟩ := bnd h7
  refine Tri.seqJ (v := v8) (fun (_ : Unit) => ⟨[(3, .b (.one (.sl 1 ([[92], [92, 92], [34], [92, 34]].map eS)))), (4, B false), (5, I 0)], [(1, .box 159 [.int .u32 0, .int .i32 1, .int .u32 se, .raw .nilIface, .sl 1 ([[92], [92, 92], [34], [92, 34]].map eS)])]⟩) (fun z => z) ?_ ?_
  ·refine Tri.block (Tri.seq (Tri.seq (Tri.regionL ?_)))
   refine Oc om (Oc om (Oc (op_index_e tySl44 (ix_lo (show idx? [[92], [92, 92], [34], [92, 34]] 0 = some [92] from rfl)) (ix_map (e := eS) (show idx? [[92], [92, 92], [34], [92, 34]] 0 = some [92] from rfl)) rfl rfl) (Oc (op_load_e1 tyOne9 rfl rfl) (Oc (op_len_str und9 rfl) (Oc (op_neq rfl rfl) ?_)))))
   refine OpsL.nilS ⟨[(3, _), (4, _), (5, _), (48, B false)], [(1, _)]⟩ rfl (Tri.condF rfl (Tri.skip (Fin.keepS ⟨[(3, _), (4, _), (5, _)], [(1, _)]⟩ rfl (Fin.then (Tri.seq (Tri.regionL ?_))))))
   refine Oc om (Oc om (Oc (op_add rfl rfl) (Oc (op_index_e tySl44 (ix_lo (show idx? [[92], [92, 92], [34], [92, 34]] 1 = some [92, 92] from rfl)) (ix_map (e := eS) (show idx? [[92], [92, 92], [34], [92, 34]] 1 = some [92, 92] from rfl)) rfl rfl) (Oc (op_load_e1 tyOne9 rfl rfl) (Oc (op_len_str und9 rfl) ?_)))))
   refine Oc (op_neq rfl rfl) (OpsL.nilS ⟨[(3, _), (4, _), (5, _), (58, B true)], [(1, _)]⟩ rfl (Tri.condT rfl (Tri.regionL (Oc oa (OpsL.nil ?_)))))
   refine Fin.block_normal ?_
   exact Fin.join [3, 4, 5] [1] () (Option.some.inj h9) rfl
  ·rintro _ hv
   subst v8
   refine Tri.regionL (Oc om (Oc (op_add rfl rfl) (Oc oa ?_)))
   refine OpsL.nil (Fin.keepS ⟨[(3, _), (4, _), (5, I 2)], [(1, _)]⟩ rfl (Fin.round (Tri.seq (Tri.seq (Tri.regionL ?_)))))
   refine Oc om (Oc om (Oc (op_len_e' und44 rfl (List.length_map _)) (Oc (op_lss rfl rfl) ?_)))
   refine OpsL.nilS ⟨[(3, _), (4, _), (5, _), (40, B true)], [(1, _)]⟩ rfl (Tri.condT rfl (Tri.skip (Fin.keepS ⟨[(3, _), (4, _), (5, _)], [(1, _)]⟩ rfl (Fin.then ?_))))
   obtain ⟨v10, h11, h7⟩ := bnd h7
   refine Tri.seqJ (v := v10) (fun (_ : Unit) => ⟨[(3, .b (.one (.sl 1 ([[92], [92, 92], [34], [92, 34]].map eS)))), (4, B false), (5, I 2)], [(1, .box 159 [.int .u32 0, .int .i32 1, .int .u32 se, .raw .nilIface, .sl 1 ([[92], [92, 92], [34], [92, 34]].map eS)])]⟩) (fun z => z) ?_ ?_
   ·refine Tri.block (Tri.seq (Tri.seq (Tri.regionL ?_)))
    refine Oc om (Oc om (Oc (op_index_e tySl44 (ix_lo (show idx? [[92], [92, 92], [34], [92, 34]] 2 = some [34] from rfl)) (ix_map (e := eS) (show idx? [[92], [92, 92], [34], [92, 34]] 2 = some [34] from rfl)) rfl rfl) (Oc (op_load_e1 tyOne9 rfl rfl) (Oc (op_len_str und9 rfl) (Oc (op_neq rfl rfl) ?_)))))
    refine OpsL.nilS ⟨[(3, _), (4, _), (5, _), (48, B false)], [(1, _)]⟩ rfl (Tri.condF rfl (Tri.skip (Fin.keepS ⟨[(3, _), (4, _), (5, _)], [(1, _)]⟩ rfl (Fin.then (Tri.seq (Tri.regionL ?_))))))
    refine Oc om (Oc om (Oc (op_add rfl rfl) (Oc (op_index_e tySl44 (ix_lo (show idx? [[92], [92, 92], [34], [92, 34]] 3 = some [92, 34] from rfl)) (ix_map (e := eS) (show idx? [[92], [92, 92], [34], [92, 34]] 3 = some [92, 34] from rfl)) rfl rfl) (Oc (op_load_e1 tyOne9 rfl rfl) (Oc (op_len_str und9 rfl) ?_)))))
    refine Oc (op_neq rfl rfl) (OpsL.nilS ⟨[(3, _), (4, _), (5, _), (58, B true)], [(1, _)]⟩ rfl (Tri.condT rfl (Tri.regionL (Oc oa (OpsL.nil ?_)))))
    refine Fin.block_normal ?_
    exact Fin.join [3, 4, 5] [1] () (Option.some.inj h11) rfl
   ·rintro _ hv
    subst v10
    refine Tri.regionL (Oc om (Oc (op_add rfl rfl) (Oc oa ?_)))
    refine OpsL.nil (Fin.keepS ⟨[(3, _), (4, _), (5, I 4)], [(1, _)]⟩ rfl (Fin.round (Tri.seq (Tri.seq (Tri.regionL ?_)))))
    refine Oc om (Oc om (Oc (op_len_e' und44 rfl (List.length_map _)) (Oc (op_lss rfl rfl) ?_)))
    refine OpsL.nilS ⟨[(3, _), (4, _), (5, _), (40, B false)], [(1, _)]⟩ rfl (Tri.condF rfl (Tri.exit (Fin.then_exit (Fin.then_exit (Fin.block_exit ?_)))))
    exact Fin.join [3, 4] [1] () (Option.some.inj h7) rfl
 ·rintro _ hv
  subst v6
  obtain ⟨v12, h13, h⟩ := bnd h
  refine Tri.seqJ (v := v12) (fun (_ : Unit) => ⟨[(3, .b (.one (.sl 1 ([[92], [92, 92], [34], [92, 34]].map eS))))], [(1, .box 159 [.int .u32 0, .int .i32 1, .int .u32 se, .raw .nilIface, .sl 1 ([[92], [92, 92], [34], [92, 34]].map eS)])]⟩) (fun z => z) ?_ ?_
  ·refine Tri.seq (Tri.regionL ?_)
   refine Oc om (OpsL.nilS ⟨[(3, _), (59, B false)], [(1, _)]⟩ rfl (Tri.condF rfl (Tri.skip ?_)))
   exact Fin.join [3] [1] () (Option.some.inj h13) rfl
  ·rintro _ hv
   subst v12
   refine Tri.seq (Tri.regionL ?_)
   refine Oc om (Oc (op_len_e' und44 rfl (List.length_map _)) (Oc (op_quo2 (show quo? .i64 4 2 = some 2 from rfl) rfl rfl) (Oc (op_makeSlice (k := 101) (enc := eS) tySl44 (show mk? ([] : Str) 0 2 = some [] from rfl) (by decide) (.cons .refl .nil) rfl rfl rfl) (Oc (op_build_x tyBuild211 rfl rfl) (Oc (op_alloc (k := 102) tyZero211 rfl) ?_)))))
   refine OpsL.toX 102 rfl (Oc (op_store_xx tyAgg211 rfl rfl rfl rfl rfl (Nat.le_of_ble_eq_true rfl) rfl) (OpsL.nilS ⟨[(3, .b (.one (.sl 1 ([[92], [92, 92], [34], [92, 34]].map eS)))), (11, Pt 102 0)], [(1, .box 159 [.int .u32 0, .int .i32 1, .int .u32 se, .raw .nilIface, .sl 1 ([[92], [92, 92], [34], [92, 34]].map eS)]), (101, .row 9 1 ([].map eS)), (102, .xbox 211 (List.replicate 256 (BV.one CP.nil) ++ [.row 101]))]⟩ rfl ?_))
   obtain ⟨v14, h15, h⟩ := bnd h
   refine Tri.seqJ (v := v14) (fun (_ : Unit) => ⟨[(11, Pt 102 0)], [(1, .box 159 [.int .u32 0, .int .i32 1, .int .u32 se, .raw .nilIface, .sl 1 ([[92], [92, 92], [34], [92, 34]].map eS)]), (101, .row 9 1 ([toStr [34], toStr [92]].map eS)), (102, .xbox 211 (((List.replicate 256 (BV.one CP.nil)).set 34 (.one (.sl 1 ((ofStr [92, 34]).map (eK .u8))))).set 92 (.one (.sl 1 ((ofStr [92, 92]).map (eK .u8)))) ++ [.row 101]))]⟩) (fun z => z) ?_ ?_
   ·refine Tri.seq (Tri.regionL ?_)
    refine Oc om (Oc (op_len_e' und44 rfl (List.length_map _)) (Oc (op_sub rfl rfl) (Oc oa ?_)))
    refine OpsL.nilS ⟨[(3, _), (11, _), (12, I 2)], [(1, _), (101, _), (102, _)]⟩ rfl (Tri.block (Tri.loopN 12 (Tri.seq (Tri.seq (Tri.regionL ?_)))))
    refine Oc om (Oc (op_geq rfl rfl) ?_)
    refine OpsL.nilS ⟨[(3, _), (11, _), (12, _), (100, B true)], [(1, _), (101, _), (102, _)]⟩ rfl (Tri.condT rfl (Tri.skip (Fin.keepS ⟨[(3, _), (11, _), (12, _)], [(1, _), (101, _), (102, _)]⟩ rfl (Fin.then ?_))))
    obtain ⟨v16, h17, h15⟩ := bnd h15
    refine Tri.seqJ (v := v16) (fun (_ : Unit) => ⟨[(3, .b (.one (.sl 1 ([[92], [92, 92], [34], [92, 34]].map eS)))), (11, Pt 102 0), (12, I 2)], [(1, .box 159 [.int .u32 0, .int .i32 1, .int .u32 se, .raw .nilIface, .sl 1 ([[92], [92, 92], [34], [92, 34]].map eS)]), (101, .row 9 1 ([toStr [34]].map eS)), (102, .xbox 211 ((List.replicate 256 (BV.one CP.nil)).set 34 (.one (.sl 1 ((ofStr [92, 34]).map (eK .u8)))) ++ [.row 101]))]⟩) (fun z => z) ?_ ?_
    ·refine Tri.block (Tri.seq (Tri.regionL ?_))
     refine Oc om (Oc om (Oc (op_index_e tySl44 (ix_lo (show idx? [[92], [92, 92], [34], [92, 34]] 2 = some [34] from rfl)) (ix_map (e := eS) (show idx? [[92], [92, 92], [34], [92, 34]] 2 = some [34] from rfl)) rfl rfl) (Oc (op_load_e1 tyOne9 rfl rfl) (Oc (op_index_str und9 rfl rfl (ix_lo (show idx? ([34] : Str) 0 = some 34 from rfl)) (ix_get (show idx? ([34] : Str) 0 = some 34 from rfl))) (Oc oa ?_)))))
     refine OpsL.nilS ⟨[(3, _), (11, _), (12, _), (13, .b (.one (.int .u8 34)))], [(1, _), (101, _), (102, _)]⟩ rfl (Tri.seq (Tri.regionL ?_))
     refine Oc om (Oc om (Oc (op_add rfl rfl) (Oc (op_index_e tySl44 (ix_lo (show idx? [[92], [92, 92], [34], [92, 34]] 3 = some [92, 34] from rfl)) (ix_map (e := eS) (show idx? [[92], [92, 92], [34], [92, 34]] 3 = some [92, 34] from rfl)) rfl rfl) (Oc (op_load_e1 tyOne9 rfl rfl) (Oc oa ?_)))))
     refine OpsL.nilS ⟨[(3, _), (11, _), (12, _), (13, _), (14, .b (.one (.str [92, 34])))], [(1, _), (101, _), (102, _)]⟩ rfl ?_
     obtain ⟨v18, h19, h17⟩ := bnd h17
     refine Tri.seqJ (v := v18) (fun (_ : Unit) => ⟨[(3, .b (.one (.sl 1 ([[92], [92, 92], [34], [92, 34]].map eS)))), (11, Pt 102 0), (12, I 2), (13, .b (.one (.int .u8 34))), (14, .b (.one (.str [92, 34])))], [(1, .box 159 [.int .u32 0, .int .i32 1, .int .u32 se, .raw .nilIface, .sl 1 ([[92], [92, 92], [34], [92, 34]].map eS)]), (101, .row 9 1 ([toStr [34]].map eS)), (102, .xbox 211 (List.replicate 256 (BV.one CP.nil) ++ [.row 101]))]⟩) (fun z => z) ?_ ?_
     ·refine Tri.seq (Tri.regionL ?_)
      refine Oc om (Oc (op_field_p tyFld211_0 rfl rfl) (Oc (op_index_p tyArr209 (by decide) (by decide) rfl rfl rfl) (Oc (op_load_x1 tyOne50 rfl rfl rfl) (Oc (op_eqnil_n und50 rfl) ?_))))
      refine OpsL.nilS ⟨[(3, _), (11, _), (12, _), (13, _), (14, _), (117, B true)], [(1, _), (101, _), (102, _)]⟩ rfl (Tri.condT rfl (Tri.regionL (Oc (op_field_p tyFld211_1 rfl rfl) (Oc (op_load_x1 tyOne44 rfl rfl rfl) (Oc om (Oc (op_buildSlice (k := 103) (es := [34].map (eK .u8)) tySl50 rfl rfl (uni_map fun _ => rfl) rfl (by decide) (by decide) rfl) ?_))))))
      refine OpsL.persist 103 rfl (OpsL.keepS ⟨[(3, .b (.one (.sl 1 ([[92], [92, 92], [34], [92, 34]].map eS)))), (11, Pt 102 0), (12, I 2), (13, .b (.one (.int .u8 34))), (14, .b (.one (.str [92, 34]))), (119, .b (.row 101)), (121, .b (.one (.sl 1 ([34].map (eK .u8)))))], [(1, .box 159 [.int .u32 0, .int .i32 1, .int .u32 se, .raw .nilIface, .sl 1 ([[92], [92, 92], [34], [92, 34]].map eS)]), (101, .row 9 1 ([].map eS)), (102, .xbox 211 (List.replicate 256 (BV.one CP.nil) ++ [.row 101]))]⟩ rfl (Oc (op_conv_bytes und50 undi5 und9 rfl) (Oc (op_buildSlice (k := 104) (es := [toStr [34]].map eS) tySl44 rfl rfl (uni_map fun _ => rfl) rfl (by decide) (by decide) rfl) ?_)))
      refine OpsL.forget 102 256 rfl (Oc (op_append_r tySl44 (app_b (show app? [] [toStr [34]] = some [toStr [34]] from rfl)) (app_m (show app? [] [toStr [34]] = some [toStr [34]] from rfl)) rfl rfl rfl rfl (app_map (show app? [] [toStr [34]] = some [toStr [34]] from rfl)) rfl) (Oc (op_field_p tyFld211_1 rfl rfl) (Oc (op_store_x1 tyOne44 rfl rfl rfl rfl (Nat.le_of_ble_eq_true rfl) rfl) ?_)))
      refine OpsL.nil ?_
      exact Fin.join [3, 11, 12, 13, 14] [1, 101, 102] () (Option.some.inj h19) rfl
     ·rintro _ hv
      subst v18
      refine Tri.regionL (Oc om (Oc om (Oc (op_conv_str und9 und50 undi5 rfl) (Oc (op_field_p tyFld211_0 rfl rfl) (Oc (op_index_p tyArr209 (by decide) (by decide) rfl rfl rfl) (Oc (op_store_x1 tyOne50 rfl rfl rfl rfl (Nat.le_of_ble_eq_true rfl) rfl) ?_))))))
      refine OpsL.nil (Fin.block_normal ?_)
      exact Fin.join [3, 11, 12] [1, 101, 102] () (Option.some.inj h17) rfl
    ·rintro _ hv
     subst v16
     refine Tri.regionL (Oc om (Oc (op_sub rfl rfl) (Oc oa ?_)))
     refine OpsL.nil (Fin.keepS ⟨[(3, _), (11, _), (12, I 0)], [(1, _), (101, _), (102, _)]⟩ rfl (Fin.round (Tri.seq (Tri.seq (Tri.regionL ?_)))))
     refine Oc om (Oc (op_geq rfl rfl) ?_)
     refine OpsL.nilS ⟨[(3, _), (11, _), (12, _), (100, B true)], [(1, _), (101, _), (102, _)]⟩ rfl (Tri.condT rfl (Tri.skip (Fin.keepS ⟨[(3, _), (11, _), (12, _)], [(1, _), (101, _), (102, _)]⟩ rfl (Fin.then ?_))))
     obtain ⟨v20, h21, h15⟩ := bnd h15
     refine Tri.seqJ (v := v20) (fun (_ : Unit) => ⟨[(3, .b (.one (.sl 1 ([[92], [92, 92], [34], [92, 34]].map eS)))), (11, Pt 102 0), (12, I 0)], [(1, .box 159 [.int .u32 0, .int .i32 1, .int .u32 se, .raw .nilIface, .sl 1 ([[92], [92, 92], [34], [92, 34]].map eS)]), (101, .row 9 1 ([toStr [34], toStr [92]].map eS)), (102, .xbox 211 (((List.replicate 256 (BV.one CP.nil)).set 34 (.one (.sl 1 ((ofStr [92, 34]).map (eK .u8))))).set 92 (.one (.sl 1 ((ofStr [92, 92]).map (eK .u8)))) ++ [.row 101]))]⟩) (fun z => z) ?_ ?_
     ·refine Tri.block (Tri.seq (Tri.regionL ?_))
      refine Oc om (Oc om (Oc (op_index_e tySl44 (ix_lo (show idx? [[92], [92, 92], [34], [92, 34]] 0 = some [92] from rfl)) (ix_map (e := eS) (show idx? [[92], [92, 92], [34], [92, 34]] 0 = some [92] from rfl)) rfl rfl) (Oc (op_load_e1 tyOne9 rfl rfl) (Oc (op_index_str und9 rfl rfl (ix_lo (show idx? ([92] : Str) 0 = some 92 from rfl)) (ix_get (show idx? ([92] : Str) 0 = some 92 from rfl))) (Oc oa ?_)))))
      refine OpsL.nilS ⟨[(3, _), (11, _), (12, _), (13, .b (.one (.int .u8 92)))], [(1, _), (101, _), (102, _)]⟩ rfl (Tri.seq (Tri.regionL ?_))
      refine Oc om (Oc om (Oc (op_add rfl rfl) (Oc (op_index_e tySl44 (ix_lo (show idx? [[92], [92, 92], [34], [92, 34]] 1 = some [92, 92] from rfl)) (ix_map (e := eS) (show idx? [[92], [92, 92], [34], [92, 34]] 1 = some [92, 92] from rfl)) rfl rfl) (Oc (op_load_e1 tyOne9 rfl rfl) (Oc oa ?_)))))
      refine OpsL.nilS ⟨[(3, _), (11, _), (12, _), (13, _), (14, .b (.one (.str [92, 92])))], [(1, _), (101, _), (102, _)]⟩ rfl ?_
      obtain ⟨v22, h23, h21⟩ := bnd h21
      refine Tri.seqJ (v := v22) (fun (_ : Unit) => ⟨[(3, .b (.one (.sl 1 ([[92], [92, 92], [34], [92, 34]].map eS)))), (11, Pt 102 0), (12, I 0), (13, .b (.one (.int .u8 92))), (14, .b (.one (.str [92, 92])))], [(1, .box 159 [.int .u32 0, .int .i32 1, .int .u32 se, .raw .nilIface, .sl 1 ([[92], [92, 92], [34], [92, 34]].map eS)]), (101, .row 9 1 ([toStr [34], toStr [92]].map eS)), (102, .xbox 211 ((List.replicate 256 (BV.one CP.nil)).set 34 (.one (.sl 1 ((ofStr [92, 34]).map (eK .u8)))) ++ [.row 101]))]⟩) (fun z => z) ?_ ?_
      ·refine Tri.seq (Tri.regionL ?_)
       refine Oc om (Oc (op_field_p tyFld211_0 rfl rfl) (Oc (op_index_p tyArr209 (by decide) (by decide) rfl rfl rfl) (Oc (op_load_x1 tyOne50 rfl rfl rfl) (Oc (op_eqnil_n und50 rfl) ?_))))
       refine OpsL.nilS ⟨[(3, _), (11, _), (12, _), (13, _), (14, _), (117, B true)], [(1, _), (101, _), (102, _)]⟩ rfl (Tri.condT rfl (Tri.regionL (Oc (op_field_p tyFld211_1 rfl rfl) (Oc (op_load_x1 tyOne44 rfl rfl rfl) (Oc om (Oc (op_buildSlice (k := 105) (es := [92].map (eK .u8)) tySl50 rfl rfl (uni_map fun _ => rfl) rfl (by decide) (by decide) rfl) ?_))))))
       refine OpsL.persist 105 rfl (OpsL.keepS ⟨[(3, .b (.one (.sl 1 ([[92], [92, 92], [34], [92, 34]].map eS)))), (11, Pt 102 0), (12, I 0), (13, .b (.one (.int .u8 92))), (14, .b (.one (.str [92, 92]))), (119, .b (.row 101)), (121, .b (.one (.sl 1 ([92].map (eK .u8)))))], [(1, .box 159 [.int .u32 0, .int .i32 1, .int .u32 se, .raw .nilIface, .sl 1 ([[92], [92, 92], [34], [92, 34]].map eS)]), (101, .row 9 1 ([toStr [34]].map eS)), (102, .xbox 211 ((List.replicate 256 (BV.one CP.nil)).set 34 (.one (.sl 1 ((ofStr [92, 34]).map (eK .u8)))) ++ [.row 101]))]⟩ rfl (Oc (op_conv_bytes und50 undi5 und9 rfl) (Oc (op_buildSlice (k := 106) (es := [toStr [92]].map eS) tySl44 rfl rfl (uni_map fun _ => rfl) rfl (by decide) (by decide) rfl) ?_)))
       refine OpsL.forget 102 256 rfl (Oc (op_append_r tySl44 (app_b (show app? [toStr [34]] [toStr [92]] = some [toStr [34], toStr [92]] from rfl)) (app_m (show app? [toStr [34]] [toStr [92]] = some [toStr [34], toStr [92]] from rfl)) rfl rfl rfl rfl (app_map (show app? [toStr [34]] [toStr [92]] = some [toStr [34], toStr [92]] from rfl)) rfl) (Oc (op_field_p tyFld211_1 rfl rfl) (Oc (op_store_x1 tyOne44 rfl rfl rfl rfl (Nat.le_of_ble_eq_true rfl) rfl) ?_)))
       refine OpsL.nil ?_
       exact Fin.join [3, 11, 12, 13, 14] [1, 101, 102] () (Option.some.inj h23) rfl
      ·rintro _ hv
       subst v22
       refine Tri.regionL (Oc om (Oc om (Oc (op_conv_str und9 und50 undi5 rfl) (Oc (op_field_p tyFld211_0 rfl rfl) (Oc (op_index_p tyArr209 (by decide) (by decide) rfl rfl rfl) (Oc (op_store_x1 tyOne50 rfl rfl rfl rfl (Nat.le_of_ble_eq_true rfl) rfl) ?_))))))
       refine OpsL.nil (Fin.block_normal ?_)
       exact Fin.join [3, 11, 12] [1, 101, 102] () (Option.some.inj h21) rfl
     ·rintro _ hv
      subst v20
      refine Tri.regionL (Oc om (Oc (op_sub rfl rfl) (Oc oa ?_)))
      refine OpsL.nil (Fin.keepS ⟨[(3, _), (11, _), (12, I (-2))], [(1, _), (101, _), (102, _)]⟩ rfl (Fin.round (Tri.seq (Tri.seq (Tri.regionL ?_)))))
      refine Oc om (Oc (op_geq rfl rfl) ?_)
      refine OpsL.nilS ⟨[(3, _), (11, _), (12, _), (100, B false)], [(1, _), (101, _), (102, _)]⟩ rfl (Tri.condF rfl (Tri.exit (Fin.then_exit (Fin.then_exit (Fin.block_exit ?_)))))
      exact Fin.join [11] [1, 101, 102] () (Option.some.inj h15) rfl
   ·rintro _ hv
    subst v14
    refine Tri.seq (Tri.regionL ?_)
    refine OpsL.persist 101 rfl (OpsL.unX 102 rfl rfl (OpsL.persistB 102 rfl (Oc ((op_iface_e conc212 rfl).weak (fun _ _ _ h => tab_rel h)) (Oc oa ?_))))
    refine OpsL.nilS ⟨[(2, .b (.one (.ifp 212 (tabB escB [.sl 1 ([toStr [34], toStr [92]].map eS)]))))], [(1, .box 159 [.int .u32 0, .int .i32 1, .int .u32 se, .raw .nilIface, .sl 1 ([[92], [92, 92], [34], [92, 34]].map eS)])]⟩ rfl (Tri.ret ?_)
    obtain rfl := Option.some.inj h
    refine Fin.keepS ⟨[(2, _)], [(1, _)]⟩ rfl ?_
    exact Fin.result [.one (.ifp 212 (tabB escB [.sl 1 ([toStr [34], toStr [92]].map eS)]))] (.inl rfl) rfl (.cons (.tmp rfl) .nil) ⟨rfl, rfl⟩
def Replacer_buildOnce_S (F : Nat) (se : Int) : Option Unit :=
 (Replacer_build_S F se).bind fun u_1 => some ()
theorem Replacer_buildOnce_spec {F : Nat} {se : Int} {r : Unit} (h : Replacer_buildOnce_S F se = some r) : Meets Tryz.prog (tabs mx) 118 [(1, .box 159 [.int .u32 0, .int .i32 1, .int .u32 se, .raw .nilIface, .sl 1 ([[92], [92, 92], [34], [92, 34]].map eS)])] [.ptr 1 0] (Is [(1, .box 159 [.int .u32 0, .int .i32 1, .int .u32 se, .ifp 212 (tabB escB [.sl 1 ([toStr [34], toStr [92]].map eS)]), .sl 1 ([].map eS)])] (.tup [])) := by
 unfold Replacer_buildOnce_S at h
 refine Meets.intro 10 Tryz.func118 Tryz.ntmps118 rfl (by simp) fun E => ?_
 show Tri _ E ⟨10, [1], [1], []⟩ _ ⟨[(0, Pt 1 0)], [(1, .box 159 [.int .u32 0, .int .i32 1, .int .u32 se, .raw .nilIface, .sl 1 ([[92], [92, 92], [34], [92, 34]].map eS)])]⟩ _
 refine Tri.seq (Tri.regionL ?_)
 refine Oc om (Oc om ?_)
 obtain ⟨u_1, e1, h⟩ := bnd h
 refine Oc (op_call (own_a := [(1, _)]) (Replacer_build_spec e1) goes152 rfl ⟨rfl, trivial⟩ rfl rfl) (Oc (op_nilCheck_p rfl) (Oc (op_field_p tyFld159_1 rfl rfl) (Oc (op_store_p1 tyOne157 rfl rfl rfl (Nat.le_of_ble_eq_true rfl) rfl) ?_)))
 refine OpsL.nilS ⟨[(0, Pt 1 0)], [(1, .box 159 [.int .u32 0, .int .i32 1, .int .u32 se, .ifp 212 (tabB escB [.sl 1 ([toStr [34], toStr [92]].map eS)]), .sl 1 ([[92], [92, 92], [34], [92, 34]].map eS)])]⟩ rfl (Tri.regionL (Oc om (Oc (op_nilCheck_p rfl) (Oc (op_field_p tyFld159_2 rfl rfl) (Oc (op_store_p1 tyOne44 rfl rfl rfl (Nat.le_of_ble_eq_true rfl) rfl) ?_)))))
 refine OpsL.nil ?_
 obtain rfl := Option.some.inj h
 refine Fin.keepS ⟨[], [(1, .box 159 [.int .u32 0, .int .i32 1, .int .u32 se, .ifp 212 (tabB escB [.sl 1 ([toStr [34], toStr [92]].map eS)]), .nil])]⟩ rfl (Fin.nilbox 1 4 1 rfl rfl (by decide) (Fin.keepS ⟨[], [(1, .box 159 [.int .u32 0, .int .i32 1, .int .u32 se, .ifp 212 (tabB escB [.sl 1 ([toStr [34], toStr [92]].map eS)]), .sl 1 ([].map eS)])]⟩ rfl ?_))
 exact Fin.result [] (.inr rfl) rfl (.nil) ⟨rfl, rfl⟩
def Once_doSlow_S (F : Nat) (se : Int) : Option Unit :=
 (sync_Lock_S F 0 se (.raw .nilIface) (.sl 1 ([[92], [92, 92], [34], [92, 34]].map eS))).bind fun u_1 => (atomic_Load_S F 1 se (.raw .nilIface) (.sl 1 ([[92], [92, 92], [34], [92, 34]].map eS))).bind fun u_2 => (Replacer_buildOnce_S F se).bind fun u_3 => some ()
theorem Once_doSlow_spec {F : Nat} {se : Int} {r : Unit} (h : Once_doSlow_S F se = some r) : Meets Tryz.prog (tabs mx) 151 [(1, .box 159 [.int .u32 0, .int .i32 0, .int .u32 se, .raw .nilIface, .sl 1 ([[92], [92, 92], [34], [92, 34]].map eS)])] [.ptr 1 0, .clo 118 [.ptr 1 0] []] (Is [(1, .box 159 [.int .u32 1, .int .i32 0, .int .u32 se, .ifp 212 (tabB escB [.sl 1 ([toStr [34], toStr [92]].map eS)]), .sl 1 ([].map eS)])] (.tup [])) := by
 unfold Once_doSlow_S at h
 refine Meets.introD 21 Tryz.func151 Tryz.ntmps151 rfl (by simp) fun E => ?_
 show Tri _ E ⟨21, [1], [1], []⟩ _ ⟨[(0, Pt 1 0), (1, .b (.clo 118 [.ptr 1 0] []))], [(1, .box 159 [.int .u32 0, .int .i32 0, .int .u32 se, .raw .nilIface, .sl 1 ([[92], [92, 92], [34], [92, 34]].map eS)])]⟩ _
 refine Tri.seq (Tri.regionL ?_)
 refine Oc om (Oc (op_nilCheck_p rfl) (Oc (op_field_p tyFld155_2 rfl rfl) ?_))
 obtain ⟨u_1, e1, h⟩ := bnd h
 refine Oc (op_call (own_a := [(1, _)]) (sync_Lock_spec e1) goes172 rfl ⟨rfl, trivial⟩ rfl rfl) (OpsL.nilS ⟨[(0, Pt 1 0), (1, .b (.clo 118 [.ptr 1 0] []))], [(1, .box 159 [.int .u32 0, .int .i32 1, .int .u32 se, .raw .nilIface, .sl 1 ([[92], [92, 92], [34], [92, 34]].map eS)])]⟩ rfl (Tri.seq (Tri.regionL ?_)))
 refine Oc om (Oc (op_nilCheck_p rfl) (Oc (op_field_p tyFld155_2 rfl rfl) ?_))
 refine OpsL.deferF (das := [.ptr 1 1]) rfl rfl (OpsL.nilS ⟨[(0, _), (1, _)], [(1, _)]⟩ rfl (Tri.seq (Tri.regionL ?_)))
 refine Oc om (Oc (op_nilCheck_p rfl) (Oc (op_field_p tyFld155_1 rfl rfl) ?_))
 obtain ⟨u_2, e2, h⟩ := bnd h
 refine Oc (op_call (own_a := [(1, _)]) (atomic_Load_spec e2) goes150 rfl ⟨rfl, trivial⟩ rfl rfl) (Oc (op_not rfl) ?_)
 refine OpsL.nilS ⟨[(0, _), (1, _), (15, B true)], [(1, _)]⟩ rfl (Tri.condT rfl (Tri.seq (Tri.regionL ?_)))
 refine Oc om (Oc (op_nilCheck_p rfl) (Oc (op_field_p tyFld155_1 rfl rfl) ?_))
 refine OpsL.deferF (das := [.ptr 1 0, .bool true]) rfl rfl (OpsL.nilS ⟨[(1, _)], [(1, _)]⟩ rfl (Tri.regionL (Oc om ?_)))
 obtain ⟨u_3, e3, h⟩ := bnd h
 refine Oc (op_callc (own_a := [(1, _)]) (Replacer_buildOnce_spec e3) goes118 rfl rfl rfl ⟨rfl, trivial⟩ rfl rfl) (OpsL.nil (Fin.runD (own_a := [(1, _)]) (.inr rfl) (atomic_Store_specD (F := 0) (r := ()) rfl) goes174 rfl ⟨rfl, trivial⟩ rfl rfl (Fin.runD (own_a := [(1, _)]) (.inl rfl) (sync_Unlock_specD (F := 0) (r := ()) rfl) goes173 rfl ⟨rfl, trivial⟩ rfl rfl (Fin.retD (.inl rfl) rfl ?_))))
 obtain rfl := Option.some.inj h
 refine Fin.keepS ⟨[], [(1, .box 159 [.int .u32 1, .int .i32 0, .int .u32 se, .ifp 212 (tabB escB [.sl 1 ([toStr [34], toStr [92]].map eS)]), .sl 1 ([].map eS)])]⟩ rfl ?_
 exact Fin.result [] (.inl rfl) rfl (.nil) ⟨rfl, rfl⟩
def Once_Do_S (F : Nat) (se : Int) : Option Unit :=
 (atomic_Load_S F 0 se (.raw .nilIface) (.sl 1 ([[92], [92, 92], [34], [92, 34]].map eS))).bind fun u_1 => (Once_doSlow_S F se).bind fun u_2 => some ()
theorem Once_Do_spec {F : Nat} {se : Int} {r : Unit} (h : Once_Do_S F se = some r) : Meets Tryz.prog (tabs mx) 117 [(1, .box 159 [.int .u32 0, .int .i32 0, .int .u32 se, .raw .nilIface, .sl 1 ([[92], [92, 92], [34], [92, 34]].map eS)])] [.ptr 1 0, .clo 118 [.ptr 1 0] []] (Is [(1, .box 159 [.int .u32 1, .int .i32 0, .int .u32 se, .ifp 212 (tabB escB [.sl 1 ([toStr [34], toStr [92]].map eS)]), .sl 1 ([].map eS)])] (.tup [])) := by
 unfold Once_Do_S at h
 refine Meets.intro 12 Tryz.func117 Tryz.ntmps117 rfl (by simp) fun E => ?_
 show Tri _ E ⟨12, [1], [1], []⟩ _ ⟨[(0, Pt 1 0), (1, .b (.clo 118 [.ptr 1 0] []))], [(1, .box 159 [.int .u32 0, .int .i32 0, .int .u32 se, .raw .nilIface, .sl 1 ([[92], [92, 92], [34], [92, 34]].map eS)])]⟩ _
 refine Tri.seq (Tri.regionL ?_)
 refine Oc om (Oc (op_nilCheck_p rfl) (Oc (op_field_p tyFld155_1 rfl rfl) ?_))
 obtain ⟨u_1, e1, h⟩ := bnd h
 refine Oc (op_call (own_a := [(1, _)]) (atomic_Load_spec e1) goes150 rfl ⟨rfl, trivial⟩ rfl rfl) (Oc (op_not rfl) ?_)
 refine OpsL.nilS ⟨[(0, Pt 1 0), (1, .b (.clo 118 [.ptr 1 0] [])), (8, B true)], [(1, .box 159 [.int .u32 0, .int .i32 0, .int .u32 se, .raw .nilIface, .sl 1 ([[92], [92, 92], [34], [92, 34]].map eS)])]⟩ rfl (Tri.condT rfl (Tri.regionL (Oc om (Oc om ?_))))
 obtain ⟨u_2, e2, h⟩ := bnd h
 refine Oc (op_call (own_a := [(1, _)]) (Once_doSlow_spec e2) goes151 rfl ⟨rfl, trivial⟩ rfl rfl) (OpsL.nil ?_)
 obtain rfl := Option.some.inj h
 refine Fin.keepS ⟨[], [(1, .box 159 [.int .u32 1, .int .i32 0, .int .u32 se, .ifp 212 (tabB escB [.sl 1 ([toStr [34], toStr [92]].map eS)]), .sl 1 ([].map eS)])]⟩ rfl ?_
 exact Fin.result [] (.inr rfl) rfl (.nil) ⟨rfl, rfl⟩
def bsr_Replace_S (F : Nat) (s0 : Str) : Option Str :=
 Option.bind (letN (IntKind.i64.wrap (([[34], [92]].length : Int) * 8)) fun x_3 => if (decide (x_3 ≤ (s0.length : Int))) = true then (iter F (un3 fun newSize_4 anyChanges_5 x_6 => if (decide (x_6 < ([[34], [92]].length : Int))) = true then (Option.bind ((idx? [[34], [92]] x_6).bind fun x_11 => (strings_Count_S F s0 x_11).bind fun x_12 => if (decide (x_12 ≠ 0)) = true then ((idx? x_11 0).bind fun x_13 => some (IntKind.i64.wrap (newSize_4 + (IntKind.i64.wrap (x_12 * (IntKind.i64.wrap (((escB ((x_13.toNat : Int) : Int).toNat).length : Int) - 1))))), true)) else (some (newSize_4, anyChanges_5))) (un2 fun newSize_9 anyChanges_10 => some (.inl (newSize_9, anyChanges_10, IntKind.i64.wrap (x_6 + 1))))) else (some (.inr (newSize_4, anyChanges_5)))) ((s0.length : Int), false, 0)) else (iter F (un3 fun newSize_14 anyChanges_15 i_16 => if (decide (i_16 < (s0.length : Int))) = true then (Option.bind ((idx? s0 i_16).bind fun x_21 => if (decide (escB ((x_21.toNat : Int) : Int).toNat ≠ [])) = true then (letN ((escB ((x_21.toNat : Int) : Int).toNat).length : Int) fun x_22 => letN (IntKind.i64.wrap (newSize_14 + (IntKind.i64.wrap (x_22 - 1)))) fun x_23 => some (x_23, true)) else (some (newSize_14, anyChanges_15))) (un2 fun newSize_19 anyChanges_20 => some (.inl (newSize_19, anyChanges_20, IntKind.i64.wrap (i_16 + 1))))) else (some (.inr (newSize_14, anyChanges_15)))) ((s0.length : Int), false, 0))) (un2 fun newSize_1 anyChanges_2 => if (!anyChanges_2) = true then (some s0) else (Option.bind (mk? (0 : Int) newSize_1 newSize_1) (fun x_24 => Option.bind (iter F (un3 fun buf_26 j_27 i_28 => if (decide (i_28 < (s0.length : Int))) = true then (Option.bind ((idx? s0 i_28).bind fun x_32 => if (decide (escB ((x_32.toNat : Int) : Int).toNat ≠ [])) = true then (Option.bind (cpy? buf_26 (escB ((x_32.toNat : Int) : Int).toNat) j_27) (fun y_33 => some (y_33, IntKind.i64.wrap (j_27 + ((escB ((x_32.toNat : Int) : Int).toNat).length : Int))))) else ((idx? buf_26 j_27).bind fun x_35 => some (buf_26.set (j_27 : Int).toNat (x_32.toNat : Int), IntKind.i64.wrap (j_27 + 1)))) (un2 fun buf_30 j_31 => some (.inl (buf_30, j_31, IntKind.i64.wrap (i_28 + 1))))) else (some (.inr buf_26))) (x_24, 0, 0)) (fun buf_25 => some (toStr buf_25)))))
theorem bsr_Replace_spec {F : Nat} {s0 : Str} {r : Str} (h : bsr_Replace_S F s0 = some r) : Meets Tryz.prog (tabs mx) 230 [] [.eptr (tabB escB [.sl 1 ([[34], [92]].map eS)]), .one (.str s0)] (Is [] (.b (.one (.str r)))) := by
 unfold bsr_Replace_S at h
 refine Meets.intro 122 Tryz.func230 Tryz.ntmps230 rfl (by simp) fun E => ?_
 show Tri _ E ⟨122, [], [], []⟩ _ ⟨[(0, .b (.eptr (tabB escB [.sl 1 ([[34], [92]].map eS)]))), (1, .b (.one (.str s0)))], []⟩ _
 refine Tri.seq (Tri.regionL ?_)
 refine Oc oa (OpsL.nilS ⟨[(0, .b (.eptr (tabB escB [.sl 1 ([[34], [92]].map eS)]))), (1, .b (.one (.str s0)))], []⟩ rfl (Tri.seq (Tri.regionL ?_)))
 refine Oc om (Oc (op_len_str und9 rfl) (Oc oa ?_))
 refine OpsL.nilS ⟨[(0, _), (1, _), (5, I (s0.length : Int))], []⟩ rfl (Tri.seq (Tri.regionL ?_))
 refine Oc oa (OpsL.nilS ⟨[(0, _), (1, _), (5, _), (6, B false)], []⟩ rfl ?_)
 obtain ⟨v1, h2, h⟩ := bnd h
 refine Tri.seqJ (v := v1) (un2 fun (newSize_1 : Int) (anyChanges_2 : Bool) => ⟨[(0, .b (.eptr (tabB escB [.sl 1 ([[34], [92]].map eS)]))), (1, .b (.one (.str s0))), (5, I newSize_1), (6, B anyChanges_2)], []⟩) (fun z => z) ?_ ?_
 ·refine Tri.seq (Tri.regionL ?_)
  refine Oc om (Oc (op_nilCheck_e rfl) (Oc (op_field_e tyFld211_1 rfl tabB_drop) (Oc (op_load_e1 tyOne44 rfl rfl) (Oc (op_len_e' und44 rfl (List.length_map _)) ?_))))
  refine OpsL.consI .i64 h2 rfl (op_mul rfl rfl) (fun x_3 h2 => ?_)
  refine OpsL.keepS ⟨[(0, _), (1, _), (5, _), (6, _), (23, I x_3)], []⟩ rfl (Oc om (Oc (op_len_str und9 rfl) (Oc (op_leq rfl rfl) ?_)))
  refine OpsL.nilS ⟨[(0, _), (1, _), (5, _), (6, _), (26, B (decide (x_3 ≤ (s0.length : Int))))], []⟩ rfl (Tri.ite h2 rfl (fun _ h2 => ?_) (fun _ h2 => ?_))
  ·refine Tri.seq (Tri.regionL ?_)
   refine Oc om (Oc (op_nilCheck_e rfl) (Oc (op_field_e tyFld211_1 rfl tabB_drop) (Oc (op_load_e1 tyOne44 rfl rfl) (Oc (op_len_e' und44 rfl (List.length_map _)) (Oc om ?_)))))
   refine OpsL.nilS ⟨[(0, _), (1, _), (5, _), (6, _), (30, .b (.one (.sl 1 ([[34], [92]].map eS)))), (31, I ([[34], [92]].length : Int)), (32, I 0)], []⟩ rfl (Tri.block (Tri.loopJ h2 (un3 fun (newSize_4 : Int) (anyChanges_5 : Bool) (x_6 : Int) => ⟨[(0, .b (.eptr (tabB escB [.sl 1 ([[34], [92]].map eS)]))), (1, .b (.one (.str s0))), (5, I newSize_4), (6, B anyChanges_5), (30, .b (.one (.sl 1 ([[34], [92]].map eS)))), (31, I ([[34], [92]].length : Int)), (32, I x_6)], []⟩) [0, 1, 5, 6, 30, 31, 32] [] rfl ?_))
   rintro ⟨newSize_4, anyChanges_5, x_6⟩ o3 h4 hy5
   refine Tri.seq (Tri.regionL ?_)
   refine Oc (op_lss rfl rfl) (OpsL.nilS ⟨[(0, _), (1, _), (5, _), (6, _), (30, _), (31, _), (32, _), (33, B (decide (x_6 < ([[34], [92]].length : Int))))], []⟩ rfl (Tri.seq (Tri.ite h4 rfl (fun _ h4 => ?_) (fun _ h4 => ?_))))
   ·refine Tri.skip (Fin.keepS ⟨[(0, _), (1, _), (5, _), (6, _), (30, _), (31, _), (32, _)], []⟩ rfl (Fin.then ?_))
    obtain ⟨v6, h7, h4⟩ := bnd h4
    refine Tri.seqJ (v := v6) (un2 fun (newSize_9 : Int) (anyChanges_10 : Bool) => ⟨[(0, .b (.eptr (tabB escB [.sl 1 ([[34], [92]].map eS)]))), (1, .b (.one (.str s0))), (5, I newSize_9), (6, B anyChanges_10), (30, .b (.one (.sl 1 ([[34], [92]].map eS)))), (31, I ([[34], [92]].length : Int)), (32, I x_6)], []⟩) (fun z => z) ?_ ?_
    ·refine Tri.block (Tri.seq (Tri.regionL ?_))
     obtain ⟨x_11, e8, h7⟩ := bnd h7
     refine Oc (op_index_e tySl44 (ix_lo e8) (ix_map (e := eS) e8) rfl rfl) (Oc (op_load_e1 tyOne9 rfl rfl) (Oc oa ?_))
     refine OpsL.nilS ⟨[(0, _), (1, _), (5, _), (6, _), (8, .b (.one (.str x_11))), (30, _), (31, _), (32, _)], []⟩ rfl (Tri.seq (Tri.regionL ?_))
     refine Oc om (Oc om ?_)
     obtain ⟨x_12, e9, h7⟩ := bnd h7
     refine Oc (op_call0 (strings_Count_spec e9) goes54 rfl rfl) (Oc oa ?_)
     refine OpsL.nilS ⟨[(0, _), (1, _), (5, _), (6, _), (8, _), (9, I x_12), (30, _), (31, _), (32, _)], []⟩ rfl (Tri.seq (Tri.regionL ?_))
     refine Oc om (Oc (op_neq rfl rfl) ?_)
     refine OpsL.nilS ⟨[(0, _), (1, _), (5, _), (6, _), (8, _), (9, _), (30, _), (31, _), (32, _), (40, B (decide (x_12 ≠ 0)))], []⟩ rfl (Tri.ite h7 rfl (fun _ h7 => ?_) (fun _ h7 => ?_))
     ·refine Tri.seq (Tri.keepS ⟨[(0, _), (1, _), (5, _), (8, _), (9, _), (30, _), (31, _), (32, _)], []⟩ rfl ?_)
      obtain ⟨x_13, e10, h7⟩ := bnd h7
      refine Tri.regionY mixed 13 [I newSize_4, I x_12, .b (.eptr (tabB escB [.sl 1 ([[34], [92]].map eS)])), .b (.one (.str x_11)), .b (.one (.int .u8 (x_13.toNat : Int))), .b (.eptr (tabB escB [.sl 1 ([[34], [92]].map eS)])), .b (.eptr (tabB escB [.sl 1 ([[34], [92]].map eS)])), .b (.eptr [.slb (escB ((x_13.toNat : Int) : Int).toNat)]), .b (.one (.sl 1 ((escB ((x_13.toNat : Int) : Int).toNat).map (eK .u8)))), I ((escB ((x_13.toNat : Int) : Int).toNat).length : Int), I (IntKind.i64.wrap (((escB ((x_13.toNat : Int) : Int).toNat).length : Int) - 1)), I (IntKind.i64.wrap (x_12 * (IntKind.i64.wrap (((escB ((x_13.toNat : Int) : Int).toNat).length : Int) - 1)))), I (IntKind.i64.wrap (newSize_4 + (IntKind.i64.wrap (x_12 * (IntKind.i64.wrap (((escB ((x_13.toNat : Int) : Int).toNat).length : Int) - 1))))))] [0, 1, 5, 30, 31, 32] [] (s' := ⟨[(0, _), (1, _), (5, I (IntKind.i64.wrap (newSize_4 + (IntKind.i64.wrap (x_12 * (IntKind.i64.wrap (((escB ((x_13.toNat : Int) : Int).toNat).length : Int) - 1))))))), (30, _), (31, _), (32, _)], []⟩) rfl ⟨fun _ => .p om, fun _ => .p om, fun _ => .p om, fun _ => .p om, fun _ => .p (op_index_str und9 rfl rfl (ix_lo e10) (ix_get e10)), fun _ => .p (op_nilCheck_e rfl), fun _ => by exact .p (op_field_e tyFld211_0 rfl rfl), fun _ => .p (op_tab tyArr209 rfl rfl), fun _ => .p ((op_load_e1 tyOne50 rfl rfl).weak (fun _ _ _ h => slb_sl h)), fun _ => .p (op_len_e' und50 rfl (List.length_map _)), fun _ => .p (op_sub rfl rfl), fun _ => .p (op_mul rfl rfl), fun _ => .p (op_add rfl rfl), trivial⟩ ⟨_, by exact .p oa, rfl⟩ rfl (Tri.regionL (Oc oa (OpsL.nil (Fin.block_normal ?_))))
      exact Fin.join [0, 1, 5, 6, 30, 31, 32] [] (IntKind.i64.wrap (newSize_4 + (IntKind.i64.wrap (x_12 * (IntKind.i64.wrap (((escB ((x_13.toNat : Int) : Int).toNat).length : Int) - 1))))), true) (Option.some.inj h7) rfl
     ·refine Tri.skip (Fin.block_normal ?_)
      exact Fin.join [0, 1, 5, 6, 30, 31, 32] [] (newSize_4, anyChanges_5) (Option.some.inj h7) rfl
    ·rintro ⟨newSize_9, anyChanges_10⟩ hv
     subst v6
     refine Tri.regionL (Oc (op_add rfl rfl) (Oc om ?_))
     refine OpsL.nil ?_
     exact Fin.againJ [0, 1, 5, 6, 30, 31, 32] [] (newSize_9, anyChanges_10, IntKind.i64.wrap (x_6 + 1)) (Option.some.inj h4) rfl
   ·refine Tri.exit (Fin.then_exit ?_)
    obtain rfl := hy5 _ (Option.some.inj h4).symm
    refine Fin.then_exit (Fin.block_exit ?_)
    exact Fin.join [0, 1, 5, 6] [] (newSize_4, anyChanges_5) rfl rfl
  ·refine Tri.seq (Tri.regionL ?_)
   refine Oc oa (OpsL.nilS ⟨[(0, _), (1, _), (5, _), (6, _), (10, I 0)], []⟩ rfl (Tri.block (Tri.loopJ h2 (un3 fun (newSize_14 : Int) (anyChanges_15 : Bool) (i_16 : Int) => ⟨[(0, .b (.eptr (tabB escB [.sl 1 ([[34], [92]].map eS)]))), (1, .b (.one (.str s0))), (5, I newSize_14), (6, B anyChanges_15), (10, I i_16)], []⟩) [0, 1, 5, 6, 10] [] rfl ?_)))
   rintro ⟨newSize_14, anyChanges_15, i_16⟩ o11 h12 hy13
   refine Tri.seq (Tri.seq (Tri.regionL ?_))
   refine Oc om (Oc om (Oc (op_len_str und9 rfl) (Oc (op_lss rfl rfl) ?_)))
   refine OpsL.nilS ⟨[(0, _), (1, _), (5, _), (6, _), (10, _), (58, B (decide (i_16 < (s0.length : Int))))], []⟩ rfl (Tri.ite h12 rfl (fun _ h12 => ?_) (fun _ h12 => ?_))
   ·refine Tri.skip (Fin.keepS ⟨[(0, _), (1, _), (5, _), (6, _), (10, _)], []⟩ rfl (Fin.then ?_))
    obtain ⟨v14, h15, h12⟩ := bnd h12
    refine Tri.seqJ (v := v14) (un2 fun (newSize_19 : Int) (anyChanges_20 : Bool) => ⟨[(0, .b (.eptr (tabB escB [.sl 1 ([[34], [92]].map eS)]))), (1, .b (.one (.str s0))), (5, I newSize_19), (6, B anyChanges_20), (10, I i_16)], []⟩) (fun z => z) ?_ ?_
    ·refine Tri.block (Tri.seq (Tri.regionL ?_))
     refine Oc om (Oc om ?_)
     obtain ⟨x_21, e16, h15⟩ := bnd h15
     refine Oc (op_index_str und9 rfl rfl (ix_lo e16) (ix_get e16)) (Oc oa ?_)
     refine OpsL.nilS ⟨[(0, _), (1, _), (5, _), (6, _), (10, _), (11, .b (.one (.int .u8 (x_21.toNat : Int))))], []⟩ rfl (Tri.seq (Tri.regionL ?_))
     refine Oc om (Oc om (Oc (op_nilCheck_e rfl) (Oc (op_field_e tyFld211_0 rfl rfl) (Oc (op_tab tyArr209 rfl rfl) (Oc (op_load_e1 tyOne50 rfl rfl) ?_)))))
     refine Oc (op_neq_slb und50 rfl) (OpsL.nilS ⟨[(0, _), (1, _), (5, _), (6, _), (10, _), (11, _), (70, B (decide (escB ((x_21.toNat : Int) : Int).toNat ≠ [])))], []⟩ rfl (Tri.ite h15 rfl (fun _ h15 => ?_) (fun _ h15 => ?_)))
     ·refine Tri.seq (Tri.regionL ?_)
      refine Oc om (Oc om (Oc om (Oc (op_nilCheck_e rfl) (Oc (op_field_e tyFld211_0 rfl rfl) (Oc (op_tab tyArr209 rfl rfl) ?_)))))
      refine Oc ((op_load_e1 tyOne50 rfl rfl).weak (fun _ _ _ h => slb_sl h)) (OpsL.keepS ⟨[(0, _), (1, _), (5, _), (10, _), (71, I newSize_14), (77, .b (.one (.sl 1 ((escB ((x_21.toNat : Int) : Int).toNat).map (eK .u8)))))], []⟩ rfl (OpsL.consI .i64 h15 rfl (op_len_e' und50 rfl (List.length_map _)) (fun x_22 h15 => ?_)))
      refine Oc (op_sub rfl rfl) (OpsL.consI .i64 h15 rfl (op_add rfl rfl) (fun x_23 h15 => ?_))
      refine Oc oa (OpsL.nilS ⟨[(0, _), (1, _), (5, I x_23), (10, _)], []⟩ rfl (Tri.regionL (Oc oa (OpsL.nil (Fin.block_normal ?_)))))
      exact Fin.join [0, 1, 5, 6, 10] [] (x_23, true) (Option.some.inj h15) rfl
     ·refine Tri.skip (Fin.block_normal ?_)
      exact Fin.join [0, 1, 5, 6, 10] [] (newSize_14, anyChanges_15) (Option.some.inj h15) rfl
    ·rintro ⟨newSize_19, anyChanges_20⟩ hv
     subst v14
     refine Tri.regionL (Oc om (Oc (op_add rfl rfl) (Oc oa ?_)))
     refine OpsL.nil ?_
     exact Fin.againJ [0, 1, 5, 6, 10] [] (newSize_19, anyChanges_20, IntKind.i64.wrap (i_16 + 1)) (Option.some.inj h12) rfl
   ·refine Tri.exit (Fin.then_exit ?_)
    obtain rfl := hy13 _ (Option.some.inj h12).symm
    refine Fin.then_exit (Fin.block_exit ?_)
    exact Fin.join [0, 1, 5, 6] [] (newSize_14, anyChanges_15) rfl rfl
 ·rintro ⟨newSize_1, anyChanges_2⟩ hv
  subst v1
  refine Tri.seq (Tri.seq (Tri.regionL ?_))
  refine Oc om (Oc (op_not rfl) ?_)
  refine OpsL.nilS ⟨[(0, _), (1, _), (5, _), (82, B (!anyChanges_2))], []⟩ rfl (Tri.ite h rfl (fun _ h => ?_) (fun _ h => ?_))
  ·refine Tri.seq (Tri.regionL ?_)
   refine Oc om (Oc oa ?_)
   refine OpsL.nilS ⟨[(4, .b (.one (.str s0)))], []⟩ rfl (Tri.ret (Fin.then_ret ?_))
   obtain rfl := Option.some.inj h
   refine Fin.keepS ⟨[(4, _)], []⟩ rfl (Fin.result' [.one (.str s0)] (.inl rfl) rfl (.cons (.tmp rfl) .nil) ⟨rfl, rfl⟩)
  ·refine Tri.skip (Fin.keepS ⟨[(0, _), (1, _), (5, _)], []⟩ rfl (Fin.then (Tri.seq (Tri.regionL ?_))))
   refine Oc om ?_
   obtain ⟨x_24, e17, h⟩ := bnd h
   refine Oc (op_makeSlice (k := 101) (enc := (eK .u8)) tySl50 e17 (by decide) (.cons .refl .nil) rfl rfl rfl) (Oc oa ?_)
   refine OpsL.nilS ⟨[(0, _), (1, _), (12, .b (.row 101))], [(101, .row 5 1 (x_24.map (eK .u8)))]⟩ rfl (Tri.seq (Tri.regionL ?_))
   refine Oc oa (OpsL.nilS ⟨[(0, _), (1, _), (12, _), (13, I 0)], [(101, _)]⟩ rfl ?_)
   obtain ⟨v18, h19, h⟩ := bnd h
   refine Tri.seqJ (v := v18) (fun (buf_25 : List Int) => ⟨[(12, .b (.row 101))], [(101, .row 5 1 (buf_25.map (eK .u8)))]⟩) (fun z => z) ?_ ?_
   ·refine Tri.seq (Tri.regionL ?_)
    refine Oc oa (OpsL.nilS ⟨[(0, _), (1, _), (12, _), (13, _), (14, I 0)], [(101, _)]⟩ rfl (Tri.block (Tri.loopJ h19 (un3 fun (buf_26 : List Int) (j_27 : Int) (i_28 : Int) => ⟨[(0, .b (.eptr (tabB escB [.sl 1 ([[34], [92]].map eS)]))), (1, .b (.one (.str s0))), (12, .b (.row 101)), (13, I j_27), (14, I i_28)], [(101, .row 5 1 (buf_26.map (eK .u8)))]⟩) [0, 1, 12, 13, 14] [101] rfl ?_)))
    rintro ⟨buf_26, j_27, i_28⟩ o20 h21 hy22
    refine Tri.seq (Tri.seq (Tri.regionL ?_))
    refine Oc om (Oc om (Oc (op_len_str und9 rfl) (Oc (op_lss rfl rfl) ?_)))
    refine OpsL.nilS ⟨[(0, _), (1, _), (12, _), (13, _), (14, _), (89, B (decide (i_28 < (s0.length : Int))))], [(101, _)]⟩ rfl (Tri.ite h21 rfl (fun _ h21 => ?_) (fun _ h21 => ?_))
    ·refine Tri.skip (Fin.keepS ⟨[(0, _), (1, _), (12, _), (13, _), (14, _)], [(101, _)]⟩ rfl (Fin.then ?_))
     obtain ⟨v23, h24, h21⟩ := bnd h21
     refine Tri.seqJ (v := v23) (un2 fun (buf_30 : List Int) (j_31 : Int) => ⟨[(0, .b (.eptr (tabB escB [.sl 1 ([[34], [92]].map eS)]))), (1, .b (.one (.str s0))), (12, .b (.row 101)), (13, I j_31), (14, I i_28)], [(101, .row 5 1 (buf_30.map (eK .u8)))]⟩) (fun z => z) ?_ ?_
     ·refine Tri.block (Tri.seq (Tri.regionL ?_))
      refine Oc om (Oc om ?_)
      obtain ⟨x_32, e25, h24⟩ := bnd h24
      refine Oc (op_index_str und9 rfl rfl (ix_lo e25) (ix_get e25)) (Oc oa ?_)
      refine OpsL.nilS ⟨[(0, _), (1, _), (12, _), (13, _), (14, _), (15, .b (.one (.int .u8 (x_32.toNat : Int))))], [(101, _)]⟩ rfl (Tri.seq (Tri.regionL ?_))
      refine Oc om (Oc om (Oc (op_nilCheck_e rfl) (Oc (op_field_e tyFld211_0 rfl rfl) (Oc (op_tab tyArr209 rfl rfl) (Oc (op_load_e1 tyOne50 rfl rfl) ?_)))))
      refine Oc (op_neq_slb und50 rfl) (OpsL.nilS ⟨[(0, _), (1, _), (12, _), (13, _), (14, _), (15, _), (101, B (decide (escB ((x_32.toNat : Int) : Int).toNat ≠ [])))], [(101, _)]⟩ rfl (Tri.ite h24 rfl (fun _ h24 => ?_) (fun _ h24 => ?_)))
      ·refine Tri.keepS ⟨[(0, _), (1, _), (12, _), (13, _), (14, _), (15, _)], [(101, _)]⟩ rfl ?_
       obtain ⟨y_33, e26, h24⟩ := bnd h24
       refine Tri.toPart 101 rfl (cpy_pos e26) (fun cap_34 hc27 _ => ?_)
       refine Tri.keepS ⟨[(0, _), (1, _), (12, .b (.part 101 1 0 ((buf_26.map (eK .u8)).length) cap_34)), (13, _), (14, _), (15, _)], [(101, _)]⟩ rfl (Tri.regionWF mixed [false, false, false, false, false, false, false, false, false, false, true, false, true] [I j_27, .b (.part 101 1 0 ((buf_26.map (eK .u8)).length) cap_34), I j_27, .b (.part 101 1 (0 + (j_27 : Int).toNat) ((buf_26.map (eK .u8)).length - (j_27 : Int).toNat) cap_34), .b (.eptr (tabB escB [.sl 1 ([[34], [92]].map eS)])), .b (.one (.int .u8 (x_32.toNat : Int))), .b (.eptr (tabB escB [.sl 1 ([[34], [92]].map eS)])), .b (.eptr (tabB escB [.sl 1 ([[34], [92]].map eS)])), .b (.eptr [.slb (escB ((x_32.toNat : Int) : Int).toNat)]), .b (.one (.sl 1 ((escB ((x_32.toNat : Int) : Int).toNat).map (eK .u8)))), I ((escB ((x_32.toNat : Int) : Int).toNat).length : Int), I (IntKind.i64.wrap (j_27 + ((escB ((x_32.toNat : Int) : Int).toNat).length : Int))), I (IntKind.i64.wrap (j_27 + ((escB ((x_32.toNat : Int) : Int).toNat).length : Int)))] [⟨[false, false, false, false, false, false, false, false, false, false, false, false, false], [(0, .b (.eptr (tabB escB [.sl 1 ([[34], [92]].map eS)]))), (1, .b (.one (.str s0))), (12, .b (.part 101 1 0 ((buf_26.map (eK .u8)).length) cap_34)), (13, I j_27), (14, I i_28), (15, .b (.one (.int .u8 (x_32.toNat : Int))))], [(101, .row 5 1 (buf_26.map (eK .u8)))], [true, true, true, true, true, true, true, true, true, true, true, true, true], [], [11, 12]⟩, ⟨[false, false, false, false, false, false, false, false, false, false, true, false, false], [(0, .b (.eptr (tabB escB [.sl 1 ([[34], [92]].map eS)]))), (1, .b (.one (.str s0))), (12, .b (.part 101 1 0 ((buf_26.map (eK .u8)).length) cap_34)), (13, I j_27), (14, I i_28), (15, .b (.one (.int .u8 (x_32.toNat : Int))))], [(101, .row 5 1 (y_33.map (eK .u8)))], [true, true, true, true, true, true, true, true, true, true, true, true, true], [1, 2, 3, 4, 5, 6, 7, 8, 9, 10], []⟩, ⟨[false, false, false, false, false, false, false, false, false, false, true, false, true], [(0, .b (.eptr (tabB escB [.sl 1 ([[34], [92]].map eS)]))), (1, .b (.one (.str s0))), (12, .b (.part 101 1 0 ((buf_26.map (eK .u8)).length) cap_34)), (14, I i_28), (15, .b (.one (.int .u8 (x_32.toNat : Int))))], [(101, .row 5 1 (y_33.map (eK .u8)))], [true, true, true, true, true, true, true, true, true, true, true, true, true], [0, 1, 2, 3, 4, 5, 6, 7, 8, 9, 10, 11, 12], []⟩] rfl (⟨by kernel_rfl, ⟨⟨I j_27, fun _ => rfl, fun _ => .p (by exact op_move rfl)⟩, ⟨.b (.part 101 1 0 ((buf_26.map (eK .u8)).length) cap_34), fun _ => rfl, fun _ => .p (by exact op_move rfl)⟩, ⟨I j_27, fun _ => rfl, fun _ => .p (by exact op_move rfl)⟩, ⟨.b (.part 101 1 (0 + (j_27 : Int).toNat) ((buf_26.map (eK .u8)).length - (j_27 : Int).toNat) cap_34), fun _ => rfl, fun _ => .p (by exact op_slice_cpy tySl50 e26 hc27 rfl rfl)⟩, ⟨.b (.eptr (tabB escB [.sl 1 ([[34], [92]].map eS)])), fun _ => rfl, fun _ => .p (by exact op_move rfl)⟩, ⟨.b (.one (.int .u8 (x_32.toNat : Int))), fun _ => rfl, fun _ => .p (by exact op_move rfl)⟩, ⟨.b (.eptr (tabB escB [.sl 1 ([[34], [92]].map eS)])), fun _ => rfl, fun _ => .p (by exact op_nilCheck_e rfl)⟩, ⟨.b (.eptr (tabB escB [.sl 1 ([[34], [92]].map eS)])), fun _ => rfl, fun _ => .p (by exact op_field_e tyFld211_0 rfl rfl)⟩, ⟨.b (.eptr [.slb (escB ((x_32.toNat : Int) : Int).toNat)]), fun _ => rfl, fun _ => .p (by exact op_tab tyArr209 rfl rfl)⟩, ⟨.b (.one (.sl 1 ((escB ((x_32.toNat : Int) : Int).toNat).map (eK .u8)))), fun _ => rfl, fun _ => .p (by exact (op_load_e1 tyOne50 rfl rfl).weak (fun _ _ _ h => slb_sl h))⟩, ⟨_, [], I ((escB ((x_32.toNat : Int) : Int).toNat).length : Int), rfl, fun _ => rfl, rfl, rfl, fun _ => .toO [101] (by exact .p (by exact op_cpy tySl50 e26 hc27 rfl rfl rfl rfl)) (by exact rfl)⟩, trivial, trivial, trivial⟩, ⟨by kernel_rfl, ⟨⟨I j_27, fun _ => rfl, fun _ => .p (by exact op_move rfl)⟩, trivial, trivial, trivial, trivial, trivial, trivial, trivial, trivial, trivial, trivial, ⟨I (IntKind.i64.wrap (j_27 + ((escB ((x_32.toNat : Int) : Int).toNat).length : Int))), fun _ => rfl, fun _ => .p (by exact op_add rfl rfl)⟩, ⟨_, [], I (IntKind.i64.wrap (j_27 + ((escB ((x_32.toNat : Int) : Int).toNat).length : Int))), rfl, fun _ => rfl, rfl, rfl, fun _ => .toO [101] (by exact .p (by exact op_assign rfl)) (by exact rfl)⟩, trivial⟩, ⟨by kernel_rfl, ⟨trivial, trivial, trivial, trivial, trivial, trivial, trivial, trivial, trivial, trivial, trivial, trivial, trivial, trivial⟩, trivial⟩⟩⟩) rfl rfl rfl [0, 1, 12, 13, 14] [101] (s' := ⟨[(0, _), (1, _), (12, _), (13, I (IntKind.i64.wrap (j_27 + ((escB ((x_32.toNat : Int) : Int).toNat).length : Int)))), (14, _)], [(101, .row 5 1 (y_33.map (eK .u8)))]⟩) rfl ?_)
       refine Fin.partrow 12 101 rfl rfl (cpy_len e26) (Fin.block_normal ?_)
       exact Fin.join [0, 1, 12, 13, 14] [101] (y_33, IntKind.i64.wrap (j_27 + ((escB ((x_32.toNat : Int) : Int).toNat).length : Int))) (Option.some.inj h24) rfl
      ·refine Tri.seq (Tri.regionL ?_)
       refine Oc om (Oc om (Oc om ?_))
       obtain ⟨x_35, e28, h24⟩ := bnd h24
       refine Oc (op_index_r tySl50 (ix_lo e28) (ix_lt' e28) rfl rfl rfl rfl) (Oc (op_store_r1 (i := (j_27 : Int).toNat) tyOne5 rfl rfl rfl rfl (ix_lt e28) (map_set _ _ _ _)) ?_)
       refine OpsL.nilS ⟨[(0, _), (1, _), (12, _), (13, _), (14, _)], [(101, .row 5 1 ((buf_26.set (j_27 : Int).toNat (x_32.toNat : Int)).map (eK .u8)))]⟩ rfl (Tri.regionL (Oc om (Oc (op_add rfl rfl) (Oc oa ?_))))
       refine OpsL.nil (Fin.block_normal ?_)
       exact Fin.join [0, 1, 12, 13, 14] [101] (buf_26.set (j_27 : Int).toNat (x_32.toNat : Int), IntKind.i64.wrap (j_27 + 1)) (Option.some.inj h24) rfl
     ·rintro ⟨buf_30, j_31⟩ hv
      subst v23
      refine Tri.regionL (Oc om (Oc (op_add rfl rfl) (Oc oa ?_)))
      refine OpsL.nil ?_
      exact Fin.againJ [0, 1, 12, 13, 14] [101] (buf_30, j_31, IntKind.i64.wrap (i_28 + 1)) (Option.some.inj h21) rfl
    ·refine Tri.exit (Fin.then_exit ?_)
     obtain rfl := hy22 _ (Option.some.inj h21).symm
     refine Fin.then_exit (Fin.block_exit ?_)
     exact Fin.join [12] [101] buf_26 rfl rfl
   ·rintro buf_25 hv
    subst v18
    refine Tri.seq (Tri.regionL ?_)
    refine Oc om (OpsL.persist 101 rfl (Oc (op_conv_bytes und50 undi5 und9 rfl) (Oc oa ?_)))
    refine OpsL.nilS ⟨[(4, .b (.one (.str (toStr buf_25))))], []⟩ rfl (Tri.ret ?_)
    obtain rfl := Option.some.inj h
    refine Fin.keepS ⟨[(4, _)], []⟩ rfl (Fin.result' [.one (.str (toStr buf_25))] (.inl rfl) rfl (.cons (.tmp rfl) .nil) ⟨rfl, rfl⟩)
def NewReplacer_S (F : Nat) : Option Unit :=
 Option.bind (if (decide ((Int.tmod 4 2) = 1)) = true then (none) else (some ())) (fun _ => some ())
theorem NewReplacer_spec {F : Nat} {r : Unit} (h : NewReplacer_S F = some r) : Meets Tryz.prog (tabs mx) 57 [] [.one (.sl 1 ([[92], [92, 92], [34], [92, 34]].map eS))] (Is [(60, .box 159 [.int .u32 0, .int .i32 0, .int .u32 0, .raw .nilIface, .sl 1 ([[92], [92, 92], [34], [92, 34]].map eS)])] (.b (.ptr 60 0))) := by
 unfold NewReplacer_S at h
 refine Meets.intro 12 Tryz.func57 Tryz.ntmps57 rfl (by simp) fun E => ?_
 show Tri _ E ⟨12, [], [], []⟩ _ ⟨[(0, .b (.one (.sl 1 ([[92], [92, 92], [34], [92, 34]].map eS))))], []⟩ _
 refine Tri.seq (Tri.regionL ?_)
 refine Oc oa (OpsL.nilS ⟨[(0, .b (.one (.sl 1 ([[92], [92, 92], [34], [92, 34]].map eS))))], []⟩ rfl ?_)
 obtain ⟨v1, h2, h⟩ := bnd h
 refine Tri.seqJ (v := v1) (fun (_ : Unit) => ⟨[(0, .b (.one (.sl 1 ([[92], [92, 92], [34], [92, 34]].map eS))))], []⟩) (fun z => z) ?_ ?_
 ·refine Tri.seq (Tri.regionL ?_)
  refine Oc om (Oc (op_len_e' und44 rfl (List.length_map _)) (Oc (op_rem (by decide) rfl rfl) (Oc (op_eql rfl rfl) ?_)))
  refine OpsL.nilS ⟨[(0, _), (6, B (decide ((Int.tmod 4 2) = 1)))], []⟩ rfl (Tri.ite h2 rfl (fun _ h2 => ?_) (fun _ h2 => ?_))
  ·cases h2
  ·refine Tri.skip ?_
   exact Fin.join [0] [] () (Option.some.inj h2) rfl
 ·rintro _ hv
  subst v1
  refine Tri.seq (Tri.regionL ?_)
  refine Oc om (Oc (op_append_c (k := 101) tySl44 (by decide) (by decide) (by decide) rfl rfl) ?_)
  refine OpsL.persist 101 rfl (Oc (op_build_i tyBuildI159 rfl rfl) (Oc (op_box (k := 102) rfl rfl) (Oc oa ?_)))
  refine OpsL.nilS ⟨[(2, Pt 102 0)], [(102, .box 159 [.int .u32 0, .int .i32 0, .int .u32 0, .raw .nilIface, .sl 1 ([[92], [92, 92], [34], [92, 34]].map eS)])]⟩ rfl (Tri.ret ?_)
  obtain rfl := Option.some.inj h
  refine Fin.keepS ⟨[(2, Pt 102 0)], [(102, .box 159 [.int .u32 0, .int .i32 0, .int .u32 0, .raw .nilIface, .sl 1 ([[92], [92, 92], [34], [92, 34]].map eS)])]⟩ rfl (Fin.rename 102 60 rfl (by decide) rfl (Fin.keepS ⟨[(2, Pt 60 0)], [(60, .box 159 [.int .u32 0, .int .i32 0, .int .u32 0, .raw .nilIface, .sl 1 ([[92], [92, 92], [34], [92, 34]].map eS)])]⟩ rfl ?_))
  exact Fin.result [.ptr 60 0] (.inl rfl) rfl (.cons (.tmp rfl) .nil) ⟨rfl, rfl⟩
def Replacer_Replace_S (F : Nat) (s0 : Str) (se : Int) : Option Str :=
 (Once_Do_S F se).bind fun u_1 => (bsr_Replace_S F s0).bind fun x_2 => some x_2
theorem Replacer_Replace_spec {F : Nat} {s0 : Str} {se : Int} {r : Str} (h : Replacer_Replace_S F s0 se = some r) : Meets Tryz.prog (tabs mx) 58 [(1, .box 159 [.int .u32 0, .int .i32 0, .int .u32 se, .raw .nilIface, .sl 1 ([[92], [92, 92], [34], [92, 34]].map eS)])] [.ptr 1 0, .one (.str s0)] (Is [(1, .box 159 [.int .u32 1, .int .i32 0, .int .u32 se, .ifp 212 (tabB escB [.sl 1 ([toStr [34], toStr [92]].map eS)]), .sl 1 ([].map eS)])] (.b (.one (.str r)))) := by
 unfold Replacer_Replace_S at h
 refine Meets.intro 17 Tryz.func58 Tryz.ntmps58 rfl (by simp) fun E => ?_
 show Tri _ E ⟨17, [1], [1], []⟩ _ ⟨[(0, Pt 1 0), (1, .b (.one (.str s0)))], [(1, .box 159 [.int .u32 0, .int .i32 0, .int .u32 se, .raw .nilIface, .sl 1 ([[92], [92, 92], [34], [92, 34]].map eS)])]⟩ _
 refine Tri.seq (Tri.regionL ?_)
 refine Oc oa (OpsL.nilS ⟨[(0, Pt 1 0), (1, .b (.one (.str s0)))], [(1, .box 159 [.int .u32 0, .int .i32 0, .int .u32 se, .raw .nilIface, .sl 1 ([[92], [92, 92], [34], [92, 34]].map eS)])]⟩ rfl (Tri.seq (Tri.regionL ?_)))
 refine Oc om (Oc (op_nilCheck_p rfl) (Oc (op_field_p tyFld159_0 rfl rfl) (Oc om (Oc (op_makeFunc rfl rfl) ?_))))
 obtain ⟨u_1, e1, h⟩ := bnd h
 refine Oc (op_call (own_a := [(1, _)]) (Once_Do_spec e1) goes117 rfl ⟨rfl, trivial⟩ rfl rfl) (OpsL.nilS ⟨[(0, _), (1, _)], [(1, .box 159 [.int .u32 1, .int .i32 0, .int .u32 se, .ifp 212 (tabB escB [.sl 1 ([toStr [34], toStr [92]].map eS)]), .sl 1 ([].map eS)])]⟩ rfl (Tri.seq (Tri.regionL ?_)))
 refine Oc om (Oc (op_nilCheck_p rfl) (Oc (op_field_p tyFld159_1 rfl rfl) (Oc (op_load_p1 tyOne157 rfl rfl rfl) (Oc om ?_))))
 obtain ⟨x_2, e2, h⟩ := bnd h
 refine Oc (op_callI (own_a := []) (bsr_Replace_spec e2) meth212_Replace rfl rfl trivial rfl rfl) (Oc oa ?_)
 refine OpsL.nilS ⟨[(4, .b (.one (.str x_2)))], [(1, _)]⟩ rfl (Tri.ret ?_)
 obtain rfl := Option.some.inj h
 refine Fin.keepS ⟨[(4, _)], [(1, _)]⟩ rfl ?_
 exact Fin.result [.one (.str x_2)] (.inl rfl) rfl (.cons (.tmp rfl) .nil) ⟨rfl, rfl⟩
def lexer_letter_S (F : Nat) (b0 : Int) : Option Bool :=
 letN ((decide (97 ≤ (ior .u8 b0 32))) && (decide ((ior .u8 b0 32) ≤ 122))) fun x_1 => some (x_1 && (decide (b0 < 128)))
theorem lexer_letter_spec {F : Nat} {b0 : Int} {r : Bool} (h : lexer_letter_S F b0 = some r) : Meets Tryz.prog (tabs mx) 91 [] [.one (.int .u8 b0)] (Is [] (.b (.one (.bool r)))) := by
 unfold lexer_letter_S at h
 refine Meets.intro 15 Tryz.func91 Tryz.ntmps91 rfl (by simp) fun E => ?_
 show Tri _ E ⟨15, [], [], []⟩ _ ⟨[(0, .b (.one (.int .u8 b0)))], []⟩ _
 refine Tri.seq (Tri.regionL ?_)
 refine Oc oa (OpsL.nilS ⟨[(0, .b (.one (.int .u8 b0)))], []⟩ rfl (Tri.seq (Tri.regionL ?_)))
 refine Oc om (Oc (op_or rfl rfl) (Oc (op_geq rfl rfl) (Oc om ?_)))
 refine CgT (decide (97 ≤ (ior .u8 b0 32))) [] (fun g1 => trivial) (fun g1 => om) (CgT (decide (97 ≤ (ior .u8 b0 32))) [7] (fun g2 => by exact ⟨g2, trivial⟩) (fun g2 => op_or rfl rfl) (CgT (decide (97 ≤ (ior .u8 b0 32))) [8] (fun g3 => by exact ⟨g3, trivial⟩) (fun g3 => op_leq rfl rfl) (OpsL.keepS ⟨[(0, _), (6, B (decide (97 ≤ (ior .u8 b0 32)))), (9, .opt (decide (97 ≤ (ior .u8 b0 32))) (.one (.bool (decide ((ior .u8 b0 32) ≤ 122)))))], []⟩ rfl (OpsL.consB h rfl (op_pick_and (fun e => e) rfl rfl rfl rfl) (fun x_1 h => ?_)))))
 refine Oc om (CgT x_1 [] (fun g4 => by exact trivial) (fun g4 => om) (CgT x_1 [12] (fun g5 => by exact ⟨g5, trivial⟩) (fun g5 => op_lss rfl rfl) (Oc (op_pick_and (fun e => e) rfl rfl rfl rfl) (Oc oa ?_))))
 refine OpsL.nilS ⟨[(2, B (x_1 && (decide (b0 < 128))))], []⟩ rfl (Tri.ret ?_)
 obtain rfl := Option.some.inj h
 refine Fin.keepS ⟨[(2, _)], []⟩ rfl (Fin.result' [.one (.bool (x_1 && (decide (b0 < 128))))] (.inl rfl) rfl (.cons (.tmp rfl) .nil) ⟨rfl, rfl⟩)
def lexer_digit_S (F : Nat) (b0 : Int) : Option Bool :=
 some ((decide (48 ≤ b0)) && (decide (b0 ≤ 57)))
theorem lexer_digit_spec {F : Nat} {b0 : Int} {r : Bool} (h : lexer_digit_S F b0 = some r) : Meets Tryz.prog (tabs mx) 95 [] [.one (.int .u8 b0)] (Is [] (.b (.one (.bool r)))) := by
 unfold lexer_digit_S at h
 refine Meets.intro 9 Tryz.func95 Tryz.ntmps95 rfl (by simp) fun E => ?_
 show Tri _ E ⟨9, [], [], []⟩ _ ⟨[(0, .b (.one (.int .u8 b0)))], []⟩ _
 refine Tri.seq (Tri.regionL ?_)
 refine Oc oa (OpsL.nilS ⟨[(0, .b (.one (.int .u8 b0)))], []⟩ rfl (Tri.seq (Tri.regionL ?_)))
 refine Oc om (Oc (op_geq rfl rfl) (Oc om ?_))
 refine CgT (decide (48 ≤ b0)) [] (fun g1 => trivial) (fun g1 => om) (CgT (decide (48 ≤ b0)) [6] (fun g2 => by exact ⟨g2, trivial⟩) (fun g2 => op_leq rfl rfl) (Oc (op_pick_and (fun e => e) rfl rfl rfl rfl) (Oc oa ?_)))
 refine OpsL.nilS ⟨[(2, B ((decide (48 ≤ b0)) && (decide (b0 ≤ 57))))], []⟩ rfl (Tri.ret ?_)
 obtain rfl := Option.some.inj h
 refine Fin.keepS ⟨[(2, _)], []⟩ rfl (Fin.result' [.one (.bool ((decide (48 ≤ b0)) && (decide (b0 ≤ 57))))] (.inl rfl) rfl (.cons (.tmp rfl) .nil) ⟨rfl, rfl⟩)
def lexer_scanner_name_1_S (F : Nat) (b0 : Int) : Option Bool :=
 (lexer_letter_S F b0).bind fun x_1 => (gcall (!x_1) (lexer_digit_S F b0)).bind fun x_2 => some ((x_1 || x_2) || (decide (b0 = 95)))
theorem lexer_scanner_name_1_spec {F : Nat} {b0 : Int} {r : Bool} (h : lexer_scanner_name_1_S F b0 = some r) : Meets Tryz.prog (tabs mx) 94 [] [.one (.int .u8 b0)] (Is [] (.b (.one (.bool r)))) := by
 unfold lexer_scanner_name_1_S at h
 refine Meets.intro 13 Tryz.func94 Tryz.ntmps94 rfl (by simp) fun E => ?_
 show Tri _ E ⟨13, [], [], []⟩ _ ⟨[(0, .b (.one (.int .u8 b0)))], []⟩ _
 refine Tri.seq (Tri.regionL ?_)
 refine Oc oa (OpsL.nilS ⟨[(0, .b (.one (.int .u8 b0)))], []⟩ rfl (Tri.seq (Tri.regionL ?_)))
 refine Oc om ?_
 obtain ⟨x_1, e1, h⟩ := bnd h
 refine Oc (op_call0 (lexer_letter_spec e1) goes91 rfl rfl) (Oc om ?_)
 refine CgF (!x_1) [] (fun g2 => trivial) (fun g2 => om) (OpsL.keepS ⟨[(0, _), (5, B x_1), (6, .opt (!x_1) (.one (.int .u8 b0)))], []⟩ rfl ?_)
 obtain ⟨x_2, e4, h⟩ := bnd h
 refine CgF (!x_1) [6] (fun g3 => ⟨g3, trivial⟩) (fun g3 => op_call0 (lexer_digit_spec (gc e4 g3)) goes95 rfl rfl) (Oc (op_pick_or (fun e => by first | (rw [e]; rfl) | (simp only at e; rw [e]; rfl)) rfl rfl rfl rfl) (Oc om ?_))
 refine CgF (!(x_1 || x_2)) [] (fun g5 => trivial) (fun g5 => om) (CgF (!(x_1 || x_2)) [10] (fun g6 => by exact ⟨g6, trivial⟩) (fun g6 => op_eql rfl rfl) (Oc (op_pick_or (fun e => by first | (rw [e]; rfl) | (simp only at e; rw [e]; rfl)) rfl rfl rfl rfl) (Oc oa ?_)))
 refine OpsL.nilS ⟨[(2, B ((x_1 || x_2) || (decide (b0 = 95))))], []⟩ rfl (Tri.ret ?_)
 obtain rfl := Option.some.inj h
 refine Fin.keepS ⟨[(2, _)], []⟩ rfl (Fin.result' [.one (.bool ((x_1 || x_2) || (decide (b0 = 95))))] (.inl rfl) rfl (.cons (.tmp rfl) .nil) ⟨rfl, rfl⟩)
def strings_IndexByte_S (F : Nat) (s0 : Str) (c0 : Int) : Option Int :=
 (lite_IndexByte_S F s0 c0).bind fun x_1 => some x_1
theorem strings_IndexByte_spec {F : Nat} {s0 : Str} {c0 : Int} {r : Int} (h : strings_IndexByte_S F s0 c0 = some r) : Meets Tryz.prog (tabs mx) 100 [] [.one (.str s0), .one (.int .u8 c0)] (Is [] (.b (.one (.i r)))) := by
 unfold strings_IndexByte_S at h
 refine Meets.intro 8 Tryz.func100 Tryz.ntmps100 rfl (by simp) fun E => ?_
 show Tri _ E ⟨8, [], [], []⟩ _ ⟨[(0, .b (.one (.str s0))), (1, .b (.one (.int .u8 c0)))], []⟩ _
 refine Tri.seq (Tri.regionL ?_)
 refine Oc oa (OpsL.nilS ⟨[(0, .b (.one (.str s0))), (1, .b (.one (.int .u8 c0)))], []⟩ rfl (Tri.seq (Tri.regionL ?_)))
 refine Oc om (Oc om ?_)
 obtain ⟨x_1, e1, h⟩ := bnd h
 refine Oc (op_call0 (lite_IndexByte_spec e1) goes138 rfl rfl) (Oc oa ?_)
 refine OpsL.nilS ⟨[(4, I x_1)], []⟩ rfl (Tri.ret ?_)
 obtain rfl := Option.some.inj h
 refine Fin.keepS ⟨[(4, _)], []⟩ rfl (Fin.result' [.one (.i x_1)] (.inl rfl) rfl (.cons (.tmp rfl) .nil) ⟨rfl, rfl⟩)
def lexer_scanner_skip_1_S (F : Nat) (b0 : Int) : Option Bool :=
 (strings_IndexByte_S F [32, 9, 10, 13] b0).bind fun x_1 => some (decide (0 ≤ x_1))
theorem lexer_scanner_skip_1_spec {F : Nat} {b0 : Int} {r : Bool} (h : lexer_scanner_skip_1_S F b0 = some r) : Meets Tryz.prog (tabs mx) 99 [] [.one (.int .u8 b0)] (Is [] (.b (.one (.bool r)))) := by
 unfold lexer_scanner_skip_1_S at h
 refine Meets.intro 6 Tryz.func99 Tryz.ntmps99 rfl (by simp) fun E => ?_
 show Tri _ E ⟨6, [], [], []⟩ _ ⟨[(0, .b (.one (.int .u8 b0)))], []⟩ _
 refine Tri.seq (Tri.regionL ?_)
 refine Oc oa (OpsL.nilS ⟨[(0, .b (.one (.int .u8 b0)))], []⟩ rfl (Tri.seq (Tri.regionL ?_)))
 refine Oc om ?_
 obtain ⟨x_1, e1, h⟩ := bnd h
 refine Oc (op_call0 (strings_IndexByte_spec e1) goes100 rfl rfl) (Oc (op_geq rfl rfl) (Oc oa ?_))
 refine OpsL.nilS ⟨[(2, B (decide (0 ≤ x_1)))], []⟩ rfl (Tri.ret ?_)
 obtain rfl := Option.some.inj h
 refine Fin.keepS ⟨[(2, _)], []⟩ rfl (Fin.result' [.one (.bool (decide (0 ≤ x_1)))] (.inl rfl) rfl (.cons (.tmp rfl) .nil) ⟨rfl, rfl⟩)
def lexer_scanner_skip_2_S (F : Nat) (b0 : Int) : Option Bool :=
 some (decide (b0 ≠ 10))
theorem lexer_scanner_skip_2_spec {F : Nat} {b0 : Int} {r : Bool} (h : lexer_scanner_skip_2_S F b0 = some r) : Meets Tryz.prog (tabs mx) 101 [] [.one (.int .u8 b0)] (Is [] (.b (.one (.bool r)))) := by
 unfold lexer_scanner_skip_2_S at h
 refine Meets.intro 5 Tryz.func101 Tryz.ntmps101 rfl (by simp) fun E => ?_
 show Tri _ E ⟨5, [], [], []⟩ _ ⟨[(0, .b (.one (.int .u8 b0)))], []⟩ _
 refine Tri.seq (Tri.regionL ?_)
 refine Oc oa (OpsL.nilS ⟨[(0, .b (.one (.int .u8 b0)))], []⟩ rfl (Tri.seq (Tri.regionL ?_)))
 refine Oc om (Oc (op_neq rfl rfl) (Oc oa ?_))
 refine OpsL.nilS ⟨[(2, B (decide (b0 ≠ 10)))], []⟩ rfl (Tri.ret ?_)
 obtain rfl := Option.some.inj h
 refine Fin.keepS ⟨[(2, _)], []⟩ rfl (Fin.result' [.one (.bool (decide (b0 ≠ 10)))] (.inl rfl) rfl (.cons (.tmp rfl) .nil) ⟨rfl, rfl⟩)
def byteFn_S (F : Nat) (fn0 : Nat) (b0 : Int) : Option Bool :=
 if fn0 = 94 then lexer_scanner_name_1_S F b0 else if fn0 = 95 then lexer_digit_S F b0 else if fn0 = 99 then lexer_scanner_skip_1_S F b0 else if fn0 = 101 then lexer_scanner_skip_2_S F b0 else none
theorem byteFn_spec {F : Nat} {fn0 : Nat} {b0 : Int} {r : Bool} (h : byteFn_S F fn0 b0 = some r) : Meets Tryz.prog (tabs mx) fn0 [] [.one (.int .u8 b0)] (Is [] (.b (.one (.bool r)))) := by
 unfold byteFn_S at h
 split at h
 ·next e => subst e; exact lexer_scanner_name_1_spec h
 ·next =>
  split at h
  ·next e => subst e; exact lexer_digit_spec h
  ·next =>
   split at h
   ·next e => subst e; exact lexer_scanner_skip_1_spec h
   ·next =>
    split at h
    ·next e => subst e; exact lexer_scanner_skip_2_spec h
    ·next =>
     simp at h
theorem byteFn_goes {F : Nat} {fn0 : Nat} {b0 : Int} {r : Bool} (h : byteFn_S F fn0 b0 = some r) : Goes Tryz.prog fn0 := by
 unfold byteFn_S at h
 split at h
 ·next e => subst e; exact goes94
 ·next =>
  split at h
  ·next e => subst e; exact goes95
  ·next =>
   split at h
   ·next e => subst e; exact goes99
   ·next =>
    split at h
    ·next e => subst e; exact goes101
    ·next =>
     simp at h
def lexer_scanner_peek_S (F : Nat) (c0s : Str) (c0at : Int) : Option Int :=
 if (decide (c0at = (c0s.length : Int))) = true then (some 0) else ((idx? c0s c0at).bind fun x_1 => some (x_1.toNat : Int))
theorem lexer_scanner_peek_spec {F : Nat} {c0s : Str} {c0at : Int} {r : Int} (h : lexer_scanner_peek_S F c0s c0at = some r) : Meets Tryz.prog (tabs mx) 92 [(1, .box 77 [.str c0s, .i c0at])] [.ptr 1 0] (Is [(1, .box 77 [.str c0s, .i c0at])] (.b (.one (.int .u8 r)))) := by
 unfold lexer_scanner_peek_S at h
 refine Meets.intro 22 Tryz.func92 Tryz.ntmps92 rfl (by simp) fun E => ?_
 show Tri _ E ⟨22, [1], [1], []⟩ _ ⟨[(0, Pt 1 0)], [(1, .box 77 [.str c0s, .i c0at])]⟩ _
 refine Tri.seq (Tri.regionL ?_)
 refine Oc oa (OpsL.nilS ⟨[(0, Pt 1 0)], [(1, .box 77 [.str c0s, .i c0at])]⟩ rfl (Tri.seq (Tri.seq ?_)))
 refine Tri.keepS ⟨[(0, _)], [(1, _)]⟩ rfl (Tri.regionY mixed 10 [Pt 1 0, Pt 1 0, Pt 1 1, I c0at, Pt 1 0, Pt 1 0, Pt 1 0, .b (.one (.str c0s)), I (c0s.length : Int), B (decide (c0at = (c0s.length : Int)))] [0, 12] [1] (s' := ⟨[(0, _), (12, B (decide (c0at = (c0s.length : Int))))], [(1, _)]⟩) rfl ⟨fun _ => .p om, fun _ => .p (op_nilCheck_p rfl), fun _ => .p (op_field_p tyFld77_1 rfl rfl), fun _ => .p (op_load_p1 tyOne3 rfl rfl rfl), fun _ => .p om, fun _ => .p (op_nilCheck_p rfl), fun _ => .p (op_field_p tyFld77_0 rfl rfl), fun _ => .p (op_load_p1 tyOne9 rfl rfl rfl), fun _ => .p (op_len_str und9 rfl), fun _ => .p (op_eql rfl rfl), trivial⟩ rfl rfl (Tri.ite h rfl (fun _ h => ?_) (fun _ h => ?_)))
 ·refine Tri.seq (Tri.regionL ?_)
  refine Oc oa (OpsL.nilS ⟨[(2, .b (.one (.int .u8 0)))], [(1, _)]⟩ rfl (Tri.ret (Fin.then_ret ?_)))
  obtain rfl := Option.some.inj h
  refine Fin.keepS ⟨[(2, _)], [(1, _)]⟩ rfl ?_
  exact Fin.result [.one (.int .u8 0)] (.inl rfl) rfl (.cons (.tmp rfl) .nil) ⟨rfl, rfl⟩
 ·refine Tri.skip (Fin.keepS ⟨[(0, _)], [(1, _)]⟩ rfl (Fin.then (Tri.seq ?_)))
  refine Tri.keepS ⟨[(0, _)], [(1, _)]⟩ rfl ?_
  obtain ⟨x_1, e1, h⟩ := bnd h
  refine Tri.regionY mixed 10 [Pt 1 0, Pt 1 0, Pt 1 0, .b (.one (.str c0s)), Pt 1 0, Pt 1 0, Pt 1 1, I c0at, .b (.one (.int .u8 (x_1.toNat : Int))), .b (.one (.int .u8 (x_1.toNat : Int)))] [2] [1] (s' := ⟨[(2, .b (.one (.int .u8 (x_1.toNat : Int))))], [(1, _)]⟩) rfl ⟨fun _ => .p om, fun _ => .p (op_nilCheck_p rfl), fun _ => .p (op_field_p tyFld77_0 rfl rfl), fun _ => .p (op_load_p1 tyOne9 rfl rfl rfl), fun _ => .p om, fun _ => .p (op_nilCheck_p rfl), fun _ => .p (op_field_p tyFld77_1 rfl rfl), fun _ => .p (op_load_p1 tyOne3 rfl rfl rfl), fun _ => .p (op_index_str und9 rfl rfl (ix_lo e1) (ix_get e1)), fun _ => .p oa, trivial⟩ rfl rfl (Tri.ret ?_)
  obtain rfl := Option.some.inj h
  refine Fin.keepS ⟨[(2, _)], [(1, _)]⟩ rfl ?_
  exact Fin.result [.one (.int .u8 (x_1.toNat : Int))] (.inl rfl) rfl (.cons (.tmp rfl) .nil) ⟨rfl, rfl⟩
def lexer_scanner_run_S (F : Nat) (is0 : Nat) (c0s : Str) (c0at : Int) : Option (Int × Str × Int) :=
 Option.bind (iter F (fun c_2 => (gcall (decide (c_2.pos < (c_2.s.length : Int))) (idx? c_2.s c_2.pos)).bind fun x_4 => (gcall (decide (c_2.pos < (c_2.s.length : Int))) (byteFn_S F is0 (x_4.toNat : Int))).bind fun x_5 => if ((decide (c_2.pos < (c_2.s.length : Int))) && x_5) = true then (some (.inl (⟨c_2.s, IntKind.i64.wrap (c_2.pos + 1)⟩ : Scan))) else (some (.inr c_2))) (⟨c0s, c0at⟩ : Scan)) (fun c_1 => some (IntKind.i64.wrap (c_1.pos - c0at), c_1.s, c_1.pos))
theorem lexer_scanner_run_spec {F : Nat} {is0 : Nat} {c0s : Str} {c0at : Int} {r : Int × Str × Int} (h : lexer_scanner_run_S F is0 c0s c0at = some r) : Meets Tryz.prog (tabs mx) 93 [(1, .box 77 [.str c0s, .i c0at])] [.ptr 1 0, .one (.raw (.func (.func is0) #[] #[]))] (Is [(1, .box 77 [.str r.2.1, .i r.2.2])] (.b (.one (.i r.1)))) := by
 unfold lexer_scanner_run_S at h
 refine Meets.intro 46 Tryz.func93 Tryz.ntmps93 rfl (by simp) fun E => ?_
 show Tri _ E ⟨46, [1], [1], []⟩ _ ⟨[(0, Pt 1 0), (1, .b (.one (.raw (.func (.func is0) #[] #[]))))], [(1, .box 77 [.str c0s, .i c0at])]⟩ _
 refine Tri.seq (Tri.regionL ?_)
 refine Oc oa (OpsL.nilS ⟨[(0, Pt 1 0), (1, .b (.one (.raw (.func (.func is0) #[] #[]))))], [(1, .box 77 [.str c0s, .i c0at])]⟩ rfl (Tri.seq (Tri.regionL ?_)))
 refine Oc om (Oc (op_nilCheck_p rfl) (Oc (op_field_p tyFld77_1 rfl rfl) (Oc (op_load_p1 tyOne3 rfl rfl rfl) (Oc oa ?_))))
 refine OpsL.nilS ⟨[(0, _), (1, _), (5, I c0at)], [(1, _)]⟩ rfl ?_
 obtain ⟨v1, h2, h⟩ := bnd h
 refine Tri.seqJ (v := v1) (fun (c_1 : Scan) => ⟨[(0, Pt 1 0), (5, I c0at)], [(1, .box 77 (eScan c_1))]⟩) (fun z => z) ?_ ?_
 ·refine Tri.block (Tri.loopJ h2 (fun (c_2 : Scan) => ⟨[(0, Pt 1 0), (1, .b (.one (.raw (.func (.func is0) #[] #[])))), (5, I c0at)], [(1, .box 77 (eScan c_2))]⟩) [0, 1, 5] [1] rfl ?_)
  rintro c_2 o3 h4 hy5
  refine Tri.seq (Tri.seq ?_)
  refine Tri.keepS ⟨[(0, _), (1, _), (5, _)], [(1, _)]⟩ rfl ?_
  obtain ⟨x_4, e16, h4⟩ := bnd h4
  obtain ⟨x_5, e18, h4⟩ := bnd h4
  refine Tri.regionY mixed 23 [Pt 1 0, Pt 1 0, Pt 1 1, I c_2.pos, Pt 1 0, Pt 1 0, Pt 1 0, .b (.one (.str c_2.s)), I (c_2.s.length : Int), B (decide (c_2.pos < (c_2.s.length : Int))), B (decide (c_2.pos < (c_2.s.length : Int))), .opt (decide (c_2.pos < (c_2.s.length : Int))) (.one (.raw (.func (.func is0) #[] #[]))), .opt (decide (c_2.pos < (c_2.s.length : Int))) (.ptr 1 0), .opt (decide (c_2.pos < (c_2.s.length : Int))) (.ptr 1 0), .opt (decide (c_2.pos < (c_2.s.length : Int))) (.ptr 1 0), .opt (decide (c_2.pos < (c_2.s.length : Int))) (.one (.str c_2.s)), .opt (decide (c_2.pos < (c_2.s.length : Int))) (.ptr 1 0), .opt (decide (c_2.pos < (c_2.s.length : Int))) (.ptr 1 0), .opt (decide (c_2.pos < (c_2.s.length : Int))) (.ptr 1 1), .opt (decide (c_2.pos < (c_2.s.length : Int))) (.one (.i c_2.pos)), .opt (decide (c_2.pos < (c_2.s.length : Int))) (.one (.int .u8 (x_4.toNat : Int))), .opt (decide (c_2.pos < (c_2.s.length : Int))) (.one (.bool x_5)), B ((decide (c_2.pos < (c_2.s.length : Int))) && x_5)] [0, 1, 5, 32] [1] (s' := ⟨[(0, _), (1, _), (5, _), (32, B ((decide (c_2.pos < (c_2.s.length : Int))) && x_5))], [(1, _)]⟩) rfl ⟨fun _ => .p om, fun _ => .p (op_nilCheck_p rfl), fun _ => .p (op_field_p tyFld77_1 rfl rfl), fun _ => .p (op_load_p1 tyOne3 rfl rfl rfl), fun _ => .p om, fun _ => .p (op_nilCheck_p rfl), fun _ => .p (op_field_p tyFld77_0 rfl rfl), fun _ => .p (op_load_p1 tyOne9 rfl rfl rfl), fun _ => .p (op_len_str und9 rfl), fun _ => .p (op_lss rfl rfl), fun _ => .p om, fun _ => by exact .guard (decide (c_2.pos < (c_2.s.length : Int))) 1 [] (.plain rfl) (eq_t _) rfl rfl (fun g6 => trivial) (fun g6 => om), fun _ => by exact .guard (decide (c_2.pos < (c_2.s.length : Int))) 1 [] (.plain rfl) (eq_t _) rfl rfl (fun g7 => trivial) (fun g7 => om), fun _ => by exact .guard (decide (c_2.pos < (c_2.s.length : Int))) 2 [22] (.plain rfl) (eq_t _) rfl rfl (fun g8 => ⟨g8, trivial⟩) (fun g8 => op_nilCheck_p rfl), fun _ => by exact .guard (decide (c_2.pos < (c_2.s.length : Int))) 2 [23] (.plain rfl) (eq_t _) rfl rfl (fun g9 => ⟨g9, trivial⟩) (fun g9 => op_field_p tyFld77_0 rfl rfl), fun _ => by exact .guard (decide (c_2.pos < (c_2.s.length : Int))) 2 [24] (.plain rfl) (eq_t _) rfl rfl (fun g10 => ⟨g10, trivial⟩) (fun g10 => op_load_p1 tyOne9 rfl rfl rfl), fun _ => by exact .guard (decide (c_2.pos < (c_2.s.length : Int))) 1 [] (.plain rfl) (eq_t _) rfl rfl (fun g11 => trivial) (fun g11 => om), fun _ => by exact .guard (decide (c_2.pos < (c_2.s.length : Int))) 2 [26] (.plain rfl) (eq_t _) rfl rfl (fun g12 => ⟨g12, trivial⟩) (fun g12 => op_nilCheck_p rfl), fun _ => by exact .guard (decide (c_2.pos < (c_2.s.length : Int))) 2 [27] (.plain rfl) (eq_t _) rfl rfl (fun g13 => ⟨g13, trivial⟩) (fun g13 => op_field_p tyFld77_1 rfl rfl), fun _ => by exact .guard (decide (c_2.pos < (c_2.s.length : Int))) 2 [28] (.plain rfl) (eq_t _) rfl rfl (fun g14 => ⟨g14, trivial⟩) (fun g14 => op_load_p1 tyOne3 rfl rfl rfl), fun _ => by exact .guard (decide (c_2.pos < (c_2.s.length : Int))) 3 [25, 29] (.plain rfl) (eq_t _) rfl rfl (fun g15 => ⟨g15, g15, trivial⟩) (fun g15 => op_index_str und9 rfl rfl (ix_lo (gc e16 g15)) (ix_get (gc e16 g15))), fun _ => by exact .guard (decide (c_2.pos < (c_2.s.length : Int))) 4 [21, 30] (.plain rfl) (eq_t _) rfl rfl (fun g17 => ⟨g17, g17, trivial⟩) (fun g17 => op_callv0 (byteFn_spec (gc e18 g17)) (byteFn_goes (gc e18 g17)) rfl rfl rfl), fun _ => .p (op_pick_and (fun e => e) rfl rfl rfl rfl), trivial⟩ rfl rfl ?_
  refine Tri.ite h4 rfl (fun _ h4 => ?_) (fun _ h4 => ?_)
  ·refine Tri.skip (Fin.keepS ⟨[(0, _), (1, _), (5, _)], [(1, _)]⟩ rfl (Fin.then (Tri.block (Tri.regionL ?_))))
   refine Oc om (Oc (op_nilCheck_p rfl) (Oc (op_field_p tyFld77_1 rfl rfl) (Oc (op_load_p1 tyOne3 rfl rfl rfl) (Oc (op_add rfl rfl) (Oc (op_nilCheck_p rfl) ?_)))))
   refine Oc (op_field_p tyFld77_1 rfl rfl) (Oc (op_store_p1 tyOne3 rfl rfl rfl (Nat.le_of_ble_eq_true rfl) rfl) ?_)
   refine OpsL.nil (Fin.block_normal ?_)
   exact Fin.againJ [0, 1, 5] [1] (⟨c_2.s, IntKind.i64.wrap (c_2.pos + 1)⟩ : Scan) (Option.some.inj h4) rfl
  ·refine Tri.exit (Fin.then_exit ?_)
   obtain rfl := hy5 _ (Option.some.inj h4).symm
   refine Fin.then_exit (Fin.block_exit ?_)
   exact Fin.join [0, 5] [1] c_2 rfl rfl
 ·rintro c_1 hv
  subst v1
  refine Tri.seq (Tri.regionL ?_)
  refine Oc om (Oc (op_nilCheck_p rfl) (Oc (op_field_p tyFld77_1 rfl rfl) (Oc (op_load_p1 tyOne3 rfl rfl rfl) (Oc om (Oc (op_sub rfl rfl) ?_)))))
  refine Oc oa (OpsL.nilS ⟨[(4, I (IntKind.i64.wrap (c_1.pos - c0at)))], [(1, _)]⟩ rfl (Tri.ret ?_))
  obtain rfl := Option.some.inj h
  refine Fin.keepS ⟨[(4, _)], [(1, _)]⟩ rfl ?_
  exact Fin.result [.one (.i (IntKind.i64.wrap (c_1.pos - c0at)))] (.inl rfl) rfl (.cons (.tmp rfl) .nil) ⟨rfl, rfl⟩
def lexer_scanner_fail_S (F : Nat) (at0 : Int) (e0 : Int) (c0s : Str) (c0at : Int) : Option Problem :=
 some (⟨at0, e0⟩ : Problem)
theorem lexer_scanner_fail_pan {F : Nat} {at0 : Int} {e0 : Int} {c0s : Str} {c0at : Int} {r : Problem} (h : lexer_scanner_fail_S F at0 e0 c0s c0at = some r) : Panics Tryz.prog (tabs mx) 96 [(1, .box 77 [.str c0s, .i c0at])] [.ptr 1 0, .one (.i at0), .one (.i e0)] ((fun p : Problem => .iface 46 (.agg #[.int .i64 p.At, .int .i64 p.E])) r) ((fun p : Problem => inR .i64 p.At ∧ inR .i64 p.E) r) := by
 unfold lexer_scanner_fail_S at h
 refine MeetsP.intro 10 Tryz.func96 Tryz.ntmps96 rfl (by simp) fun E => ?_
 show Tri _ E ⟨10, [1], [1], []⟩ _ ⟨[(0, Pt 1 0), (1, I at0), (2, I e0)], [(1, .box 77 [.str c0s, .i c0at])]⟩ _
 refine Tri.regionL (Oc om (Oc om (Oc (op_build tyBuild46 rfl rfl) (Oc (op_iface_agg conc46 rfl) ?_))))
 refine OpsL.panic2 rfl (fun hok => ?_)
 obtain rfl := Option.some.inj h
 exact Fin.panEnd ⟨rfl, hok⟩
def cmp_isNaN_S (F : Nat) (x0 : Str) : Option Bool :=
 some (decide (x0 ≠ x0))
theorem cmp_isNaN_spec {F : Nat} {x0 : Str} {r : Bool} (h : cmp_isNaN_S F x0 = some r) : Meets Tryz.prog (tabs mx) 149 [] [.one (.str x0)] (Is [] (.b (.one (.bool r)))) := by
 unfold cmp_isNaN_S at h
 refine Meets.intro 6 Tryz.func149 Tryz.ntmps149 rfl (by simp) fun E => ?_
 show Tri _ E ⟨6, [], [], []⟩ _ ⟨[(0, .b (.one (.str x0)))], []⟩ _
 refine Tri.seq (Tri.regionL ?_)
 refine Oc oa (OpsL.nilS ⟨[(0, .b (.one (.str x0)))], []⟩ rfl (Tri.seq (Tri.regionL ?_)))
 refine Oc om (Oc om (Oc (op_neq_str rfl rfl) (Oc oa ?_)))
 refine OpsL.nilS ⟨[(2, B (decide (x0 ≠ x0)))], []⟩ rfl (Tri.ret ?_)
 obtain rfl := Option.some.inj h
 refine Fin.keepS ⟨[(2, _)], []⟩ rfl (Fin.result' [.one (.bool (decide (x0 ≠ x0)))] (.inl rfl) rfl (.cons (.tmp rfl) .nil) ⟨rfl, rfl⟩)
def cmp_Less_S (F : Nat) (x0 : Str) (y0 : Str) : Option Bool :=
 (cmp_isNaN_S F x0).bind fun x_1 => (gcall x_1 (cmp_isNaN_S F y0)).bind fun x_2 => some ((x_1 && (!x_2)) || (Op.bytesLess x0 y0))
theorem cmp_Less_spec {F : Nat} {x0 : Str} {y0 : Str} {r : Bool} (h : cmp_Less_S F x0 y0 = some r) : Meets Tryz.prog (tabs mx) 115 [] [.one (.str x0), .one (.str y0)] (Is [] (.b (.one (.bool r)))) := by
 unfold cmp_Less_S at h
 refine Meets.intro 17 Tryz.func115 Tryz.ntmps115 rfl (by simp) fun E => ?_
 show Tri _ E ⟨17, [], [], []⟩ _ ⟨[(0, .b (.one (.str x0))), (1, .b (.one (.str y0)))], []⟩ _
 refine Tri.seq (Tri.regionL ?_)
 refine Oc oa (OpsL.nilS ⟨[(0, .b (.one (.str x0))), (1, .b (.one (.str y0)))], []⟩ rfl (Tri.seq (Tri.regionL ?_)))
 refine Oc om ?_
 obtain ⟨x_1, e1, h⟩ := bnd h
 refine Oc (op_call0 (cmp_isNaN_spec e1) goes149 rfl rfl) (Oc om ?_)
 refine CgT x_1 [] (fun g2 => trivial) (fun g2 => om) (OpsL.keepS ⟨[(0, _), (1, _), (7, B x_1), (8, .opt x_1 (.one (.str y0)))], []⟩ rfl ?_)
 obtain ⟨x_2, e4, h⟩ := bnd h
 refine CgT x_1 [8] (fun g3 => ⟨g3, trivial⟩) (fun g3 => op_call0 (cmp_isNaN_spec (gc e4 g3)) goes149 rfl rfl) (CgT x_1 [9] (fun g5 => ⟨g5, trivial⟩) (fun g5 => op_not rfl) (Oc (op_pick_and (fun e => e) rfl rfl rfl rfl) (Oc om ?_)))
 refine CgF (!(x_1 && (!x_2))) [] (fun g6 => trivial) (fun g6 => om) (CgF (!(x_1 && (!x_2))) [] (fun g7 => by exact trivial) (fun g7 => om) (CgF (!(x_1 && (!x_2))) [13, 14] (fun g8 => by exact ⟨g8, g8, trivial⟩) (fun g8 => op_lss_str rfl rfl) (Oc (op_pick_or (fun e => by first | (rw [e]; rfl) | (simp only at e; rw [e]; rfl)) rfl rfl rfl rfl) (Oc oa ?_))))
 refine OpsL.nilS ⟨[(4, B ((x_1 && (!x_2)) || (Op.bytesLess x0 y0)))], []⟩ rfl (Tri.ret ?_)
 obtain rfl := Option.some.inj h
 refine Fin.keepS ⟨[(4, _)], []⟩ rfl (Fin.result' [.one (.bool ((x_1 && (!x_2)) || (Op.bytesLess x0 y0)))] (.inl rfl) rfl (.cons (.tmp rfl) .nil) ⟨rfl, rfl⟩)
def slices_isNaN_S (F : Nat) (x0 : Str) : Option Bool :=
 some (decide (x0 ≠ x0))
theorem slices_isNaN_spec {F : Nat} {x0 : Str} {r : Bool} (h : slices_isNaN_S F x0 = some r) : Meets Tryz.prog (tabs mx) 116 [] [.one (.str x0)] (Is [] (.b (.one (.bool r)))) := by
 unfold slices_isNaN_S at h
 refine Meets.intro 6 Tryz.func116 Tryz.ntmps116 rfl (by simp) fun E => ?_
 show Tri _ E ⟨6, [], [], []⟩ _ ⟨[(0, .b (.one (.str x0)))], []⟩ _
 refine Tri.seq (Tri.regionL ?_)
 refine Oc oa (OpsL.nilS ⟨[(0, .b (.one (.str x0)))], []⟩ rfl (Tri.seq (Tri.regionL ?_)))
 refine Oc om (Oc om (Oc (op_neq_str rfl rfl) (Oc oa ?_)))
 refine OpsL.nilS ⟨[(2, B (decide (x0 ≠ x0)))], []⟩ rfl (Tri.ret ?_)
 obtain rfl := Option.some.inj h
 refine Fin.keepS ⟨[(2, _)], []⟩ rfl (Fin.result' [.one (.bool (decide (x0 ≠ x0)))] (.inl rfl) rfl (.cons (.tmp rfl) .nil) ⟨rfl, rfl⟩)
def slices_BinarySearch_S (F : Nat) (x0 : List Str) (target0 : Str) : Option (Int × Bool) :=
 Option.bind (iter F (un2 fun i_2 j_3 => if (decide (i_2 < j_3)) = true then (letN (IntKind.u64.wrap (IntKind.i64.wrap (i_2 + j_3))) fun x_5 => (idx? x0 (IntKind.i64.wrap (x_5 / 2))).bind fun x_6 => (cmp_Less_S F x_6 target0).bind fun x_7 => if x_7 = true then (letN (IntKind.i64.wrap ((IntKind.i64.wrap (x_5 / 2)) + 1)) fun x_8 => some (.inl (x_8, j_3))) else (some (.inl (i_2, IntKind.i64.wrap (x_5 / 2))))) else (some (.inr i_2))) (0, (x0.length : Int))) (fun i_1 => (gcall (decide (i_1 < (x0.length : Int))) (idx? x0 i_1)).bind fun x_9 => (gcall ((decide (i_1 < (x0.length : Int))) && !(decide (x_9 = target0))) (idx? x0 i_1)).bind fun x_10 => (gcall ((decide (i_1 < (x0.length : Int))) && !(decide (x_9 = target0))) (slices_isNaN_S F x_10)).bind fun x_11 => (gcall (((decide (i_1 < (x0.length : Int))) && !(decide (x_9 = target0))) && x_11) (slices_isNaN_S F target0)).bind fun x_12 => letN ((decide (i_1 < (x0.length : Int))) && ((decide (x_9 = target0)) || (x_11 && x_12))) fun x_13 => some (i_1, x_13))
theorem slices_BinarySearch_spec {F : Nat} {x0 : List Str} {target0 : Str} {r : Int × Bool} (h : slices_BinarySearch_S F x0 target0 = some r) : Meets Tryz.prog (tabs mx) 56 [] [.one (.sl 1 (x0.map eS)), .one (.str target0)] (Is [] (.tup [.one (.i r.1), .one (.bool r.2)])) := by
 unfold slices_BinarySearch_S at h
 refine Meets.intro 54 Tryz.func56 Tryz.ntmps56 rfl (by simp) fun E => ?_
 show Tri _ E ⟨54, [], [], []⟩ _ ⟨[(0, .b (.one (.sl 1 (x0.map eS)))), (1, .b (.one (.str target0)))], []⟩ _
 refine Tri.seq (Tri.regionL ?_)
 refine Oc oa (Oc oa ?_)
 refine OpsL.nilS ⟨[(0, .b (.one (.sl 1 (x0.map eS)))), (1, .b (.one (.str target0)))], []⟩ rfl (Tri.seq (Tri.regionL ?_))
 refine Oc om (Oc (op_len_e' und44 rfl (List.length_map _)) (Oc oa ?_))
 refine OpsL.nilS ⟨[(0, _), (1, _), (6, I (x0.length : Int))], []⟩ rfl (Tri.seq (Tri.regionL ?_))
 refine Oc om (Oc oa (Oc oa ?_))
 refine OpsL.nilS ⟨[(0, _), (1, _), (6, _), (7, I 0), (8, I (x0.length : Int))], []⟩ rfl ?_
 obtain ⟨v1, h2, h⟩ := bnd h
 refine Tri.seqJ (v := v1) (fun (i_1 : Int) => ⟨[(0, .b (.one (.sl 1 (x0.map eS)))), (1, .b (.one (.str target0))), (6, I (x0.length : Int)), (7, I i_1)], []⟩) (fun z => z) ?_ ?_
 ·refine Tri.block (Tri.loopJ h2 (un2 fun (i_2 : Int) (j_3 : Int) => ⟨[(0, .b (.one (.sl 1 (x0.map eS)))), (1, .b (.one (.str target0))), (6, I (x0.length : Int)), (7, I i_2), (8, I j_3)], []⟩) [0, 1, 6, 7, 8] [] rfl ?_)
  rintro ⟨i_2, j_3⟩ o3 h4 hy5
  refine Tri.seq (Tri.seq (Tri.regionL ?_))
  refine Oc om (Oc om (Oc (op_lss rfl rfl) ?_))
  refine OpsL.nilS ⟨[(0, _), (1, _), (6, _), (7, _), (8, _), (15, B (decide (i_2 < j_3)))], []⟩ rfl (Tri.ite h4 rfl (fun _ h4 => ?_) (fun _ h4 => ?_))
  ·refine Tri.skip (Fin.keepS ⟨[(0, _), (1, _), (6, _), (7, _), (8, _)], []⟩ rfl (Fin.then (Tri.block (Tri.seq (Tri.regionL ?_)))))
   refine Oc om (Oc om (Oc (op_add rfl rfl) ?_))
   refine OpsL.consI .u64 h4 rfl (op_conv_wrap undi3 undi55 rfl) (fun x_5 h4 => ?_)
   refine Oc (op_shr2 (m := 1) (by decide) rfl rfl rfl) (Oc (op_conv_wrap undi55 undi3 rfl) (Oc oa ?_))
   refine OpsL.nilS ⟨[(0, _), (1, _), (6, _), (7, _), (8, _), (9, I (IntKind.i64.wrap (x_5 / 2)))], []⟩ rfl (Tri.seq (Tri.regionL ?_))
   refine Oc om (Oc om ?_)
   obtain ⟨x_6, e6, h4⟩ := bnd h4
   refine Oc (op_index_e tySl44 (ix_lo e6) (ix_map (e := eS) e6) rfl rfl) (Oc (op_load_e1 tyOne9 rfl rfl) (Oc om ?_))
   obtain ⟨x_7, e7, h4⟩ := bnd h4
   refine Oc (op_call0 (cmp_Less_spec e7) goes115 rfl rfl) (OpsL.nilS ⟨[(0, _), (1, _), (6, _), (7, _), (8, _), (9, _), (27, B x_7)], []⟩ rfl (Tri.ite h4 rfl (fun _ h4 => ?_) (fun _ h4 => ?_)))
   ·refine Tri.regionL (Oc om (OpsL.consI .i64 h4 rfl (op_add rfl rfl) (fun x_8 h4 => ?_)))
    refine Oc oa (OpsL.nil (Fin.block_normal ?_))
    exact Fin.againJ [0, 1, 6, 7, 8] [] (x_8, j_3) (Option.some.inj h4) rfl
   ·refine Tri.regionL (Oc om (Oc oa ?_))
    refine OpsL.nil (Fin.block_normal ?_)
    exact Fin.againJ [0, 1, 6, 7, 8] [] (i_2, IntKind.i64.wrap (x_5 / 2)) (Option.some.inj h4) rfl
  ·refine Tri.exit (Fin.then_exit ?_)
   obtain rfl := hy5 _ (Option.some.inj h4).symm
   refine Fin.then_exit (Fin.block_exit ?_)
   exact Fin.join [0, 1, 6, 7] [] i_2 rfl rfl
 ·rintro i_1 hv
  subst v1
  refine Tri.seq (Tri.regionL ?_)
  refine Oc om (Oc om (Oc om (Oc (op_lss rfl rfl) (Oc om ?_))))
  refine CgT (decide (i_1 < (x0.length : Int))) [] (fun g8 => trivial) (fun g8 => om) (CgT (decide (i_1 < (x0.length : Int))) [] (fun g9 => by exact trivial) (fun g9 => om) (OpsL.keepS ⟨[(0, _), (1, _), (7, _), (31, I i_1), (35, B (decide (i_1 < (x0.length : Int)))), (36, .opt (decide (i_1 < (x0.length : Int))) (.one (.sl 1 (x0.map eS)))), (37, .opt (decide (i_1 < (x0.length : Int))) (.one (.i i_1)))], []⟩ rfl ?_))
  obtain ⟨x_9, e11, h⟩ := bnd h
  refine CgT (decide (i_1 < (x0.length : Int))) [36, 37] (fun g10 => ⟨g10, g10, trivial⟩) (fun g10 => op_index_e tySl44 (ix_lo (gc e11 g10)) (ix_map (e := eS) (gc e11 g10)) rfl rfl) (CgT (decide (i_1 < (x0.length : Int))) [38] (fun g12 => ⟨g12, trivial⟩) (fun g12 => op_load_e1 tyOne9 rfl rfl) (CgT (decide (i_1 < (x0.length : Int))) [] (fun g13 => trivial) (fun g13 => om) (CgT (decide (i_1 < (x0.length : Int))) [39, 40] (fun g14 => by exact ⟨g14, g14, trivial⟩) (fun g14 => op_eql_str rfl rfl) (CgT (decide (i_1 < (x0.length : Int))) [41] (fun g15 => by exact ⟨g15, trivial⟩) (fun g15 => om) (OpsL.consG ((decide (i_1 < (x0.length : Int))) && !(decide (x_9 = target0))) 99 [] (.under rfl) (and_f _ _) rfl rfl (fun g16 => by exact trivial) (fun g16 => om) ?_)))))
  refine OpsL.consG ((decide (i_1 < (x0.length : Int))) && !(decide (x_9 = target0))) 99 [] (.under rfl) (and_f _ _) rfl rfl (fun g17 => trivial) (fun g17 => om) ?_
  obtain ⟨x_10, e19, h⟩ := bnd h
  refine OpsL.consG ((decide (i_1 < (x0.length : Int))) && !(decide (x_9 = target0))) 99 [43, 44] (.under rfl) (and_f _ _) rfl rfl (fun g18 => ⟨g18, g18, trivial⟩) (fun g18 => op_index_e tySl44 (ix_lo (gc e19 g18)) (ix_map (e := eS) (gc e19 g18)) rfl rfl) (OpsL.keepS ⟨[(1, _), (31, _), (35, _), (42, .opt (decide (i_1 < (x0.length : Int))) (.one (.bool (decide (x_9 = target0))))), (45, .opt ((decide (i_1 < (x0.length : Int))) && !(decide (x_9 = target0))) (.eptr [.str x_10]))], []⟩ rfl (OpsL.consG ((decide (i_1 < (x0.length : Int))) && !(decide (x_9 = target0))) 99 [45] (.under rfl) (and_f _ _) rfl rfl (fun g20 => ⟨g20, trivial⟩) (fun g20 => op_load_e1 tyOne9 rfl rfl) ?_))
  obtain ⟨x_11, e22, h⟩ := bnd h
  refine OpsL.consG ((decide (i_1 < (x0.length : Int))) && !(decide (x_9 = target0))) 99 [46] (.under rfl) (and_f _ _) rfl rfl (fun g21 => ⟨g21, trivial⟩) (fun g21 => op_call0 (slices_isNaN_spec (gc e22 g21)) goes116 rfl rfl) (OpsL.consG ((decide (i_1 < (x0.length : Int))) && !(decide (x_9 = target0))) 99 [47] (.under rfl) (and_f _ _) rfl rfl (fun g23 => ⟨g23, trivial⟩) (fun g23 => om) (OpsL.consG (((decide (i_1 < (x0.length : Int))) && !(decide (x_9 = target0))) && x_11) 99 [] (.under rfl) (and_t _ _) rfl rfl (fun g24 => trivial) (fun g24 => om) (OpsL.keepS ⟨[(31, _), (35, _), (42, _), (48, .opt ((decide (i_1 < (x0.length : Int))) && !(decide (x_9 = target0))) (.one (.bool x_11))), (49, .opt (((decide (i_1 < (x0.length : Int))) && !(decide (x_9 = target0))) && x_11) (.one (.str target0)))], []⟩ rfl ?_)))
  obtain ⟨x_12, e26, h⟩ := bnd h
  refine OpsL.consG (((decide (i_1 < (x0.length : Int))) && !(decide (x_9 = target0))) && x_11) 99 [49] (.under rfl) (and_t _ _) rfl rfl (fun g25 => ⟨g25, trivial⟩) (fun g25 => op_call0 (slices_isNaN_spec (gc e26 g25)) goes116 rfl rfl) (OpsL.consG ((decide (i_1 < (x0.length : Int))) && !(decide (x_9 = target0))) 99 [48] (.under rfl) (and_f _ _) rfl rfl (fun g27 => ⟨g27, trivial⟩) (fun g27 => op_pick_and (fun e => by rw [g27, e]; rfl) rfl rfl rfl rfl) (CgT (decide (i_1 < (x0.length : Int))) [42] (fun g28 => ⟨g28, trivial⟩) (fun g28 => op_pick_or (fun e => by rw [g28, e]; rfl) rfl rfl rfl rfl) (OpsL.consB h rfl (op_pick_and (fun e => e) rfl rfl rfl rfl) (fun x_13 h => ?_))))
  refine Oc oa (Oc oa ?_)
  refine OpsL.nilS ⟨[(4, I i_1), (5, B x_13)], []⟩ rfl (Tri.ret ?_)
  obtain rfl := Option.some.inj h
  refine Fin.keepS ⟨[(4, _), (5, _)], []⟩ rfl (Fin.result' [.one (.i i_1), .one (.bool x_13)] (.inl rfl) rfl (.cons (.tmp rfl) (.cons (.tmp rfl) .nil)) ⟨rfl, rfl⟩)
def lexer_Word_S (F : Nat) (s0 : Str) : Option Bool :=
 Option.bind (slices_BinarySearch_S F wordsT s0) (un2 fun x_1 x_2 => some x_2)
theorem lexer_Word_spec {F : Nat} {s0 : Str} {r : Bool} (h : lexer_Word_S F s0 = some r) : Meets Tryz.prog (tabs mx) 25 [] [.one (.str s0)] (Is [] (.b (.one (.bool r)))) := by
 unfold lexer_Word_S at h
 refine Meets.intro 12 Tryz.func25 Tryz.ntmps25 rfl (by simp) fun E => ?_
 show Tri _ E ⟨12, [], [], []⟩ _ ⟨[(0, .b (.one (.str s0)))], []⟩ _
 refine Tri.seq (Tri.regionL ?_)
 refine Oc oa (OpsL.nilS ⟨[(0, .b (.one (.str s0)))], []⟩ rfl (Tri.seq (Tri.regionL ?_)))
 refine Oc (op_slice_g (xs := wordsT) (enc := eS) words_mem words_rel tyArr88 rfl rfl (fun _ => rfl) (by rw [maxLen_eq]; decide)) (Oc om ?_)
 obtain ⟨⟨x_1, x_2⟩, e1, h⟩ := bnd h
 refine Oc (op_call0 (slices_BinarySearch_spec e1) goes56 rfl rfl) (Oc om (Oc (op_extract rfl rfl) ?_))
 refine OpsL.keepS ⟨[(5, .tup [.one (.i x_1), .one (.bool x_2)]), (9, I x_1)], []⟩ rfl (Oc (op_extract rfl rfl) (Oc oa (Oc oa ?_)))
 refine OpsL.nilS ⟨[(4, B x_2)], []⟩ rfl (Tri.seq (Tri.regionL ?_))
 refine Oc om (Oc oa ?_)
 refine OpsL.nilS ⟨[(2, B x_2)], []⟩ rfl (Tri.ret ?_)
 obtain rfl := Option.some.inj h
 refine Fin.keepS ⟨[(2, _)], []⟩ rfl (Fin.result' [.one (.bool x_2)] (.inl rfl) rfl (.cons (.tmp rfl) .nil) ⟨rfl, rfl⟩)
def lexer_scanner_name_S (F : Nat) (c0s : Str) (c0at : Int) : Option ((Token × Bool × Str × Int) ⊕ Problem) :=
 (lexer_scanner_peek_S F c0s c0at).bind fun x_1 => (lexer_letter_S F x_1).bind fun x_2 => if (!x_2) = true then (some (.inl ((⟨0, 0, []⟩ : Token), false, c0s, c0at))) else (Option.bind (Option.bind (lexer_scanner_run_S F 94 c0s c0at) (un3 fun x_4 x_5 x_6 => if (decide (32 < x_4)) = true then ((lexer_scanner_fail_S F c0at 2 x_5 x_6).bind fun p_7 => some (.inr (.inr p_7))) else (some (.inl (⟨x_5, x_6⟩ : Scan))))) (alt2 (fun c_3 => Option.bind (sub? c_3.s c0at c_3.pos) (fun x_8 => Option.bind ((lexer_Word_S F x_8).bind fun x_10 => if x_10 = true then (some (⟨1, c0at, x_8⟩ : Token)) else (some (⟨2, c0at, x_8⟩ : Token))) (fun t_9 => some (.inl (t_9, true, c_3.s, c_3.pos))))) (fun y => some y)))
theorem lexer_scanner_name_specP {F : Nat} {c0s : Str} {c0at : Int} {r : (Token × Bool × Str × Int) ⊕ Problem} (h : lexer_scanner_name_S F c0s c0at = some r) : MeetsP Tryz.prog (tabs mx) 41 [(1, .box 77 [.str c0s, .i c0at])] [.ptr 1 0] (IsP r (fun (r : Token × Bool × Str × Int) => [(1, .box 77 [.str r.2.2.1, .i r.2.2.2])]) (fun (r : Token × Bool × Str × Int) => .tup [.agg (eToken r.1), .one (.bool r.2.1)])) (PanP r (fun p : Problem => .iface 46 (.agg #[.int .i64 p.At, .int .i64 p.E])) (fun p : Problem => inR .i64 p.At ∧ inR .i64 p.E)) := by
 unfold lexer_scanner_name_S at h
 refine MeetsP.intro 38 Tryz.func41 Tryz.ntmps41 rfl (by simp) fun E => ?_
 show Tri _ E ⟨38, [1], [1], []⟩ _ ⟨[(0, Pt 1 0)], [(1, .box 77 [.str c0s, .i c0at])]⟩ _
 refine Tri.seq (Tri.regionL ?_)
 refine Oc (op_alloc (k := 101) tyZero31 rfl) (Oc oa ?_)
 refine OpsL.nilS ⟨[(0, Pt 1 0), (2, Pt 101 0)], [(1, .box 77 [.str c0s, .i c0at]), (101, .box 31 [.i 0, .i 0, .str []])]⟩ rfl (Tri.seq (Tri.regionL ?_))
 refine Oc om (Oc (op_nilCheck_p rfl) (Oc (op_field_p tyFld77_1 rfl rfl) (Oc (op_load_p1 tyOne3 rfl rfl rfl) (Oc oa ?_))))
 refine OpsL.nilS ⟨[(0, _), (2, _), (4, I c0at)], [(1, _), (101, _)]⟩ rfl (Tri.seq (Tri.seq (Tri.regionL ?_)))
 refine Oc om ?_
 obtain ⟨x_1, e1, h⟩ := bnd h
 refine Oc (op_call (own_a := [(1, _)]) (lexer_scanner_peek_spec e1) goes92 rfl ⟨rfl, trivial⟩ rfl rfl) ?_
 obtain ⟨x_2, e2, h⟩ := bnd h
 refine Oc (op_call0 (lexer_letter_spec e2) goes91 rfl rfl) (Oc (op_not rfl) ?_)
 refine OpsL.nilS ⟨[(0, _), (2, _), (4, _), (13, B (!x_2))], [(1, _), (101, _)]⟩ rfl (Tri.ite h rfl (fun _ h => ?_) (fun _ h => ?_))
 ·refine Tri.seq (Tri.regionL ?_)
  refine Oc (op_build tyBuild31 rfl rfl) (Oc (op_store_p tyAgg31 rfl rfl rfl rfl (Nat.le_of_ble_eq_true rfl) rfl) (Oc oa ?_))
  refine OpsL.nilS ⟨[(2, _), (3, B false)], [(1, _), (101, _)]⟩ rfl (Tri.ret (Fin.then_ret ?_))
  obtain rfl := Option.some.inj h
  refine Fin.keepS ⟨[(2, _), (3, _)], [(1, _), (101, _)]⟩ rfl (Fin.retP (.inl rfl) ?_)
  exact Fin.resultX [1] [.agg [.i 0, .i 0, .str []], .one (.bool false)] (.inl rfl) rfl (.cons (.old (.agg tyAgg31 rfl rfl rfl rfl)) (.cons (.old (.tmp rfl)) .nil)) ⟨_, rfl, rfl, rfl⟩
 ·refine Tri.skip (Fin.keepS ⟨[(0, _), (2, _), (4, _)], [(1, _), (101, _)]⟩ rfl (Fin.then ?_))
  obtain ⟨v3, h4, h⟩ := bnd h
  refine Tri.seqJ (v := v3) (fun (c_3 : Scan) => ⟨[(0, Pt 1 0), (2, Pt 101 0), (4, I c0at)], [(1, .box 77 (eScan c_3)), (101, .box 31 [.i 0, .i 0, .str []])]⟩) (fun z => .inl z) ?_ ?_
  ·refine Tri.seq (Tri.regionL ?_)
   refine Oc om ?_
   obtain ⟨⟨x_4, x_5, x_6⟩, e5, h4⟩ := bnd h4
   refine Oc (op_call (own_a := [(1, _)]) (lexer_scanner_run_spec e5) goes93 rfl ⟨rfl, trivial⟩ rfl rfl) (Oc (op_gtr rfl rfl) ?_)
   refine OpsL.nilS ⟨[(0, _), (2, _), (4, _), (17, B (decide (32 < x_4)))], [(1, .box 77 [.str x_5, .i x_6]), (101, _)]⟩ rfl (Tri.ite h4 rfl (fun _ h4 => ?_) (fun _ h4 => ?_))
   ·refine Tri.regionL (Oc om (Oc om ?_))
    obtain ⟨p_7, e6, h4⟩ := bnd h4
    refine OpsL.callPan (own_a := [(1, _)]) (lexer_scanner_fail_pan e6) goes96 rfl ⟨rfl, trivial⟩ (fun hok => ?_)
    obtain rfl := Option.some.inj h4
    refine Fin.then_pan ?_
    obtain rfl := Option.some.inj h
    exact Fin.panEnd ⟨_, rfl, rfl, hok⟩
   ·refine Tri.skip ?_
    exact Fin.join [0, 2, 4] [1, 101] (⟨x_5, x_6⟩ : Scan) (Option.some.inj h4) rfl
  ·rintro c_3 hv
   subst v3
   refine Tri.seq (Tri.keepS ⟨[(0, _), (2, _), (4, _)], [(1, _), (101, _)]⟩ rfl ?_)
   obtain ⟨x_8, e7, h⟩ := bnd h
   refine Tri.regionW mixed [false, false, false, false, false, false, false, false, false, false, false, false, true, true] [I c0at, Pt 1 0, Pt 1 0, Pt 1 0, .b (.one (.str c_3.s)), I c0at, Pt 1 0, Pt 1 0, Pt 1 1, I c_3.pos, .b (.one (.str x_8)), .b (.agg [.i 2, .i c0at, .str x_8]), Pt 102 0, B true] [⟨[false, false, false, false, false, false, false, false, false, false, false, false, false, false], [(0, Pt 1 0), (2, Pt 101 0), (4, I c0at)], [(1, .box 77 (eScan c_3)), (101, .box 31 [.i 0, .i 0, .str []])], [true, true, true, true, true, true, true, true, true, true, true, true, true, true], [], [13]⟩, ⟨[false, false, false, false, false, false, false, false, false, false, false, false, true, false], [(0, Pt 1 0), (2, Pt 101 0), (4, I c0at)], [(1, .box 77 (eScan c_3)), (101, .box 31 [.i 0, .i 0, .str []]), (102, .box 31 [.i 0, .i 0, .str []])], [true, true, true, true, true, true, true, true, true, true, true, true, true, true], [12], []⟩, ⟨[false, false, false, false, false, false, false, false, false, false, false, false, true, true], [(0, Pt 1 0), (2, Pt 101 0), (4, I c0at)], [(1, .box 77 (eScan c_3)), (101, .box 31 [.i 0, .i 0, .str []]), (102, .box 31 [.i 2, .i c0at, .str x_8])], [true, true, true, true, true, true, true, true, true, true, true, true, true, true], [0, 1, 2, 3, 4, 5, 6, 7, 8, 9, 10, 11, 12, 13], []⟩] rfl (⟨by kernel_rfl, ⟨⟨I c0at, fun _ => rfl, fun _ => .p (by exact op_move rfl)⟩, ⟨Pt 1 0, fun _ => rfl, fun _ => .p (by exact op_move rfl)⟩, ⟨Pt 1 0, fun _ => rfl, fun _ => .p (by exact op_nilCheck_p rfl)⟩, ⟨Pt 1 0, fun _ => rfl, fun _ => .p (by exact op_field_p tyFld77_0 rfl rfl)⟩, ⟨.b (.one (.str c_3.s)), fun _ => rfl, fun _ => .p (by exact op_load_p1 tyOne9 rfl rfl rfl)⟩, ⟨I c0at, fun _ => rfl, fun _ => .p (by exact op_move rfl)⟩, ⟨Pt 1 0, fun _ => rfl, fun _ => .p (by exact op_move rfl)⟩, ⟨Pt 1 0, fun _ => rfl, fun _ => .p (by exact op_nilCheck_p rfl)⟩, ⟨Pt 1 1, fun _ => rfl, fun _ => .p (by exact op_field_p tyFld77_1 rfl rfl)⟩, ⟨I c_3.pos, fun _ => rfl, fun _ => .p (by exact op_load_p1 tyOne3 rfl rfl rfl)⟩, ⟨.b (.one (.str x_8)), fun _ => rfl, fun _ => .p (by exact op_slice_str und9 e7 rfl rfl rfl)⟩, ⟨.b (.agg [.i 2, .i c0at, .str x_8]), fun _ => rfl, fun _ => .p (by exact op_build tyBuild31 rfl rfl)⟩, ⟨_, [102], Pt 102 0, rfl, fun _ => rfl, rfl, rfl, fun _ => .toO [1, 101, 102] (by exact .p (by exact op_alloc (k := 102) tyZero31 rfl)) (by exact rfl)⟩, trivial, trivial⟩, ⟨by kernel_rfl, ⟨⟨I c0at, fun _ => rfl, fun _ => .p (by exact op_move rfl)⟩, ⟨Pt 1 0, fun _ => rfl, fun _ => .p (by exact op_move rfl)⟩, ⟨Pt 1 0, fun _ => rfl, fun _ => .p (by exact op_nilCheck_p rfl)⟩, ⟨Pt 1 0, fun _ => rfl, fun _ => .p (by exact op_field_p tyFld77_0 rfl rfl)⟩, ⟨.b (.one (.str c_3.s)), fun _ => rfl, fun _ => .p (by exact op_load_p1 tyOne9 rfl rfl rfl)⟩, ⟨I c0at, fun _ => rfl, fun _ => .p (by exact op_move rfl)⟩, ⟨Pt 1 0, fun _ => rfl, fun _ => .p (by exact op_move rfl)⟩, ⟨Pt 1 0, fun _ => rfl, fun _ => .p (by exact op_nilCheck_p rfl)⟩, ⟨Pt 1 1, fun _ => rfl, fun _ => .p (by exact op_field_p tyFld77_1 rfl rfl)⟩, ⟨I c_3.pos, fun _ => rfl, fun _ => .p (by exact op_load_p1 tyOne3 rfl rfl rfl)⟩, ⟨.b (.one (.str x_8)), fun _ => rfl, fun _ => .p (by exact op_slice_str und9 e7 rfl rfl rfl)⟩, ⟨.b (.agg [.i 2, .i c0at, .str x_8]), fun _ => rfl, fun _ => .p (by exact op_build tyBuild31 rfl rfl)⟩, trivial, ⟨_, [], .b (.one .any), rfl, (fun e => by simp at e), rfl, rfl, fun _ => .toO [1, 101, 102] (by exact .p (by exact op_store_p tyAgg31 rfl rfl rfl rfl (Nat.le_of_ble_eq_true rfl) rfl)) (by exact rfl)⟩, trivial⟩, ⟨by kernel_rfl, ⟨trivial, trivial, trivial, trivial, trivial, trivial, trivial, trivial, trivial, trivial, trivial, trivial, trivial, trivial, trivial⟩, trivial⟩⟩⟩) rfl rfl rfl [2, 5] [1, 101, 102] (s' := ⟨[(2, _), (5, Pt 102 0)], [(1, _), (101, _), (102, .box 31 [.i 2, .i c0at, .str x_8])]⟩) rfl ?_
   obtain ⟨v8, h9, h⟩ := bnd h
   refine Tri.seqJ (v := v8) (fun (t_9 : Token) => ⟨[(2, Pt 101 0), (5, Pt 102 0)], [(1, .box 77 (eScan c_3)), (101, .box 31 [.i 0, .i 0, .str []]), (102, .box 31 (eToken t_9))]⟩) (fun z => z) ?_ ?_
   ·refine Tri.seq (Tri.regionL ?_)
    refine Oc (op_field_p tyFld31_2 rfl rfl) (Oc (op_load_p1 tyOne9 rfl rfl rfl) ?_)
    obtain ⟨x_10, e10, h9⟩ := bnd h9
    refine Oc (op_call0 (lexer_Word_spec e10) goes25 rfl rfl) (OpsL.nilS ⟨[(2, _), (5, _), (35, B x_10)], [(1, _), (101, _), (102, _)]⟩ rfl (Tri.ite h9 rfl (fun _ h9 => ?_) (fun _ h9 => ?_)))
    ·refine Tri.regionL (Oc (op_field_p tyFld31_0 rfl rfl) (Oc (op_store_p1 tyOne3 rfl rfl rfl (Nat.le_of_ble_eq_true rfl) rfl) ?_))
     refine OpsL.nil ?_
     exact Fin.join [2, 5] [1, 101, 102] (⟨1, c0at, x_8⟩ : Token) (Option.some.inj h9) rfl
    ·refine Tri.skip ?_
     exact Fin.join [2, 5] [1, 101, 102] (⟨2, c0at, x_8⟩ : Token) (Option.some.inj h9) rfl
   ·rintro t_9 hv
    subst v8
    refine Tri.seq (Tri.regionL ?_)
    refine Oc (lp tyAgg31) (Oc (op_store_p tyAgg31 rfl rfl rfl rfl (Nat.le_of_ble_eq_true rfl) rfl) (Oc oa ?_))
    refine OpsL.nilS ⟨[(2, _), (3, B true)], [(1, _), (101, .box 31 (eToken t_9))]⟩ rfl (Tri.ret ?_)
    obtain rfl := Option.some.inj h
    refine Fin.keepS ⟨[(2, _), (3, _)], [(1, _), (101, _)]⟩ rfl (Fin.retP (.inl rfl) ?_)
    exact Fin.resultX [1] [.agg (eToken t_9), .one (.bool true)] (.inl rfl) rfl (.cons (.old (.agg tyAgg31 rfl rfl rfl rfl)) (.cons (.old (.tmp rfl)) .nil)) ⟨_, rfl, rfl, rfl⟩
theorem lexer_scanner_name_spec {F : Nat} {c0s : Str} {c0at : Int} {r : Token × Bool × Str × Int} (h : lexer_scanner_name_S F c0s c0at = some (.inl r)) : Meets Tryz.prog (tabs mx) 41 [(1, .box 77 [.str c0s, .i c0at])] [.ptr 1 0] (Is [(1, .box 77 [.str r.2.2.1, .i r.2.2.2])] (.tup [.agg (eToken r.1), .one (.bool r.2.1)])) := (lexer_scanner_name_specP h).spec
theorem lexer_scanner_name_pan {F : Nat} {c0s : Str} {c0at : Int} {p : Problem} (h : lexer_scanner_name_S F c0s c0at = some (.inr p)) : Panics Tryz.prog (tabs mx) 41 [(1, .box 77 [.str c0s, .i c0at])] [.ptr 1 0] ((fun p : Problem => .iface 46 (.agg #[.int .i64 p.At, .int .i64 p.E])) p) ((fun p : Problem => inR .i64 p.At ∧ inR .i64 p.E) p) := (lexer_scanner_name_specP h).pspec
def lexer_scanner_number_S (F : Nat) (c0s : Str) (c0at : Int) : Option ((Token × Bool × Str × Int) ⊕ Problem) :=
 Option.bind (lexer_scanner_run_S F 95 c0s c0at) (un3 fun x_1 x_2 x_3 => if (decide (x_1 = 0)) = true then (some (.inl ((⟨0, 0, []⟩ : Token), false, x_2, x_3))) else (Option.bind ((lexer_scanner_peek_S F x_2 x_3).bind fun x_6 => (gcall ((decide (x_6 = 46)) && (decide ((IntKind.i64.wrap (x_3 + 1)) < (x_2.length : Int)))) (idx? x_2 (IntKind.i64.wrap (x_3 + 1)))).bind fun x_7 => (gcall ((decide (x_6 = 46)) && (decide ((IntKind.i64.wrap (x_3 + 1)) < (x_2.length : Int)))) (lexer_digit_S F (x_7.toNat : Int))).bind fun x_8 => if (((decide (x_6 = 46)) && (decide ((IntKind.i64.wrap (x_3 + 1)) < (x_2.length : Int)))) && x_8) = true then (Option.bind (lexer_scanner_run_S F 95 x_2 (IntKind.i64.wrap (x_3 + 1))) (un3 fun x_9 x_10 x_11 => some ((⟨x_10, x_11⟩ : Scan), x_9))) else (some ((⟨x_2, x_3⟩ : Scan), 0))) (un2 fun c_4 back_5 => Option.bind (if (decide (40 < (IntKind.i64.wrap (x_1 + back_5)))) = true then ((lexer_scanner_fail_S F c0at 2 c_4.s c_4.pos).bind fun p_12 => some (.inr (.inr p_12))) else ((gcall (decide (1 < x_1)) (idx? c_4.s c0at)).bind fun x_13 => (gcall (!((decide (1 < x_1)) && (decide ((x_13.toNat : Int) = 48)))) (lexer_scanner_peek_S F c_4.s c_4.pos)).bind fun x_14 => (gcall (!((decide (1 < x_1)) && (decide ((x_13.toNat : Int) = 48)))) (lexer_letter_S F x_14)).bind fun x_15 => letN (((decide (1 < x_1)) && (decide ((x_13.toNat : Int) = 48))) || x_15) fun x_16 => (gcall (!x_16) (lexer_scanner_peek_S F c_4.s c_4.pos)).bind fun x_17 => if (x_16 || (decide (x_17 = 95))) = true then ((lexer_scanner_fail_S F c0at 281 c_4.s c_4.pos).bind fun p_18 => some (.inr (.inr p_18))) else (some (.inl ())))) (alt2 (fun _ => Option.bind (sub? c_4.s c0at c_4.pos) (fun x_19 => some (.inl ((⟨3, c0at, x_19⟩ : Token), true, c_4.s, c_4.pos)))) (fun y => some y)))))
theorem lexer_scanner_number_specP {F : Nat} {c0s : Str} {c0at : Int} {r : (Token × Bool × Str × Int) ⊕ Problem} (h : lexer_scanner_number_S F c0s c0at = some r) : MeetsP Tryz.prog (tabs mx) 42 [(1, .box 77 [.str c0s, .i c0at])] [.ptr 1 0] (IsP r (fun (r : Token × Bool × Str × Int) => [(1, .box 77 [.str r.2.2.1, .i r.2.2.2])]) (fun (r : Token × Bool × Str × Int) => .tup [.agg (eToken r.1), .one (.bool r.2.1)])) (PanP r (fun p : Problem => .iface 46 (.agg #[.int .i64 p.At, .int .i64 p.E])) (fun p : Problem => inR .i64 p.At ∧ inR .i64 p.E)) := by
 unfold lexer_scanner_number_S at h
 refine MeetsP.intro 99 Tryz.func42 Tryz.ntmps42 rfl (by simp) fun E => ?_
 show Tri _ E ⟨99, [1], [1], []⟩ _ ⟨[(0, Pt 1 0)], [(1, .box 77 [.str c0s, .i c0at])]⟩ _
 refine Tri.seq (Tri.regionL ?_)
 refine Oc (op_alloc (k := 101) tyZero31 rfl) (Oc oa ?_)
 refine OpsL.nilS ⟨[(0, Pt 1 0), (2, Pt 101 0)], [(1, .box 77 [.str c0s, .i c0at]), (101, .box 31 [.i 0, .i 0, .str []])]⟩ rfl (Tri.seq (Tri.regionL ?_))
 refine Oc om (Oc (op_nilCheck_p rfl) (Oc (op_field_p tyFld77_1 rfl rfl) (Oc (op_load_p1 tyOne3 rfl rfl rfl) (Oc oa ?_))))
 refine OpsL.nilS ⟨[(0, _), (2, _), (4, I c0at)], [(1, _), (101, _)]⟩ rfl (Tri.seq (Tri.regionL ?_))
 refine Oc om ?_
 obtain ⟨⟨x_1, x_2, x_3⟩, e1, h⟩ := bnd h
 refine Oc (op_call (own_a := [(1, _)]) (lexer_scanner_run_spec e1) goes93 rfl ⟨rfl, trivial⟩ rfl rfl) (Oc oa ?_)
 refine OpsL.nilS ⟨[(0, _), (2, _), (4, _), (5, I x_1)], [(1, .box 77 [.str x_2, .i x_3]), (101, _)]⟩ rfl (Tri.seq (Tri.seq (Tri.regionL ?_)))
 refine Oc om (Oc (op_eql rfl rfl) ?_)
 refine OpsL.nilS ⟨[(0, _), (2, _), (4, _), (5, _), (14, B (decide (x_1 = 0)))], [(1, _), (101, _)]⟩ rfl (Tri.ite h rfl (fun _ h => ?_) (fun _ h => ?_))
 ·refine Tri.seq (Tri.regionL ?_)
  refine Oc (op_build tyBuild31 rfl rfl) (Oc (op_store_p tyAgg31 rfl rfl rfl rfl (Nat.le_of_ble_eq_true rfl) rfl) (Oc oa ?_))
  refine OpsL.nilS ⟨[(2, _), (3, B false)], [(1, _), (101, _)]⟩ rfl (Tri.ret (Fin.then_ret ?_))
  obtain rfl := Option.some.inj h
  refine Fin.keepS ⟨[(2, _), (3, _)], [(1, _), (101, _)]⟩ rfl (Fin.retP (.inl rfl) ?_)
  exact Fin.resultX [1] [.agg [.i 0, .i 0, .str []], .one (.bool false)] (.inl rfl) rfl (.cons (.old (.agg tyAgg31 rfl rfl rfl rfl)) (.cons (.old (.tmp rfl)) .nil)) ⟨_, rfl, rfl, rfl⟩
 ·refine Tri.skip (Fin.keepS ⟨[(0, _), (2, _), (4, _), (5, _)], [(1, _), (101, _)]⟩ rfl (Fin.then (Tri.seq (Tri.regionL ?_))))
  refine Oc oa (OpsL.nilS ⟨[(0, _), (2, _), (4, _), (5, _), (6, I 0)], [(1, _), (101, _)]⟩ rfl ?_)
  obtain ⟨v2, h3, h⟩ := bnd h
  refine Tri.seqJ (v := v2) (un2 fun (c_4 : Scan) (back_5 : Int) => ⟨[(0, Pt 1 0), (2, Pt 101 0), (4, I c0at), (5, I x_1), (6, I back_5)], [(1, .box 77 (eScan c_4)), (101, .box 31 [.i 0, .i 0, .str []])]⟩) (fun z => z) ?_ ?_
  ·refine Tri.seq (Tri.keepS ⟨[(0, _), (2, _), (4, _), (5, _), (6, _)], [(1, _), (101, _)]⟩ rfl ?_)
   obtain ⟨x_6, e4, h3⟩ := bnd h3
   obtain ⟨x_7, e5, h3⟩ := bnd h3
   obtain ⟨x_8, e6, h3⟩ := bnd h3
   refine Tri.regionW mixed [false, true, false, false, false, false, false, false, false, false, false, false, false, false, false, false, false, false, false, false, false, false, false, false, false, false, false, false, false] [Pt 1 0, .b (.one (.int .u8 x_6)), B (decide (x_6 = 46)), B (decide (x_6 = 46)), .opt (decide (x_6 = 46)) (.ptr 1 0), .opt (decide (x_6 = 46)) (.ptr 1 0), .opt (decide (x_6 = 46)) (.ptr 1 1), .opt (decide (x_6 = 46)) (.one (.i x_3)), .opt (decide (x_6 = 46)) (.one (.i (IntKind.i64.wrap (x_3 + 1)))), .opt (decide (x_6 = 46)) (.ptr 1 0), .opt (decide (x_6 = 46)) (.ptr 1 0), .opt (decide (x_6 = 46)) (.ptr 1 0), .opt (decide (x_6 = 46)) (.one (.str x_2)), .opt (decide (x_6 = 46)) (.one (.i (x_2.length : Int))), .opt (decide (x_6 = 46)) (.one (.bool (decide ((IntKind.i64.wrap (x_3 + 1)) < (x_2.length : Int))))), B ((decide (x_6 = 46)) && (decide ((IntKind.i64.wrap (x_3 + 1)) < (x_2.length : Int)))), B ((decide (x_6 = 46)) && (decide ((IntKind.i64.wrap (x_3 + 1)) < (x_2.length : Int)))), .opt ((decide (x_6 = 46)) && (decide ((IntKind.i64.wrap (x_3 + 1)) < (x_2.length : Int)))) (.ptr 1 0), .opt ((decide (x_6 = 46)) && (decide ((IntKind.i64.wrap (x_3 + 1)) < (x_2.length : Int)))) (.ptr 1 0), .opt ((decide (x_6 = 46)) && (decide ((IntKind.i64.wrap (x_3 + 1)) < (x_2.length : Int)))) (.ptr 1 0), .opt ((decide (x_6 = 46)) && (decide ((IntKind.i64.wrap (x_3 + 1)) < (x_2.length : Int)))) (.one (.str x_2)), .opt ((decide (x_6 = 46)) && (decide ((IntKind.i64.wrap (x_3 + 1)) < (x_2.length : Int)))) (.ptr 1 0), .opt ((decide (x_6 = 46)) && (decide ((IntKind.i64.wrap (x_3 + 1)) < (x_2.length : Int)))) (.ptr 1 0), .opt ((decide (x_6 = 46)) && (decide ((IntKind.i64.wrap (x_3 + 1)) < (x_2.length : Int)))) (.ptr 1 1), .opt ((decide (x_6 = 46)) && (decide ((IntKind.i64.wrap (x_3 + 1)) < (x_2.length : Int)))) (.one (.i x_3)), .opt ((decide (x_6 = 46)) && (decide ((IntKind.i64.wrap (x_3 + 1)) < (x_2.length : Int)))) (.one (.i (IntKind.i64.wrap (x_3 + 1)))), .opt ((decide (x_6 = 46)) && (decide ((IntKind.i64.wrap (x_3 + 1)) < (x_2.length : Int)))) (.one (.int .u8 (x_7.toNat : Int))), .opt ((decide (x_6 = 46)) && (decide ((IntKind.i64.wrap (x_3 + 1)) < (x_2.length : Int)))) (.one (.bool x_8)), B (((decide (x_6 = 46)) && (decide ((IntKind.i64.wrap (x_3 + 1)) < (x_2.length : Int)))) && x_8)] [⟨[false, false, false, false, false, false, false, false, false, false, false, false, false, false, false, false, false, false, false, false, false, false, false, false, false, false, false, false, false], [(0, Pt 1 0), (2, Pt 101 0), (4, I c0at), (5, I x_1), (6, I 0)], [(1, .box 77 [.str x_2, .i x_3]), (101, .box 31 [.i 0, .i 0, .str []])], [true, true, true, true, true, true, true, true, true, true, true, true, true, true, true, true, true, true, true, true, true, true, true, true, true, true, true, true, true], [], [2, 3, 4, 5, 6, 7, 8, 9, 10, 11, 12, 13, 14, 15, 16, 17, 18, 19, 20, 21, 22, 23, 24, 25, 26, 27, 28]⟩, ⟨[false, true, false, false, false, false, false, false, false, false, false, false, false, false, false, false, false, false, false, false, false, false, false, false, false, false, false, false, false], [(0, Pt 1 0), (2, Pt 101 0), (4, I c0at), (5, I x_1), (6, I 0)], [(1, .box 77 [.str x_2, .i x_3]), (101, .box 31 [.i 0, .i 0, .str []])], [true, true, true, true, true, true, true, true, true, true, true, true, true, true, true, true, true, true, true, true, true, true, true, true, true, true, true, true, true], [0, 1], []⟩] rfl (⟨by kernel_rfl, ⟨⟨Pt 1 0, fun _ => rfl, fun _ => .p (by exact op_move rfl)⟩, ⟨_, [], .b (.one (.int .u8 x_6)), rfl, fun _ => rfl, rfl, rfl, fun _ => .toO [1, 101] (by exact .p (by exact op_call (own_a := [(1, _)]) (lexer_scanner_peek_spec e4) goes92 rfl ⟨rfl, trivial⟩ rfl rfl)) (by exact rfl)⟩, trivial, trivial, trivial, trivial, trivial, trivial, trivial, trivial, trivial, trivial, trivial, trivial, trivial, trivial, trivial, trivial, trivial, trivial, trivial, trivial, trivial, trivial, trivial, trivial, trivial, trivial, trivial, trivial⟩, ⟨by kernel_rfl, ⟨trivial, trivial, ⟨B (decide (x_6 = 46)), fun _ => rfl, fun _ => .p (by exact op_eql rfl rfl)⟩, ⟨B (decide (x_6 = 46)), fun _ => rfl, fun _ => .p (by exact op_move rfl)⟩, ⟨.opt (decide (x_6 = 46)) (.ptr 1 0), fun _ => rfl, fun _ => by exact .guard (decide (x_6 = 46)) 1 [] (.plain rfl) (eq_t _) rfl rfl (fun gg4 => trivial) (fun gg4 => om)⟩, ⟨.opt (decide (x_6 = 46)) (.ptr 1 0), fun _ => rfl, fun _ => by exact .guard (decide (x_6 = 46)) 2 [20] (.plain rfl) (eq_t _) rfl rfl (fun gg5 => ⟨gg5, trivial⟩) (fun gg5 => op_nilCheck_p rfl)⟩, ⟨.opt (decide (x_6 = 46)) (.ptr 1 1), fun _ => rfl, fun _ => by exact .guard (decide (x_6 = 46)) 2 [21] (.plain rfl) (eq_t _) rfl rfl (fun gg6 => ⟨gg6, trivial⟩) (fun gg6 => op_field_p tyFld77_1 rfl rfl)⟩, ⟨.opt (decide (x_6 = 46)) (.one (.i x_3)), fun _ => rfl, fun _ => by exact .guard (decide (x_6 = 46)) 2 [22] (.plain rfl) (eq_t _) rfl rfl (fun gg7 => ⟨gg7, trivial⟩) (fun gg7 => op_load_p1 tyOne3 rfl rfl rfl)⟩, ⟨.opt (decide (x_6 = 46)) (.one (.i (IntKind.i64.wrap (x_3 + 1)))), fun _ => rfl, fun _ => by exact .guard (decide (x_6 = 46)) 2 [23] (.plain rfl) (eq_t _) rfl rfl (fun gg8 => ⟨gg8, trivial⟩) (fun gg8 => op_add rfl rfl)⟩, ⟨.opt (decide (x_6 = 46)) (.ptr 1 0), fun _ => rfl, fun _ => by exact .guard (decide (x_6 = 46)) 1 [] (.plain rfl) (eq_t _) rfl rfl (fun gg9 => trivial) (fun gg9 => om)⟩, ⟨.opt (decide (x_6 = 46)) (.ptr 1 0), fun _ => rfl, fun _ => by exact .guard (decide (x_6 = 46)) 2 [25] (.plain rfl) (eq_t _) rfl rfl (fun gg10 => ⟨gg10, trivial⟩) (fun gg10 => op_nilCheck_p rfl)⟩, ⟨.opt (decide (x_6 = 46)) (.ptr 1 0), fun _ => rfl, fun _ => by exact .guard (decide (x_6 = 46)) 2 [26] (.plain rfl) (eq_t _) rfl rfl (fun gg11 => ⟨gg11, trivial⟩) (fun gg11 => op_field_p tyFld77_0 rfl rfl)⟩, ⟨.opt (decide (x_6 = 46)) (.one (.str x_2)), fun _ => rfl, fun _ => by exact .guard (decide (x_6 = 46)) 2 [27] (.plain rfl) (eq_t _) rfl rfl (fun gg12 => ⟨gg12, trivial⟩) (fun gg12 => op_load_p1 tyOne9 rfl rfl rfl)⟩, ⟨.opt (decide (x_6 = 46)) (.one (.i (x_2.length : Int))), fun _ => rfl, fun _ => by exact .guard (decide (x_6 = 46)) 2 [28] (.plain rfl) (eq_t _) rfl rfl (fun gg13 => ⟨gg13, trivial⟩) (fun gg13 => op_len_str und9 rfl)⟩, ⟨.opt (decide (x_6 = 46)) (.one (.bool (decide ((IntKind.i64.wrap (x_3 + 1)) < (x_2.length : Int))))), fun _ => rfl, fun _ => by exact .guard (decide (x_6 = 46)) 3 [24, 29] (.plain rfl) (eq_t _) rfl rfl (fun gg14 => ⟨gg14, gg14, trivial⟩) (fun gg14 => op_lss rfl rfl)⟩, ⟨B ((decide (x_6 = 46)) && (decide ((IntKind.i64.wrap (x_3 + 1)) < (x_2.length : Int)))), fun _ => rfl, fun _ => .p (by exact op_pick_and (fun e => e) rfl rfl rfl rfl)⟩, ⟨B ((decide (x_6 = 46)) && (decide ((IntKind.i64.wrap (x_3 + 1)) < (x_2.length : Int)))), fun _ => rfl, fun _ => .p (by exact op_move rfl)⟩, ⟨.opt ((decide (x_6 = 46)) && (decide ((IntKind.i64.wrap (x_3 + 1)) < (x_2.length : Int)))) (.ptr 1 0), fun _ => rfl, fun _ => by exact .guard ((decide (x_6 = 46)) && (decide ((IntKind.i64.wrap (x_3 + 1)) < (x_2.length : Int)))) 1 [] (.plain rfl) (eq_t _) rfl rfl (fun gg17 => trivial) (fun gg17 => om)⟩, ⟨.opt ((decide (x_6 = 46)) && (decide ((IntKind.i64.wrap (x_3 + 1)) < (x_2.length : Int)))) (.ptr 1 0), fun _ => rfl, fun _ => by exact .guard ((decide (x_6 = 46)) && (decide ((IntKind.i64.wrap (x_3 + 1)) < (x_2.length : Int)))) 2 [33] (.plain rfl) (eq_t _) rfl rfl (fun gg18 => ⟨gg18, trivial⟩) (fun gg18 => op_nilCheck_p rfl)⟩, ⟨.opt ((decide (x_6 = 46)) && (decide ((IntKind.i64.wrap (x_3 + 1)) < (x_2.length : Int)))) (.ptr 1 0), fun _ => rfl, fun _ => by exact .guard ((decide (x_6 = 46)) && (decide ((IntKind.i64.wrap (x_3 + 1)) < (x_2.length : Int)))) 2 [34] (.plain rfl) (eq_t _) rfl rfl (fun gg19 => ⟨gg19, trivial⟩) (fun gg19 => op_field_p tyFld77_0 rfl rfl)⟩, ⟨.opt ((decide (x_6 = 46)) && (decide ((IntKind.i64.wrap (x_3 + 1)) < (x_2.length : Int)))) (.one (.str x_2)), fun _ => rfl, fun _ => by exact .guard ((decide (x_6 = 46)) && (decide ((IntKind.i64.wrap (x_3 + 1)) < (x_2.length : Int)))) 2 [35] (.plain rfl) (eq_t _) rfl rfl (fun gg20 => ⟨gg20, trivial⟩) (fun gg20 => op_load_p1 tyOne9 rfl rfl rfl)⟩, ⟨.opt ((decide (x_6 = 46)) && (decide ((IntKind.i64.wrap (x_3 + 1)) < (x_2.length : Int)))) (.ptr 1 0), fun _ => rfl, fun _ => by exact .guard ((decide (x_6 = 46)) && (decide ((IntKind.i64.wrap (x_3 + 1)) < (x_2.length : Int)))) 1 [] (.plain rfl) (eq_t _) rfl rfl (fun gg21 => trivial) (fun gg21 => om)⟩, ⟨.opt ((decide (x_6 = 46)) && (decide ((IntKind.i64.wrap (x_3 + 1)) < (x_2.length : Int)))) (.ptr 1 0), fun _ => rfl, fun _ => by exact .guard ((decide (x_6 = 46)) && (decide ((IntKind.i64.wrap (x_3 + 1)) < (x_2.length : Int)))) 2 [37] (.plain rfl) (eq_t _) rfl rfl (fun gg22 => ⟨gg22, trivial⟩) (fun gg22 => op_nilCheck_p rfl)⟩, ⟨.opt ((decide (x_6 = 46)) && (decide ((IntKind.i64.wrap (x_3 + 1)) < (x_2.length : Int)))) (.ptr 1 1), fun _ => rfl, fun _ => by exact .guard ((decide (x_6 = 46)) && (decide ((IntKind.i64.wrap (x_3 + 1)) < (x_2.length : Int)))) 2 [38] (.plain rfl) (eq_t _) rfl rfl (fun gg23 => ⟨gg23, trivial⟩) (fun gg23 => op_field_p tyFld77_1 rfl rfl)⟩, ⟨.opt ((decide (x_6 = 46)) && (decide ((IntKind.i64.wrap (x_3 + 1)) < (x_2.length : Int)))) (.one (.i x_3)), fun _ => rfl, fun _ => by exact .guard ((decide (x_6 = 46)) && (decide ((IntKind.i64.wrap (x_3 + 1)) < (x_2.length : Int)))) 2 [39] (.plain rfl) (eq_t _) rfl rfl (fun gg24 => ⟨gg24, trivial⟩) (fun gg24 => op_load_p1 tyOne3 rfl rfl rfl)⟩, ⟨.opt ((decide (x_6 = 46)) && (decide ((IntKind.i64.wrap (x_3 + 1)) < (x_2.length : Int)))) (.one (.i (IntKind.i64.wrap (x_3 + 1)))), fun _ => rfl, fun _ => by exact .guard ((decide (x_6 = 46)) && (decide ((IntKind.i64.wrap (x_3 + 1)) < (x_2.length : Int)))) 2 [40] (.plain rfl) (eq_t _) rfl rfl (fun gg25 => ⟨gg25, trivial⟩) (fun gg25 => op_add rfl rfl)⟩, ⟨.opt ((decide (x_6 = 46)) && (decide ((IntKind.i64.wrap (x_3 + 1)) < (x_2.length : Int)))) (.one (.int .u8 (x_7.toNat : Int))), fun _ => rfl, fun _ => by exact .guard ((decide (x_6 = 46)) && (decide ((IntKind.i64.wrap (x_3 + 1)) < (x_2.length : Int)))) 3 [36, 41] (.plain rfl) (eq_t _) rfl rfl (fun gg26 => ⟨gg26, gg26, trivial⟩) (fun gg26 => op_index_str und9 rfl rfl (ix_lo (gc e5 gg26)) (ix_get (gc e5 gg26)))⟩, ⟨.opt ((decide (x_6 = 46)) && (decide ((IntKind.i64.wrap (x_3 + 1)) < (x_2.length : Int)))) (.one (.bool x_8)), fun _ => rfl, fun _ => by exact .guard ((decide (x_6 = 46)) && (decide ((IntKind.i64.wrap (x_3 + 1)) < (x_2.length : Int)))) 3 [42] (.plain rfl) (eq_t _) rfl rfl (fun gg27 => ⟨gg27, trivial⟩) (fun gg27 => op_call0 (lexer_digit_spec (gc e6 gg27)) goes95 rfl rfl)⟩, ⟨B (((decide (x_6 = 46)) && (decide ((IntKind.i64.wrap (x_3 + 1)) < (x_2.length : Int)))) && x_8), fun _ => rfl, fun _ => .p (by exact op_pick_and (fun e => e) rfl rfl rfl rfl)⟩, trivial⟩, trivial⟩⟩) rfl rfl rfl [0, 2, 4, 5, 6, 44] [1, 101] (s' := ⟨[(0, _), (2, _), (4, _), (5, _), (6, _), (44, B (((decide (x_6 = 46)) && (decide ((IntKind.i64.wrap (x_3 + 1)) < (x_2.length : Int)))) && x_8))], [(1, _), (101, _)]⟩) rfl ?_
   refine Tri.ite h3 rfl (fun _ h3 => ?_) (fun _ h3 => ?_)
   ·refine Tri.seq (Tri.regionL ?_)
    refine Oc om (Oc (op_nilCheck_p rfl) (Oc (op_field_p tyFld77_1 rfl rfl) (Oc (op_load_p1 tyOne3 rfl rfl rfl) (Oc (op_add rfl rfl) (Oc (op_nilCheck_p rfl) ?_)))))
    refine Oc (op_field_p tyFld77_1 rfl rfl) (Oc (op_store_p1 tyOne3 rfl rfl rfl (Nat.le_of_ble_eq_true rfl) rfl) ?_)
    refine OpsL.nilS ⟨[(0, _), (2, _), (4, _), (5, _)], [(1, .box 77 [.str x_2, .i (IntKind.i64.wrap (x_3 + 1))]), (101, _)]⟩ rfl (Tri.regionL (Oc om ?_))
    obtain ⟨⟨x_9, x_10, x_11⟩, e7, h3⟩ := bnd h3
    refine Oc (op_call (own_a := [(1, _)]) (lexer_scanner_run_spec e7) goes93 rfl ⟨rfl, trivial⟩ rfl rfl) (Oc oa ?_)
    refine OpsL.nil ?_
    exact Fin.join [0, 2, 4, 5, 6] [1, 101] ((⟨x_10, x_11⟩ : Scan), x_9) (Option.some.inj h3) rfl
   ·refine Tri.skip ?_
    exact Fin.join [0, 2, 4, 5, 6] [1, 101] ((⟨x_2, x_3⟩ : Scan), 0) (Option.some.inj h3) rfl
  ·rintro ⟨c_4, back_5⟩ hv
   subst v2
   obtain ⟨v8, h9, h⟩ := bnd h
   refine Tri.seqJ (v := v8) (fun (_ : Unit) => ⟨[(0, Pt 1 0), (2, Pt 101 0), (4, I c0at)], [(1, .box 77 (eScan c_4)), (101, .box 31 [.i 0, .i 0, .str []])]⟩) (fun z => .inl z) ?_ ?_
   ·refine Tri.block (Tri.seq (Tri.regionL ?_))
    refine Oc om (Oc om (Oc (op_add rfl rfl) (Oc (op_gtr rfl rfl) (Oc oa ?_))))
    refine OpsL.nilS ⟨[(0, _), (2, _), (4, _), (5, _), (54, B (decide (40 < (IntKind.i64.wrap (x_1 + back_5)))))], [(1, _), (101, _)]⟩ rfl (Tri.ite h9 rfl (fun _ h9 => ?_) (fun _ h9 => ?_))
    ·refine Tri.regionL (Oc om (Oc om ?_))
     obtain ⟨p_12, e10, h9⟩ := bnd h9
     refine OpsL.callPan (own_a := [(1, _)]) (lexer_scanner_fail_pan e10) goes96 rfl ⟨rfl, trivial⟩ (fun hok => ?_)
     refine Fin.block_pan ?_
     obtain rfl := Option.some.inj h9
     refine Fin.then_pan ?_
     obtain rfl := Option.some.inj h
     exact Fin.panEnd ⟨_, rfl, rfl, hok⟩
    ·refine Tri.seq (Tri.regionL ?_)
     refine Oc om (Oc (op_gtr rfl rfl) (Oc om ?_))
     refine CgT (decide (1 < x_1)) [] (fun g11 => trivial) (fun g11 => om) (CgT (decide (1 < x_1)) [66] (fun g12 => by exact ⟨g12, trivial⟩) (fun g12 => op_nilCheck_p rfl) (CgT (decide (1 < x_1)) [67] (fun g13 => by exact ⟨g13, trivial⟩) (fun g13 => op_field_p tyFld77_0 rfl rfl) (CgT (decide (1 < x_1)) [68] (fun g14 => by exact ⟨g14, trivial⟩) (fun g14 => op_load_p1 tyOne9 rfl rfl rfl) (OpsL.keepS ⟨[(0, _), (2, _), (4, _), (65, B (decide (1 < x_1))), (69, .opt (decide (1 < x_1)) (.one (.str c_4.s)))], [(1, _), (101, _)]⟩ rfl (CgT (decide (1 < x_1)) [] (fun g15 => by exact trivial) (fun g15 => om) ?_)))))
     obtain ⟨x_13, e17, h9⟩ := bnd h9
     refine CgT (decide (1 < x_1)) [69, 70] (fun g16 => ⟨g16, g16, trivial⟩) (fun g16 => op_index_str und9 rfl rfl (ix_lo (gc e17 g16)) (ix_get (gc e17 g16))) (CgT (decide (1 < x_1)) [71] (fun g18 => ⟨g18, trivial⟩) (fun g18 => op_eql rfl rfl) (Oc (op_pick_and (fun e => e) rfl rfl rfl rfl) (Oc om ?_)))
     refine CgF (!((decide (1 < x_1)) && (decide ((x_13.toNat : Int) = 48)))) [] (fun g19 => trivial) (fun g19 => om) (OpsL.keepS ⟨[(0, _), (2, _), (4, _), (74, B ((decide (1 < x_1)) && (decide ((x_13.toNat : Int) = 48)))), (75, .opt (!((decide (1 < x_1)) && (decide ((x_13.toNat : Int) = 48)))) (.ptr 1 0))], [(1, _), (101, _)]⟩ rfl ?_)
     obtain ⟨x_14, e21, h9⟩ := bnd h9
     refine CgF (!((decide (1 < x_1)) && (decide ((x_13.toNat : Int) = 48)))) [75] (fun g20 => ⟨g20, trivial⟩) (fun g20 => op_callG (own_a := [(1, _)]) (lexer_scanner_peek_spec (gc e21 g20)) goes92 rfl ⟨rfl, trivial⟩ rfl rfl rfl rfl rfl) ?_
     obtain ⟨x_15, e23, h9⟩ := bnd h9
     refine CgF (!((decide (1 < x_1)) && (decide ((x_13.toNat : Int) = 48)))) [76] (fun g22 => ⟨g22, trivial⟩) (fun g22 => op_call0 (lexer_letter_spec (gc e23 g22)) goes91 rfl rfl) (OpsL.consB h9 rfl (op_pick_or (fun e => by first | (rw [e]; rfl) | (simp only at e; rw [e]; rfl)) rfl rfl rfl rfl) (fun x_16 h9 => ?_))
     refine Oc om (CgF (!x_16) [] (fun g24 => by exact trivial) (fun g24 => om) (OpsL.keepS ⟨[(0, _), (2, _), (4, _), (79, B x_16), (80, .opt (!x_16) (.ptr 1 0))], [(1, _), (101, _)]⟩ rfl ?_))
     obtain ⟨x_17, e26, h9⟩ := bnd h9
     refine CgF (!x_16) [80] (fun g25 => ⟨g25, trivial⟩) (fun g25 => op_callG (own_a := [(1, _)]) (lexer_scanner_peek_spec (gc e26 g25)) goes92 rfl ⟨rfl, trivial⟩ rfl rfl rfl rfl rfl) (CgF (!x_16) [81] (fun g27 => ⟨g27, trivial⟩) (fun g27 => op_eql rfl rfl) (Oc (op_pick_or (fun e => by first | (rw [e]; rfl) | (simp only at e; rw [e]; rfl)) rfl rfl rfl rfl) (Oc oa ?_)))
     refine OpsL.nilS ⟨[(0, _), (2, _), (4, _), (62, B (x_16 || (decide (x_17 = 95))))], [(1, _), (101, _)]⟩ rfl (Tri.ite h9 rfl (fun _ h9 => ?_) (fun _ h9 => ?_))
     ·refine Tri.regionL (Oc om (Oc om ?_))
      obtain ⟨p_18, e28, h9⟩ := bnd h9
      refine OpsL.callPan (own_a := [(1, _)]) (lexer_scanner_fail_pan e28) goes96 rfl ⟨rfl, trivial⟩ (fun hok => ?_)
      refine Fin.block_pan ?_
      obtain rfl := Option.some.inj h9
      refine Fin.then_pan ?_
      obtain rfl := Option.some.inj h
      exact Fin.panEnd ⟨_, rfl, rfl, hok⟩
     ·refine Tri.skip (Fin.block_normal ?_)
      exact Fin.join [0, 2, 4] [1, 101] () (Option.some.inj h9) rfl
   ·rintro _ hv
    subst v8
    refine Tri.seq (Tri.keepS ⟨[(0, _), (2, _), (4, _)], [(1, _), (101, _)]⟩ rfl ?_)
    obtain ⟨x_19, e29, h⟩ := bnd h
    refine Tri.regionY mixed 12 [I c0at, Pt 1 0, Pt 1 0, Pt 1 0, .b (.one (.str c_4.s)), I c0at, Pt 1 0, Pt 1 0, Pt 1 1, I c_4.pos, .b (.one (.str x_19)), .b (.agg [.i 3, .i c0at, .str x_19])] [2, 3] [1, 101] (s' := ⟨[(2, _), (3, B true)], [(1, _), (101, .box 31 [.i 3, .i c0at, .str x_19])]⟩) rfl ⟨fun _ => .p om, fun _ => .p om, fun _ => .p (op_nilCheck_p rfl), fun _ => .p (op_field_p tyFld77_0 rfl rfl), fun _ => .p (op_load_p1 tyOne9 rfl rfl rfl), fun _ => .p om, fun _ => .p om, fun _ => .p (op_nilCheck_p rfl), fun _ => .p (op_field_p tyFld77_1 rfl rfl), fun _ => .p (op_load_p1 tyOne3 rfl rfl rfl), fun _ => .p (op_slice_str und9 e29 rfl rfl rfl), fun _ => .p (op_build tyBuild31 rfl rfl), trivial⟩ ⟨_, by exact .p (op_store_p tyAgg31 rfl rfl rfl rfl (Nat.le_of_ble_eq_true rfl) rfl), ⟨_, by exact .p oa, rfl⟩⟩ rfl (Tri.ret ?_)
    obtain rfl := Option.some.inj h
    refine Fin.keepS ⟨[(2, _), (3, _)], [(1, _), (101, _)]⟩ rfl (Fin.retP (.inl rfl) ?_)
    exact Fin.resultX [1] [.agg [.i 3, .i c0at, .str x_19], .one (.bool true)] (.inl rfl) rfl (.cons (.old (.agg tyAgg31 rfl rfl rfl rfl)) (.cons (.old (.tmp rfl)) .nil)) ⟨_, rfl, rfl, rfl⟩
theorem lexer_scanner_number_spec {F : Nat} {c0s : Str} {c0at : Int} {r : Token × Bool × Str × Int} (h : lexer_scanner_number_S F c0s c0at = some (.inl r)) : Meets Tryz.prog (tabs mx) 42 [(1, .box 77 [.str c0s, .i c0at])] [.ptr 1 0] (Is [(1, .box 77 [.str r.2.2.1, .i r.2.2.2])] (.tup [.agg (eToken r.1), .one (.bool r.2.1)])) := (lexer_scanner_number_specP h).spec
theorem lexer_scanner_number_pan {F : Nat} {c0s : Str} {c0at : Int} {p : Problem} (h : lexer_scanner_number_S F c0s c0at = some (.inr p)) : Panics Tryz.prog (tabs mx) 42 [(1, .box 77 [.str c0s, .i c0at])] [.ptr 1 0] ((fun p : Problem => .iface 46 (.agg #[.int .i64 p.At, .int .i64 p.E])) p) ((fun p : Problem => inR .i64 p.At ∧ inR .i64 p.E) p) := (lexer_scanner_number_specP h).pspec
def lexer_scanner_text_S (F : Nat) (c0s : Str) (c0at : Int) : Option ((Token × Bool × Str × Int) ⊕ Problem) :=
 (lexer_scanner_peek_S F c0s c0at).bind fun x_1 => if (decide (x_1 ≠ 34)) = true then (some (.inl ((⟨0, 0, []⟩ : Token), false, c0s, c0at))) else (Option.bind (iter F (un2 fun c_4 out_5 => (lexer_scanner_peek_S F c_4.s c_4.pos).bind fun x_8 => if (decide (x_8 ≠ 34)) = true then (Option.bind ((lexer_scanner_peek_S F c_4.s c_4.pos).bind fun x_11 => Option.bind (if (decide (x_11 = 92)) = true then ((lexer_scanner_peek_S F c_4.s (IntKind.i64.wrap (c_4.pos + 1))).bind fun x_14 => if ((decide (x_14 ≠ 34)) && (decide (x_14 ≠ 92))) = true then ((lexer_scanner_fail_S F c0at 280 c_4.s (IntKind.i64.wrap (c_4.pos + 1))).bind fun p_15 => some (.inr (.inr p_15))) else (some (.inl ((⟨c_4.s, IntKind.i64.wrap (c_4.pos + 1)⟩ : Scan), x_14)))) else (some (.inl (c_4, x_11)))) (alt2 (un2 fun c_12 b_13 => Option.bind (if ((decide (b_13 < 32)) || (decide (126 < b_13))) = true then ((lexer_scanner_fail_S F c0at 280 c_12.s c_12.pos).bind fun p_16 => some (.inr (.inr p_16))) else (some (.inl ()))) (alt2 (fun _ => (app? out_5 [b_13]).bind fun x_17 => some (.inl (c_12, x_17))) (fun y => some (.inr y)))) (fun y => some (.inr y)))) (alt2 (un2 fun c_9 out_10 => some (.inl ((⟨c_9.s, IntKind.i64.wrap (c_9.pos + 1)⟩ : Scan), out_10))) (fun y => some (.inr (.inr y))))) else (some (.inr (.inl (c_4, out_5))))) ((⟨c0s, IntKind.i64.wrap (c0at + 1)⟩ : Scan), [])) (alt2 (un2 fun c_2 out_3 => Option.bind (if (decide (80 < (out_3.length : Int))) = true then ((lexer_scanner_fail_S F c0at 2 c_2.s (IntKind.i64.wrap (c_2.pos + 1))).bind fun p_18 => some (.inr (.inr p_18))) else (some (.inl ()))) (alt2 (fun _ => some (.inl ((⟨4, c0at, toStr out_3⟩ : Token), true, c_2.s, IntKind.i64.wrap (c_2.pos + 1)))) (fun y => some y))) (fun y => some y)))
theorem lexer_scanner_text_specP {F : Nat} {c0s : Str} {c0at : Int} {r : (Token × Bool × Str × Int) ⊕ Problem} (h : lexer_scanner_text_S F c0s c0at = some r) : MeetsP Tryz.prog (tabs mx) 43 [(1, .box 77 [.str c0s, .i c0at])] [.ptr 1 0] (IsP r (fun (r : Token × Bool × Str × Int) => [(1, .box 77 [.str r.2.2.1, .i r.2.2.2])]) (fun (r : Token × Bool × Str × Int) => .tup [.agg (eToken r.1), .one (.bool r.2.1)])) (PanP r (fun p : Problem => .iface 46 (.agg #[.int .i64 p.At, .int .i64 p.E])) (fun p : Problem => inR .i64 p.At ∧ inR .i64 p.E)) := by
 unfold lexer_scanner_text_S at h
 refine MeetsP.intro 84 Tryz.func43 Tryz.ntmps43 rfl (by simp) fun E => ?_
 show Tri _ E ⟨84, [1], [1], []⟩ _ ⟨[(0, Pt 1 0)], [(1, .box 77 [.str c0s, .i c0at])]⟩ _
 refine Tri.seq (Tri.regionL ?_)
 refine Oc (op_alloc (k := 101) tyZero31 rfl) (Oc oa ?_)
 refine OpsL.nilS ⟨[(0, Pt 1 0), (2, Pt 101 0)], [(1, .box 77 [.str c0s, .i c0at]), (101, .box 31 [.i 0, .i 0, .str []])]⟩ rfl (Tri.seq (Tri.regionL ?_))
 refine Oc om (Oc (op_nilCheck_p rfl) (Oc (op_field_p tyFld77_1 rfl rfl) (Oc (op_load_p1 tyOne3 rfl rfl rfl) (Oc oa ?_))))
 refine OpsL.nilS ⟨[(0, _), (2, _), (4, I c0at)], [(1, _), (101, _)]⟩ rfl (Tri.seq (Tri.seq (Tri.regionL ?_)))
 refine Oc om ?_
 obtain ⟨x_1, e1, h⟩ := bnd h
 refine Oc (op_call (own_a := [(1, _)]) (lexer_scanner_peek_spec e1) goes92 rfl ⟨rfl, trivial⟩ rfl rfl) (Oc (op_neq rfl rfl) ?_)
 refine OpsL.nilS ⟨[(0, _), (2, _), (4, _), (13, B (decide (x_1 ≠ 34)))], [(1, _), (101, _)]⟩ rfl (Tri.ite h rfl (fun _ h => ?_) (fun _ h => ?_))
 ·refine Tri.seq (Tri.regionL ?_)
  refine Oc (op_build tyBuild31 rfl rfl) (Oc (op_store_p tyAgg31 rfl rfl rfl rfl (Nat.le_of_ble_eq_true rfl) rfl) (Oc oa ?_))
  refine OpsL.nilS ⟨[(2, _), (3, B false)], [(1, _), (101, _)]⟩ rfl (Tri.ret (Fin.then_ret ?_))
  obtain rfl := Option.some.inj h
  refine Fin.keepS ⟨[(2, _), (3, _)], [(1, _), (101, _)]⟩ rfl (Fin.retP (.inl rfl) ?_)
  exact Fin.resultX [1] [.agg [.i 0, .i 0, .str []], .one (.bool false)] (.inl rfl) rfl (.cons (.old (.agg tyAgg31 rfl rfl rfl rfl)) (.cons (.old (.tmp rfl)) .nil)) ⟨_, rfl, rfl, rfl⟩
 ·refine Tri.skip (Fin.keepS ⟨[(0, _), (2, _), (4, _)], [(1, _), (101, _)]⟩ rfl (Fin.then (Tri.seq (Tri.regionL ?_))))
  refine Oc oa (OpsL.nilS ⟨[(0, _), (2, _), (4, _), (5, .b (.one (.nil)))], [(1, _), (101, _)]⟩ rfl ?_)
  obtain ⟨v2, h3, h⟩ := bnd h
  refine Tri.seqJ (v := v2) (un2 fun (c_2 : Scan) (out_3 : List Int) => ⟨[(0, Pt 1 0), (2, Pt 101 0), (4, I c0at), (5, .b (.row 103))], [(1, .box 77 (eScan c_2)), (101, .box 31 [.i 0, .i 0, .str []]), (103, .row 5 1 (out_3.map (eK .u8)))]⟩) (fun z => .inl z) ?_ ?_
  ·refine Tri.seq (Tri.regionL ?_)
   refine Oc om (Oc (op_nilCheck_p rfl) (Oc (op_field_p tyFld77_1 rfl rfl) (Oc (op_load_p1 tyOne3 rfl rfl rfl) (Oc (op_add rfl rfl) (Oc (op_nilCheck_p rfl) ?_)))))
   refine Oc (op_field_p tyFld77_1 rfl rfl) (Oc (op_store_p1 tyOne3 rfl rfl rfl (Nat.le_of_ble_eq_true rfl) rfl) ?_)
   refine OpsL.nilS ⟨[(0, _), (2, _), (4, _), (5, _)], [(1, .box 77 [.str c0s, .i (IntKind.i64.wrap (c0at + 1))]), (101, _)]⟩ rfl (Tri.block (Tri.nilrow 5 103 1 5 rfl (by decide) rfl (Tri.loopJ h3 (un2 fun (c_4 : Scan) (out_5 : List Int) => ⟨[(0, Pt 1 0), (2, Pt 101 0), (4, I c0at), (5, .b (.row 103))], [(1, .box 77 (eScan c_4)), (101, .box 31 [.i 0, .i 0, .str []]), (103, .row 5 1 (out_5.map (eK .u8)))]⟩) [0, 2, 4, 5] [1, 101, 103] rfl ?_)))
   rintro ⟨c_4, out_5⟩ o4 h5 hy6
   refine Tri.seq (Tri.seq (Tri.regionL ?_))
   refine Oc om ?_
   obtain ⟨x_8, e7, h5⟩ := bnd h5
   refine Oc (op_call (own_a := [(1, _)]) (lexer_scanner_peek_spec e7) goes92 rfl ⟨rfl, trivial⟩ rfl rfl) (Oc (op_neq rfl rfl) ?_)
   refine OpsL.nilS ⟨[(0, _), (2, _), (4, _), (5, _), (24, B (decide (x_8 ≠ 34)))], [(1, _), (101, _), (103, _)]⟩ rfl (Tri.ite h5 rfl (fun _ h5 => ?_) (fun _ h5 => ?_))
   ·refine Tri.skip (Fin.keepS ⟨[(0, _), (2, _), (4, _), (5, _)], [(1, _), (101, _), (103, _)]⟩ rfl (Fin.then ?_))
    obtain ⟨v8, h9, h5⟩ := bnd h5
    refine Tri.seqJ (v := v8) (un2 fun (c_9 : Scan) (out_10 : List Int) => ⟨[(0, Pt 1 0), (2, Pt 101 0), (4, I c0at), (5, .b (.row 103))], [(1, .box 77 (eScan c_9)), (101, .box 31 [.i 0, .i 0, .str []]), (103, .row 5 1 (out_10.map (eK .u8)))]⟩) (fun z => .inl z) ?_ ?_
    ·refine Tri.block (Tri.seq (Tri.regionL ?_))
     refine Oc om ?_
     obtain ⟨x_11, e10, h9⟩ := bnd h9
     refine Oc (op_call (own_a := [(1, _)]) (lexer_scanner_peek_spec e10) goes92 rfl ⟨rfl, trivial⟩ rfl rfl) (Oc oa ?_)
     refine OpsL.nilS ⟨[(0, _), (2, _), (4, _), (5, _), (6, .b (.one (.int .u8 x_11)))], [(1, _), (101, _), (103, _)]⟩ rfl ?_
     obtain ⟨v11, h12, h9⟩ := bnd h9
     refine Tri.seqJ (v := v11) (un2 fun (c_12 : Scan) (b_13 : Int) => ⟨[(0, Pt 1 0), (2, Pt 101 0), (4, I c0at), (5, .b (.row 103)), (6, .b (.one (.int .u8 b_13)))], [(1, .box 77 (eScan c_12)), (101, .box 31 [.i 0, .i 0, .str []]), (103, .row 5 1 (out_5.map (eK .u8)))]⟩) (fun z => .inl z) ?_ ?_
     ·refine Tri.seq (Tri.regionL ?_)
      refine Oc om (Oc (op_eql rfl rfl) ?_)
      refine OpsL.nilS ⟨[(0, _), (2, _), (4, _), (5, _), (6, _), (35, B (decide (x_11 = 92)))], [(1, _), (101, _), (103, _)]⟩ rfl (Tri.ite h12 rfl (fun _ h12 => ?_) (fun _ h12 => ?_))
      ·refine Tri.seq (Tri.regionL ?_)
       refine Oc om (Oc (op_nilCheck_p rfl) (Oc (op_field_p tyFld77_1 rfl rfl) (Oc (op_load_p1 tyOne3 rfl rfl rfl) (Oc (op_add rfl rfl) (Oc (op_nilCheck_p rfl) ?_)))))
       refine Oc (op_field_p tyFld77_1 rfl rfl) (Oc (op_store_p1 tyOne3 rfl rfl rfl (Nat.le_of_ble_eq_true rfl) rfl) ?_)
       refine OpsL.nilS ⟨[(0, _), (2, _), (4, _), (5, _)], [(1, .box 77 [.str c_4.s, .i (IntKind.i64.wrap (c_4.pos + 1))]), (101, _), (103, _)]⟩ rfl (Tri.seq (Tri.regionL ?_))
       refine Oc om ?_
       obtain ⟨x_14, e13, h12⟩ := bnd h12
       refine Oc (op_call (own_a := [(1, _)]) (lexer_scanner_peek_spec e13) goes92 rfl ⟨rfl, trivial⟩ rfl rfl) (Oc oa ?_)
       refine OpsL.nilS ⟨[(0, _), (2, _), (4, _), (5, _), (6, .b (.one (.int .u8 x_14)))], [(1, _), (101, _), (103, _)]⟩ rfl (Tri.seq (Tri.regionL ?_))
       refine Oc om (Oc (op_neq rfl rfl) (Oc om ?_))
       refine CgT (decide (x_14 ≠ 34)) [] (fun g14 => trivial) (fun g14 => om) (CgT (decide (x_14 ≠ 34)) [48] (fun g15 => by exact ⟨g15, trivial⟩) (fun g15 => op_neq rfl rfl) (Oc (op_pick_and (fun e => e) rfl rfl rfl rfl) (OpsL.nilS ⟨[(0, _), (2, _), (4, _), (5, _), (6, _), (50, B ((decide (x_14 ≠ 34)) && (decide (x_14 ≠ 92))))], [(1, _), (101, _), (103, _)]⟩ rfl (Tri.ite h12 rfl (fun _ h12 => ?_) (fun _ h12 => ?_)))))
       ·refine Tri.regionL (Oc om (Oc om ?_))
        obtain ⟨p_15, e16, h12⟩ := bnd h12
        refine OpsL.callPan (own_a := [(1, _)]) (lexer_scanner_fail_pan e16) goes96 rfl ⟨rfl, trivial⟩ (fun hok => ?_)
        obtain rfl := Option.some.inj h12
        refine Fin.then_pan (Fin.block_pan ?_)
        obtain rfl := Option.some.inj h9
        refine Fin.then_pan ?_
        obtain rfl := hy6 _ (Option.some.inj h5).symm
        refine Fin.then_pan (Fin.block_pan (Fin.then_pan ?_))
        obtain rfl := Option.some.inj h
        exact Fin.panEnd ⟨_, rfl, rfl, hok⟩
       ·refine Tri.skip ?_
        exact Fin.join [0, 2, 4, 5, 6] [1, 101, 103] ((⟨c_4.s, IntKind.i64.wrap (c_4.pos + 1)⟩ : Scan), x_14) (Option.some.inj h12) rfl
      ·refine Tri.skip ?_
       exact Fin.join [0, 2, 4, 5, 6] [1, 101, 103] (c_4, x_11) (Option.some.inj h12) rfl
     ·rintro ⟨c_12, b_13⟩ hv
      subst v11
      obtain ⟨v17, h18, h9⟩ := bnd h9
      refine Tri.seqJ (v := v17) (fun (_ : Unit) => ⟨[(0, Pt 1 0), (2, Pt 101 0), (4, I c0at), (5, .b (.row 103)), (6, .b (.one (.int .u8 b_13)))], [(1, .box 77 (eScan c_12)), (101, .box 31 [.i 0, .i 0, .str []]), (103, .row 5 1 (out_5.map (eK .u8)))]⟩) (fun z => .inl z) ?_ ?_
      ·refine Tri.seq (Tri.regionL ?_)
       refine Oc om (Oc (op_lss rfl rfl) (Oc om ?_))
       refine CgF (!(decide (b_13 < 32))) [] (fun g19 => trivial) (fun g19 => om) (CgF (!(decide (b_13 < 32))) [57] (fun g20 => by exact ⟨g20, trivial⟩) (fun g20 => op_gtr rfl rfl) (Oc (op_pick_or (fun e => by first | (rw [e]; rfl) | (simp only at e; rw [e]; rfl)) rfl rfl rfl rfl) (OpsL.nilS ⟨[(0, _), (2, _), (4, _), (5, _), (6, _), (59, B ((decide (b_13 < 32)) || (decide (126 < b_13))))], [(1, _), (101, _), (103, _)]⟩ rfl (Tri.ite h18 rfl (fun _ h18 => ?_) (fun _ h18 => ?_)))))
       ·refine Tri.regionL (Oc om (Oc om ?_))
        obtain ⟨p_16, e21, h18⟩ := bnd h18
        refine OpsL.callPan (own_a := [(1, _)]) (lexer_scanner_fail_pan e21) goes96 rfl ⟨rfl, trivial⟩ (fun hok => ?_)
        obtain rfl := Option.some.inj h18
        refine Fin.then_pan (Fin.block_pan ?_)
        obtain rfl := Option.some.inj h9
        refine Fin.then_pan ?_
        obtain rfl := hy6 _ (Option.some.inj h5).symm
        refine Fin.then_pan (Fin.block_pan (Fin.then_pan ?_))
        obtain rfl := Option.some.inj h
        exact Fin.panEnd ⟨_, rfl, rfl, hok⟩
       ·refine Tri.skip ?_
        exact Fin.join [0, 2, 4, 5, 6] [1, 101, 103] () (Option.some.inj h18) rfl
      ·rintro _ hv
       subst v17
       refine Tri.regionL (Oc om (Oc om (Oc (op_buildSlice (k := 104) (es := [b_13].map (eK .u8)) tySl50 rfl rfl (uni_map fun _ => rfl) rfl (by decide) (by decide) rfl) ?_)))
       obtain ⟨x_17, e22, h9⟩ := bnd h9
       refine Oc (op_append_r tySl50 (app_b e22) (app_m e22) rfl rfl rfl rfl (app_map e22) rfl) (Oc oa ?_)
       refine OpsL.nil (Fin.block_normal ?_)
       exact Fin.join [0, 2, 4, 5] [1, 101, 103] (c_12, x_17) (Option.some.inj h9) rfl
    ·rintro ⟨c_9, out_10⟩ hv
     subst v8
     refine Tri.regionL (Oc om (Oc (op_nilCheck_p rfl) (Oc (op_field_p tyFld77_1 rfl rfl) (Oc (op_load_p1 tyOne3 rfl rfl rfl) (Oc (op_add rfl rfl) (Oc (op_nilCheck_p rfl) ?_))))))
     refine Oc (op_field_p tyFld77_1 rfl rfl) (Oc (op_store_p1 tyOne3 rfl rfl rfl (Nat.le_of_ble_eq_true rfl) rfl) ?_)
     refine OpsL.nil ?_
     exact Fin.againJ [0, 2, 4, 5] [1, 101, 103] ((⟨c_9.s, IntKind.i64.wrap (c_9.pos + 1)⟩ : Scan), out_10) (Option.some.inj h5) rfl
   ·refine Tri.exit (Fin.then_exit ?_)
    obtain rfl := hy6 _ (Option.some.inj h5).symm
    refine Fin.then_exit (Fin.block_exit ?_)
    exact Fin.join [0, 2, 4, 5] [1, 101, 103] (c_4, out_5) rfl rfl
  ·rintro ⟨c_2, out_3⟩ hv
   subst v2
   refine Tri.seq (Tri.regionL ?_)
   refine Oc om (Oc (op_nilCheck_p rfl) (Oc (op_field_p tyFld77_1 rfl rfl) (Oc (op_load_p1 tyOne3 rfl rfl rfl) (Oc (op_add rfl rfl) (Oc (op_nilCheck_p rfl) ?_)))))
   refine Oc (op_field_p tyFld77_1 rfl rfl) (Oc (op_store_p1 tyOne3 rfl rfl rfl (Nat.le_of_ble_eq_true rfl) rfl) ?_)
   refine OpsL.nilS ⟨[(0, _), (2, _), (4, _), (5, _)], [(1, .box 77 [.str c_2.s, .i (IntKind.i64.wrap (c_2.pos + 1))]), (101, _), (103, _)]⟩ rfl ?_
   obtain ⟨v23, h24, h⟩ := bnd h
   refine Tri.seqJ (v := v23) (fun (_ : Unit) => ⟨[(2, Pt 101 0), (4, I c0at), (5, .b (.row 103))], [(1, .box 77 [.str c_2.s, .i (IntKind.i64.wrap (c_2.pos + 1))]), (101, .box 31 [.i 0, .i 0, .str []]), (103, .row 5 1 (out_3.map (eK .u8)))]⟩) (fun z => .inl z) ?_ ?_
   ·refine Tri.seq (Tri.regionL ?_)
    refine Oc om (Oc (op_len_r' und50 rfl rfl (List.length_map _)) (Oc (op_gtr rfl rfl) ?_))
    refine OpsL.nilS ⟨[(0, _), (2, _), (4, _), (5, _), (76, B (decide (80 < (out_3.length : Int))))], [(1, _), (101, _), (103, _)]⟩ rfl (Tri.ite h24 rfl (fun _ h24 => ?_) (fun _ h24 => ?_))
    ·refine Tri.regionL (Oc om (Oc om ?_))
     obtain ⟨p_18, e25, h24⟩ := bnd h24
     refine OpsL.callPan (own_a := [(1, _)]) (lexer_scanner_fail_pan e25) goes96 rfl ⟨rfl, trivial⟩ (fun hok => ?_)
     obtain rfl := Option.some.inj h24
     refine Fin.then_pan ?_
     obtain rfl := Option.some.inj h
     exact Fin.panEnd ⟨_, rfl, rfl, hok⟩
    ·refine Tri.skip ?_
     exact Fin.join [2, 4, 5] [1, 101, 103] () (Option.some.inj h24) rfl
   ·rintro _ hv
    subst v23
    refine Tri.seq (Tri.regionL ?_)
    refine Oc om (Oc om ?_)
    refine OpsL.persist 103 rfl (Oc (op_conv_bytes und50 undi5 und9 rfl) (Oc (op_build tyBuild31 rfl rfl) (Oc (op_store_p tyAgg31 rfl rfl rfl rfl (Nat.le_of_ble_eq_true rfl) rfl) (Oc oa ?_))))
    refine OpsL.nilS ⟨[(2, Pt 101 0), (3, B true)], [(1, .box 77 [.str c_2.s, .i (IntKind.i64.wrap (c_2.pos + 1))]), (101, .box 31 [.i 4, .i c0at, .str (toStr out_3)])]⟩ rfl (Tri.ret ?_)
    obtain rfl := Option.some.inj h
    refine Fin.keepS ⟨[(2, _), (3, _)], [(1, _), (101, _)]⟩ rfl (Fin.retP (.inl rfl) ?_)
    exact Fin.resultX [1] [.agg [.i 4, .i c0at, .str (toStr out_3)], .one (.bool true)] (.inl rfl) rfl (.cons (.old (.agg tyAgg31 rfl rfl rfl rfl)) (.cons (.old (.tmp rfl)) .nil)) ⟨_, rfl, rfl, rfl⟩
theorem lexer_scanner_text_spec {F : Nat} {c0s : Str} {c0at : Int} {r : Token × Bool × Str × Int} (h : lexer_scanner_text_S F c0s c0at = some (.inl r)) : Meets Tryz.prog (tabs mx) 43 [(1, .box 77 [.str c0s, .i c0at])] [.ptr 1 0] (Is [(1, .box 77 [.str r.2.2.1, .i r.2.2.2])] (.tup [.agg (eToken r.1), .one (.bool r.2.1)])) := (lexer_scanner_text_specP h).spec
theorem lexer_scanner_text_pan {F : Nat} {c0s : Str} {c0at : Int} {p : Problem} (h : lexer_scanner_text_S F c0s c0at = some (.inr p)) : Panics Tryz.prog (tabs mx) 43 [(1, .box 77 [.str c0s, .i c0at])] [.ptr 1 0] ((fun p : Problem => .iface 46 (.agg #[.int .i64 p.At, .int .i64 p.E])) p) ((fun p : Problem => inR .i64 p.At ∧ inR .i64 p.E) p) := (lexer_scanner_text_specP h).pspec
def lexer_scanner_sign_1_S (F : Nat) (s0 : Str) (v0cs : Str) (v0cat : Int) : Option Bool :=
 (drop? v0cs v0cat).bind fun x_1 => (strings_HasPrefix_S F x_1 s0).bind fun x_2 => some x_2
theorem lexer_scanner_sign_1_spec {F : Nat} {s0 : Str} {v0cs : Str} {v0cat : Int} {r : Bool} (h : lexer_scanner_sign_1_S F s0 v0cs v0cat = some r) : Meets Tryz.prog (tabs mx) 98 [(1, .xbox 75 [.ptr 2 0]), (2, .box 77 [.str v0cs, .i v0cat])] [.one (.str s0), .ptr 1 0] (Is [(1, .xbox 75 [.ptr 2 0]), (2, .box 77 [.str v0cs, .i v0cat])] (.b (.one (.bool r)))) := by
 unfold lexer_scanner_sign_1_S at h
 refine Meets.intro 15 Tryz.func98 Tryz.ntmps98 rfl (by simp) fun E => ?_
 show Tri _ E ⟨15, [1, 2], [1, 2], []⟩ _ ⟨[(0, .b (.one (.str s0))), (1, Pt 1 0)], [(1, .xbox 75 [.ptr 2 0]), (2, .box 77 [.str v0cs, .i v0cat])]⟩ _
 refine Tri.seq (Tri.regionL ?_)
 refine Oc oa (OpsL.nilS ⟨[(0, .b (.one (.str s0))), (1, Pt 1 0)], [(1, .xbox 75 [.ptr 2 0]), (2, .box 77 [.str v0cs, .i v0cat])]⟩ rfl (Tri.seq ?_))
 obtain ⟨x_1, e1, h⟩ := bnd h
 obtain ⟨x_2, e2, h⟩ := bnd h
 refine Tri.regionY mixed 12 [Pt 2 0, Pt 2 0, Pt 2 0, .b (.one (.str v0cs)), Pt 2 0, Pt 2 0, Pt 2 1, I v0cat, .b (.one (.str x_1)), .b (.one (.str s0)), B x_2, B x_2] [3] [1, 2] (s' := ⟨[(3, B x_2)], [(1, _), (2, _)]⟩) rfl ⟨fun _ => .p (op_load_x1 tyOne75 rfl rfl rfl), fun _ => .p (op_nilCheck_p rfl), fun _ => .p (op_field_p tyFld77_0 rfl rfl), fun _ => .p (op_load_p1 tyOne9 rfl rfl rfl), fun _ => .p (op_load_x1 tyOne75 rfl rfl rfl), fun _ => .p (op_nilCheck_p rfl), fun _ => .p (op_field_p tyFld77_1 rfl rfl), fun _ => .p (op_load_p1 tyOne3 rfl rfl rfl), fun _ => .p (op_slice_str_l und9 e1 rfl rfl), fun _ => .p om, fun _ => .p (op_call0 (strings_HasPrefix_spec e2) goes71 rfl rfl), fun _ => .p oa, trivial⟩ rfl rfl (Tri.ret ?_)
 obtain rfl := Option.some.inj h
 refine Fin.keepS ⟨[(3, _)], [(1, _), (2, _)]⟩ rfl ?_
 exact Fin.result [.one (.bool x_2)] (.inl rfl) rfl (.cons (.tmp rfl) .nil) ⟨rfl, rfl⟩
def slices_IndexFunc_S (F : Nat) (s0 : List Str) (f0v0s : Str) (f0v0at : Int) : Option Int :=
 Option.bind (iter F (fun x_1 => if (decide (x_1 < (s0.length : Int))) = true then ((idx? s0 x_1).bind fun x_2 => (lexer_scanner_sign_1_S F x_2 f0v0s f0v0at).bind fun x_3 => if x_3 = true then (some (.inr (.inr x_1))) else (some (.inl (IntKind.i64.wrap (x_1 + 1))))) else (some (.inr (.inl ())))) 0) (alt2 (fun _ => some (-1)) (fun y => some y))
theorem slices_IndexFunc_spec {F : Nat} {s0 : List Str} {f0v0s : Str} {f0v0at : Int} {r : Int} (h : slices_IndexFunc_S F s0 f0v0s f0v0at = some r) : Meets Tryz.prog (tabs mx) 97 [(1, .xbox 75 [.ptr 2 0]), (2, .box 77 [.str f0v0s, .i f0v0at])] [.one (.sl 1 (s0.map eS)), .clo 98 [] [.ptr 1 0]] (Is [(1, .xbox 75 [.ptr 2 0]), (2, .box 77 [.str f0v0s, .i f0v0at])] (.b (.one (.i r)))) := by
 unfold slices_IndexFunc_S at h
 refine Meets.intro 19 Tryz.func97 Tryz.ntmps97 rfl (by simp) fun E => ?_
 show Tri _ E ⟨19, [1, 2], [1, 2], []⟩ _ ⟨[(0, .b (.one (.sl 1 (s0.map eS)))), (1, .b (.clo 98 [] [.ptr 1 0]))], [(1, .xbox 75 [.ptr 2 0]), (2, .box 77 [.str f0v0s, .i f0v0at])]⟩ _
 refine Tri.seq (Tri.regionL ?_)
 refine Oc oa (OpsL.nilS ⟨[(0, .b (.one (.sl 1 (s0.map eS)))), (1, .b (.clo 98 [] [.ptr 1 0]))], [(1, .xbox 75 [.ptr 2 0]), (2, .box 77 [.str f0v0s, .i f0v0at])]⟩ rfl ?_)
 obtain ⟨v1, h2, h⟩ := bnd h
 refine Tri.seqJ (v := v1) (fun (_ : Unit) => ⟨[], [(1, .xbox 75 [.ptr 2 0]), (2, .box 77 [.str f0v0s, .i f0v0at])]⟩) (fun z => .inl z) ?_ ?_
 ·refine Tri.seq (Tri.regionL ?_)
  refine Oc om (Oc (op_len_e' und44 rfl (List.length_map _)) (Oc om ?_))
  refine OpsL.nilS ⟨[(0, _), (1, _), (7, I (s0.length : Int)), (8, I 0)], [(1, _), (2, _)]⟩ rfl (Tri.block (Tri.loopJ h2 (fun (x_1 : Int) => ⟨[(0, .b (.one (.sl 1 (s0.map eS)))), (1, .b (.clo 98 [] [.ptr 1 0])), (7, I (s0.length : Int)), (8, I x_1)], [(1, .xbox 75 [.ptr 2 0]), (2, .box 77 [.str f0v0s, .i f0v0at])]⟩) [0, 1, 7, 8] [1, 2] rfl ?_))
  rintro x_1 o3 h4 hy5
  refine Tri.seq (Tri.regionL ?_)
  refine Oc (op_lss rfl rfl) (OpsL.nilS ⟨[(0, _), (1, _), (7, _), (8, _), (9, B (decide (x_1 < (s0.length : Int))))], [(1, _), (2, _)]⟩ rfl (Tri.seq (Tri.ite h4 rfl (fun _ h4 => ?_) (fun _ h4 => ?_))))
  ·refine Tri.skip (Fin.keepS ⟨[(0, _), (1, _), (7, _), (8, _)], [(1, _), (2, _)]⟩ rfl (Fin.then (Tri.seq (Tri.block (Tri.seq (Tri.regionL ?_))))))
   refine Oc om (Oc oa ?_)
   refine OpsL.nilS ⟨[(0, _), (1, _), (5, I x_1), (7, _), (8, _)], [(1, _), (2, _)]⟩ rfl (Tri.seq (Tri.regionL ?_))
   refine Oc om (Oc om (Oc om ?_))
   obtain ⟨x_2, e6, h4⟩ := bnd h4
   refine Oc (op_index_e tySl44 (ix_lo e6) (ix_map (e := eS) e6) rfl rfl) (Oc (op_load_e1 tyOne9 rfl rfl) ?_)
   obtain ⟨x_3, e7, h4⟩ := bnd h4
   refine Oc (op_callc (own_a := [(1, _), (2, _)]) (lexer_scanner_sign_1_spec e7) goes98 rfl rfl rfl ⟨rfl, rfl, trivial⟩ rfl rfl) (OpsL.nilS ⟨[(0, _), (1, _), (5, _), (7, _), (8, _), (16, B x_3)], [(1, _), (2, _)]⟩ rfl (Tri.ite h4 rfl (fun _ h4 => ?_) (fun _ h4 => ?_)))
   ·refine Tri.seq (Tri.regionL ?_)
    refine Oc om (Oc oa ?_)
    refine OpsL.nilS ⟨[(4, I x_1)], [(1, _), (2, _)]⟩ rfl (Tri.ret (Fin.block_ret (Fin.then_ret ?_)))
    obtain rfl := hy5 _ (Option.some.inj h4).symm
    refine Fin.then_ret (Fin.block_ret (Fin.then_ret ?_))
    obtain rfl := Option.some.inj h
    refine Fin.keepS ⟨[(4, _)], [(1, _), (2, _)]⟩ rfl ?_
    exact Fin.result [.one (.i x_1)] (.inl rfl) rfl (.cons (.tmp rfl) .nil) ⟨rfl, rfl⟩
   ·refine Tri.skip (Fin.block_normal (Fin.keepS ⟨[(0, _), (1, _), (7, _), (8, _)], [(1, _), (2, _)]⟩ rfl (Fin.then (Tri.regionL ?_))))
    refine Oc (op_add rfl rfl) (Oc om ?_)
    refine OpsL.nil ?_
    exact Fin.againJ [0, 1, 7, 8] [1, 2] (IntKind.i64.wrap (x_1 + 1)) (Option.some.inj h4) rfl
  ·refine Tri.exit (Fin.then_exit ?_)
   obtain rfl := hy5 _ (Option.some.inj h4).symm
   refine Fin.then_exit (Fin.block_exit ?_)
   exact Fin.join [] [1, 2] () rfl rfl
 ·rintro _ hv
  subst v1
  refine Tri.seq (Tri.regionL ?_)
  refine Oc oa (OpsL.nilS ⟨[(4, I (-1))], [(1, _), (2, _)]⟩ rfl (Tri.ret ?_))
  obtain rfl := Option.some.inj h
  refine Fin.keepS ⟨[(4, _)], [(1, _), (2, _)]⟩ rfl ?_
  exact Fin.result [.one (.i (-1))] (.inl rfl) rfl (.cons (.tmp rfl) .nil) ⟨rfl, rfl⟩
def lexer_scanner_sign_S (F : Nat) (c0s : Str) (c0at : Int) : Option ((Token × Bool × Int) ⊕ Problem) :=
 (slices_IndexFunc_S F signsT c0s c0at).bind fun x_1 => Option.bind (if (decide (x_1 < 0)) = true then ((lexer_scanner_fail_S F c0at 280 c0s c0at).bind fun p_2 => some (.inr (.inr p_2))) else (some (.inl ()))) (alt2 (fun _ => (idx? signsT x_1).bind fun x_3 => (idx? signsT x_1).bind fun x_4 => some (.inl ((⟨5, c0at, x_3⟩ : Token), true, IntKind.i64.wrap (c0at + (x_4.length : Int))))) (fun y => some y))
theorem lexer_scanner_sign_specP {F : Nat} {c0s : Str} {c0at : Int} {r : (Token × Bool × Int) ⊕ Problem} (h : lexer_scanner_sign_S F c0s c0at = some r) : MeetsP Tryz.prog (tabs mx) 44 [(1, .box 77 [.str c0s, .i c0at])] [.ptr 1 0] (IsP r (fun (r : Token × Bool × Int) => [(1, .box 77 [.str c0s, .i r.2.2])]) (fun (r : Token × Bool × Int) => .tup [.agg (eToken r.1), .one (.bool r.2.1)])) (PanP r (fun p : Problem => .iface 46 (.agg #[.int .i64 p.At, .int .i64 p.E])) (fun p : Problem => inR .i64 p.At ∧ inR .i64 p.E)) := by
 unfold lexer_scanner_sign_S at h
 refine MeetsP.intro 37 Tryz.func44 Tryz.ntmps44 rfl (by simp) fun E => ?_
 show Tri _ E ⟨37, [1], [1], []⟩ _ ⟨[(0, Pt 1 0)], [(1, .box 77 [.str c0s, .i c0at])]⟩ _
 refine Tri.seq (Tri.regionL ?_)
 refine Oc (op_box_x1 (k := 101) rfl rfl rfl rfl) (Oc (op_alloc (k := 102) tyZero31 rfl) (Oc oa ?_))
 refine OpsL.nilS ⟨[(1, Pt 101 0), (2, Pt 102 0)], [(1, .box 77 [.str c0s, .i c0at]), (101, .xbox 75 [.ptr 1 0]), (102, .box 31 [.i 0, .i 0, .str []])]⟩ rfl (Tri.seq (Tri.regionL ?_))
 refine Oc (op_slice_g (xs := signsT) (enc := eS) signs_mem signs_rel tyArr131 rfl rfl (fun _ => rfl) (by rw [maxLen_eq]; decide)) (Oc (op_makeFunc rfl rfl) ?_)
 obtain ⟨x_1, e1, h⟩ := bnd h
 refine Oc (op_call (own_a := [(101, _), (1, _)]) (((slices_IndexFunc_spec e1).sw 1 101).sw 2 1) goes97 rfl ⟨rfl, rfl, trivial⟩ rfl rfl) (Oc oa ?_)
 refine OpsL.nilS ⟨[(1, _), (2, _), (4, I x_1)], [(1, _), (101, _), (102, _)]⟩ rfl ?_
 obtain ⟨v2, h3, h⟩ := bnd h
 refine Tri.seqJ (v := v2) (fun (_ : Unit) => ⟨[(1, Pt 101 0), (2, Pt 102 0), (4, I x_1)], [(1, .box 77 [.str c0s, .i c0at]), (101, .xbox 75 [.ptr 1 0]), (102, .box 31 [.i 0, .i 0, .str []])]⟩) (fun z => .inl z) ?_ ?_
 ·refine Tri.seq (Tri.regionL ?_)
  refine Oc om (Oc (op_lss rfl rfl) ?_)
  refine OpsL.nilS ⟨[(1, _), (2, _), (4, _), (10, B (decide (x_1 < 0)))], [(1, _), (101, _), (102, _)]⟩ rfl (Tri.ite h3 rfl (fun _ h3 => ?_) (fun _ h3 => ?_))
  ·refine Tri.keepS ⟨[(1, _), (2, _), (4, _)], [(1, _), (101, _), (102, _)]⟩ rfl ?_
   obtain ⟨p_2, e4, h3⟩ := bnd h3
   refine Tri.regionP mixed 5 [Pt 1 0, Pt 1 0, Pt 1 0, Pt 1 1, I c0at] rfl ⟨fun _ => .p (op_load_x1 tyOne75 rfl rfl rfl), fun _ => .p (op_load_x1 tyOne75 rfl rfl rfl), fun _ => .p (op_nilCheck_p rfl), fun _ => .p (op_field_p tyFld77_1 rfl rfl), fun _ => .p (op_load_p1 tyOne3 rfl rfl rfl), trivial⟩ ⟨_, .pan (own_a := [(1, _)]) (lexer_scanner_fail_pan e4) goes96 rfl ⟨rfl, trivial⟩ (fun hok => ?_), rfl⟩
   obtain rfl := Option.some.inj h3
   refine Fin.then_pan ?_
   obtain rfl := Option.some.inj h
   exact Fin.panEnd ⟨_, rfl, rfl, hok⟩
  ·refine Tri.skip ?_
   exact Fin.join [1, 2, 4] [1, 101, 102] () (Option.some.inj h3) rfl
 ·rintro _ hv
  subst v2
  refine Tri.seq (Tri.keepS ⟨[(1, _), (2, _), (4, _)], [(1, _), (101, _), (102, _)]⟩ rfl ?_)
  obtain ⟨x_3, e5, h⟩ := bnd h
  refine Tri.regionW mixed [false, false, false, false, false, false, false, false, true, true] [Pt 1 0, Pt 1 0, Pt 1 1, I c0at, I x_1, .b (.eptr [.str x_3]), .b (.one (.str x_3)), .b (.agg [.i 5, .i c0at, .str x_3]), Pt 103 0, B true] [⟨[false, false, false, false, false, false, false, false, false, false], [(1, Pt 101 0), (2, Pt 102 0), (4, I x_1)], [(1, .box 77 [.str c0s, .i c0at]), (101, .xbox 75 [.ptr 1 0]), (102, .box 31 [.i 0, .i 0, .str []])], [true, true, true, true, true, true, true, true, true, true], [], [9]⟩, ⟨[false, false, false, false, false, false, false, false, true, false], [(1, Pt 101 0), (2, Pt 102 0), (4, I x_1)], [(1, .box 77 [.str c0s, .i c0at]), (101, .xbox 75 [.ptr 1 0]), (102, .box 31 [.i 0, .i 0, .str []]), (103, .box 31 [.i 0, .i 0, .str []])], [true, true, true, true, true, true, true, true, true, true], [8], []⟩, ⟨[false, false, false, false, false, false, false, false, true, true], [(1, Pt 101 0), (2, Pt 102 0), (4, I x_1)], [(1, .box 77 [.str c0s, .i c0at]), (101, .xbox 75 [.ptr 1 0]), (102, .box 31 [.i 0, .i 0, .str []]), (103, .box 31 [.i 5, .i c0at, .str x_3])], [true, true, true, true, true, true, true, true, true, true], [0, 1, 2, 3, 4, 5, 6, 7, 8, 9], []⟩] rfl (⟨by kernel_rfl, ⟨⟨Pt 1 0, fun _ => rfl, fun _ => .p (by exact op_load_x1 tyOne75 rfl rfl rfl)⟩, ⟨Pt 1 0, fun _ => rfl, fun _ => .p (by exact op_nilCheck_p rfl)⟩, ⟨Pt 1 1, fun _ => rfl, fun _ => .p (by exact op_field_p tyFld77_1 rfl rfl)⟩, ⟨I c0at, fun _ => rfl, fun _ => .p (by exact op_load_p1 tyOne3 rfl rfl rfl)⟩, ⟨I x_1, fun _ => rfl, fun _ => .p (by exact op_move rfl)⟩, ⟨.b (.eptr [.str x_3]), fun _ => rfl, fun _ => .p (by exact op_index_gv signs_mem signs_rel tyArr131 (ix_lo e5) (ix_hi e5) rfl (ix_flat (e := eS) (sz := 1) (fun _ => rfl) e5))⟩, ⟨.b (.one (.str x_3)), fun _ => rfl, fun _ => .p (by exact op_load_e1 tyOne9 rfl rfl)⟩, ⟨.b (.agg [.i 5, .i c0at, .str x_3]), fun _ => rfl, fun _ => .p (by exact op_build tyBuild31 rfl rfl)⟩, ⟨_, [103], Pt 103 0, rfl, fun _ => rfl, rfl, rfl, fun _ => .toO [1, 101, 102, 103] (by exact .p (by exact op_alloc (k := 103) tyZero31 rfl)) (by exact rfl)⟩, trivial, trivial⟩, ⟨by kernel_rfl, ⟨⟨Pt 1 0, fun _ => rfl, fun _ => .p (by exact op_load_x1 tyOne75 rfl rfl rfl)⟩, ⟨Pt 1 0, fun _ => rfl, fun _ => .p (by exact op_nilCheck_p rfl)⟩, ⟨Pt 1 1, fun _ => rfl, fun _ => .p (by exact op_field_p tyFld77_1 rfl rfl)⟩, ⟨I c0at, fun _ => rfl, fun _ => .p (by exact op_load_p1 tyOne3 rfl rfl rfl)⟩, ⟨I x_1, fun _ => rfl, fun _ => .p (by exact op_move rfl)⟩, ⟨.b (.eptr [.str x_3]), fun _ => rfl, fun _ => .p (by exact op_index_gv signs_mem signs_rel tyArr131 (ix_lo e5) (ix_hi e5) rfl (ix_flat (e := eS) (sz := 1) (fun _ => rfl) e5))⟩, ⟨.b (.one (.str x_3)), fun _ => rfl, fun _ => .p (by exact op_load_e1 tyOne9 rfl rfl)⟩, ⟨.b (.agg [.i 5, .i c0at, .str x_3]), fun _ => rfl, fun _ => .p (by exact op_build tyBuild31 rfl rfl)⟩, trivial, ⟨_, [], .b (.one .any), rfl, (fun e => by simp at e), rfl, rfl, fun _ => .toO [1, 101, 102, 103] (by exact .p (by exact op_store_p tyAgg31 rfl rfl rfl rfl (Nat.le_of_ble_eq_true rfl) rfl)) (by exact rfl)⟩, trivial⟩, ⟨by kernel_rfl, ⟨trivial, trivial, trivial, trivial, trivial, trivial, trivial, trivial, trivial, trivial, trivial⟩, trivial⟩⟩⟩) rfl rfl rfl [1, 2, 4, 5] [1, 101, 102, 103] (s' := ⟨[(1, _), (2, _), (4, _), (5, Pt 103 0)], [(1, _), (101, _), (102, _), (103, .box 31 [.i 5, .i c0at, .str x_3])]⟩) rfl ?_
  refine Tri.seq (Tri.keepS ⟨[(1, _), (2, _), (4, _), (5, _)], [(1, _), (101, _), (102, _), (103, _)]⟩ rfl ?_)
  obtain ⟨x_4, e6, h⟩ := bnd h
  refine Tri.regionY mixed 11 [Pt 1 0, Pt 1 0, Pt 1 1, I c0at, I x_1, .b (.eptr [.str x_4]), .b (.one (.str x_4)), I (x_4.length : Int), I (IntKind.i64.wrap (c0at + (x_4.length : Int))), Pt 1 0, Pt 1 1] [2, 5] [1, 102, 103] (s' := ⟨[(2, _), (5, _)], [(1, .box 77 [.str c0s, .i (IntKind.i64.wrap (c0at + (x_4.length : Int)))]), (102, _), (103, _)]⟩) rfl ⟨fun _ => .p (op_load_x1 tyOne75 rfl rfl rfl), fun _ => .p (op_nilCheck_p rfl), fun _ => .p (op_field_p tyFld77_1 rfl rfl), fun _ => .p (op_load_p1 tyOne3 rfl rfl rfl), fun _ => .p om, fun _ => .p (op_index_gv signs_mem signs_rel tyArr131 (ix_lo e6) (ix_hi e6) rfl (ix_flat (e := eS) (sz := 1) (fun _ => rfl) e6)), fun _ => .p (op_load_e1 tyOne9 rfl rfl), fun _ => .p (op_len_str und9 rfl), fun _ => .p (op_add rfl rfl), fun _ => .p (op_nilCheck_p rfl), fun _ => .p (op_field_p tyFld77_1 rfl rfl), trivial⟩ ⟨_, by exact .p (op_store_p1 tyOne3 rfl rfl rfl (Nat.le_of_ble_eq_true rfl) rfl), rfl⟩ rfl (Tri.seq (Tri.regionL ?_))
  refine Oc (lp tyAgg31) (Oc (op_store_p tyAgg31 rfl rfl rfl rfl (Nat.le_of_ble_eq_true rfl) rfl) (Oc oa ?_))
  refine OpsL.nilS ⟨[(2, _), (3, B true)], [(1, _), (102, .box 31 [.i 5, .i c0at, .str x_3])]⟩ rfl (Tri.ret ?_)
  obtain rfl := Option.some.inj h
  refine Fin.keepS ⟨[(2, _), (3, _)], [(1, _), (102, _)]⟩ rfl (Fin.retP (.inl rfl) ?_)
  exact Fin.resultX [1] [.agg [.i 5, .i c0at, .str x_3], .one (.bool true)] (.inl rfl) rfl (.cons (.old (.agg tyAgg31 rfl rfl rfl rfl)) (.cons (.old (.tmp rfl)) .nil)) ⟨_, rfl, rfl, rfl⟩
theorem lexer_scanner_sign_spec {F : Nat} {c0s : Str} {c0at : Int} {r : Token × Bool × Int} (h : lexer_scanner_sign_S F c0s c0at = some (.inl r)) : Meets Tryz.prog (tabs mx) 44 [(1, .box 77 [.str c0s, .i c0at])] [.ptr 1 0] (Is [(1, .box 77 [.str c0s, .i r.2.2])] (.tup [.agg (eToken r.1), .one (.bool r.2.1)])) := (lexer_scanner_sign_specP h).spec
theorem lexer_scanner_sign_pan {F : Nat} {c0s : Str} {c0at : Int} {p : Problem} (h : lexer_scanner_sign_S F c0s c0at = some (.inr p)) : Panics Tryz.prog (tabs mx) 44 [(1, .box 77 [.str c0s, .i c0at])] [.ptr 1 0] ((fun p : Problem => .iface 46 (.agg #[.int .i64 p.At, .int .i64 p.E])) p) ((fun p : Problem => inR .i64 p.At ∧ inR .i64 p.E) p) := (lexer_scanner_sign_specP h).pspec
def lexer_scanner_skip_S (F : Nat) (c0s : Str) (c0at : Int) : Option (Str × Int) :=
 Option.bind (iter F (fun c_1 => Option.bind (lexer_scanner_run_S F 99 c_1.s c_1.pos) (un3 fun x_3 x_4 x_5 => (gcall (!(decide (0 < x_3))) (lexer_scanner_peek_S F x_4 x_5)).bind fun x_6 => if ((decide (0 < x_3)) || (decide (x_6 = 35))) = true then ((lexer_scanner_peek_S F x_4 x_5).bind fun x_7 => if (decide (x_7 = 35)) = true then (Option.bind (lexer_scanner_run_S F 101 x_4 x_5) (un3 fun x_8 x_9 x_10 => some (.inl (⟨x_9, x_10⟩ : Scan)))) else (some (.inl (⟨x_4, x_5⟩ : Scan)))) else (some (.inr (⟨x_4, x_5⟩ : Scan))))) (⟨c0s, c0at⟩ : Scan)) (fun y_2 => some (y_2.s, y_2.pos))
theorem lexer_scanner_skip_spec {F : Nat} {c0s : Str} {c0at : Int} {r : Str × Int} (h : lexer_scanner_skip_S F c0s c0at = some r) : Meets Tryz.prog (tabs mx) 45 [(1, .box 77 [.str c0s, .i c0at])] [.ptr 1 0] (Is [(1, .box 77 [.str r.1, .i r.2])] (.tup [])) := by
 unfold lexer_scanner_skip_S at h
 refine Meets.intro 15 Tryz.func45 Tryz.ntmps45 rfl (by simp) fun E => ?_
 show Tri _ E ⟨15, [1], [1], []⟩ _ ⟨[(0, Pt 1 0)], [(1, .box 77 [.str c0s, .i c0at])]⟩ _
 refine Tri.block ?_
 obtain ⟨v1, h2, h⟩ := bnd h
 refine Tri.loopJ h2 (fun (c_1 : Scan) => ⟨[(0, Pt 1 0)], [(1, .box 77 (eScan c_1))]⟩) [0] [1] rfl ?_
 rintro c_1 o3 h4 hy5
 refine Tri.seq (Tri.seq (Tri.regionL ?_))
 refine Oc om ?_
 obtain ⟨⟨x_3, x_4, x_5⟩, e6, h4⟩ := bnd h4
 refine Oc (op_call (own_a := [(1, _)]) (lexer_scanner_run_spec e6) goes93 rfl ⟨rfl, trivial⟩ rfl rfl) (Oc (op_gtr rfl rfl) (Oc om ?_))
 refine CgF (!(decide (0 < x_3))) [] (fun g7 => trivial) (fun g7 => om) (OpsL.keepS ⟨[(0, _), (5, B (decide (0 < x_3))), (6, .opt (!(decide (0 < x_3))) (.ptr 1 0))], [(1, .box 77 [.str x_4, .i x_5])]⟩ rfl ?_)
 obtain ⟨x_6, e9, h4⟩ := bnd h4
 refine CgF (!(decide (0 < x_3))) [6] (fun g8 => ⟨g8, trivial⟩) (fun g8 => op_callG (own_a := [(1, _)]) (lexer_scanner_peek_spec (gc e9 g8)) goes92 rfl ⟨rfl, trivial⟩ rfl rfl rfl rfl rfl) (CgF (!(decide (0 < x_3))) [7] (fun g10 => ⟨g10, trivial⟩) (fun g10 => op_eql rfl rfl) (Oc (op_pick_or (fun e => by first | (rw [e]; rfl) | (simp only at e; rw [e]; rfl)) rfl rfl rfl rfl) (OpsL.nilS ⟨[(0, _), (9, B ((decide (0 < x_3)) || (decide (x_6 = 35))))], [(1, _)]⟩ rfl (Tri.ite h4 rfl (fun _ h4 => ?_) (fun _ h4 => ?_)))))
 ·refine Tri.skip (Fin.keepS ⟨[(0, _)], [(1, _)]⟩ rfl (Fin.then (Tri.block (Tri.seq (Tri.regionL ?_)))))
  refine Oc om ?_
  obtain ⟨x_7, e11, h4⟩ := bnd h4
  refine Oc (op_call (own_a := [(1, _)]) (lexer_scanner_peek_spec e11) goes92 rfl ⟨rfl, trivial⟩ rfl rfl) (Oc (op_eql rfl rfl) ?_)
  refine OpsL.nilS ⟨[(0, _), (12, B (decide (x_7 = 35)))], [(1, _)]⟩ rfl (Tri.ite h4 rfl (fun _ h4 => ?_) (fun _ h4 => ?_))
  ·refine Tri.regionL (Oc om ?_)
   obtain ⟨⟨x_8, x_9, x_10⟩, e12, h4⟩ := bnd h4
   refine Oc (op_call (own_a := [(1, _)]) (lexer_scanner_run_spec e12) goes93 rfl ⟨rfl, trivial⟩ rfl rfl) (OpsL.nil (Fin.block_normal ?_))
   exact Fin.againJ [0] [1] (⟨x_9, x_10⟩ : Scan) (Option.some.inj h4) rfl
  ·refine Tri.skip (Fin.block_normal ?_)
   exact Fin.againJ [0] [1] (⟨x_4, x_5⟩ : Scan) (Option.some.inj h4) rfl
 ·refine Tri.exit (Fin.then_exit ?_)
  obtain rfl := hy5 _ (Option.some.inj h4).symm
  refine Fin.then_exit (Fin.block_exit ?_)
  obtain rfl := Option.some.inj h
  refine Fin.keepS ⟨[], [(1, _)]⟩ rfl ?_
  exact Fin.result [] (.inr rfl) rfl (.nil) ⟨rfl, rfl⟩
def lexer_Tokens_S (F : Nat) (s0 : Str) : Option ((List Token) × Problem) :=
 if (decide (100000 < (s0.length : Int))) = true then (some ([], (⟨0, 2⟩ : Problem))) else (Option.bind (Option.bind (lexer_scanner_skip_S F s0 0) (un2 fun x_2 x_3 => iter F (un2 fun outf0_4 c_5 => if (decide (c_5.pos < (s0.length : Int))) = true then (Option.bind (Option.bind (iter F (un2 fun c_9 x_10 => if (decide (x_10 < 4)) = true then (if decide (x_10 = 0) = true then (Option.bind (lexer_scanner_name_S F c_9.s c_9.pos) (altP (fun p_14 => some (.inr (.inr ([], (⟨p_14.At, p_14.E⟩ : Problem))))) (un4 fun x_15 x_16 x_17 x_18 => if x_16 = true then ((app? outf0_4 [x_15]).bind fun x_19 => some (.inr (.inl (x_19, (⟨x_17, x_18⟩ : Scan))))) else (some (.inl ((⟨x_17, x_18⟩ : Scan), IntKind.i64.wrap (x_10 + 1))))))) else (if decide (x_10 = 1) = true then (Option.bind (lexer_scanner_number_S F c_9.s c_9.pos) (altP (fun p_21 => some (.inr (.inr ([], (⟨p_21.At, p_21.E⟩ : Problem))))) (un4 fun x_22 x_23 x_24 x_25 => if x_23 = true then ((app? outf0_4 [x_22]).bind fun x_26 => some (.inr (.inl (x_26, (⟨x_24, x_25⟩ : Scan))))) else (some (.inl ((⟨x_24, x_25⟩ : Scan), IntKind.i64.wrap (x_10 + 1))))))) else (if decide (x_10 = 2) = true then (Option.bind (lexer_scanner_text_S F c_9.s c_9.pos) (altP (fun p_28 => some (.inr (.inr ([], (⟨p_28.At, p_28.E⟩ : Problem))))) (un4 fun x_29 x_30 x_31 x_32 => if x_30 = true then ((app? outf0_4 [x_29]).bind fun x_33 => some (.inr (.inl (x_33, (⟨x_31, x_32⟩ : Scan))))) else (some (.inl ((⟨x_31, x_32⟩ : Scan), IntKind.i64.wrap (x_10 + 1))))))) else (if decide (x_10 = 3) = true then (Option.bind (lexer_scanner_sign_S F c_9.s c_9.pos) (altP (fun p_35 => some (.inr (.inr ([], (⟨p_35.At, p_35.E⟩ : Problem))))) (un3 fun x_36 x_37 x_38 => if x_37 = true then ((app? outf0_4 [x_36]).bind fun x_39 => some (.inr (.inl (x_39, (⟨c_9.s, x_38⟩ : Scan))))) else (some (.inl ((⟨c_9.s, x_38⟩ : Scan), IntKind.i64.wrap (x_10 + 1))))))) else (none))))) else (some (.inr (.inl (outf0_4, c_9))))) (c_5, 0)) (alt2 (un2 fun outf0_11 c_12 => some (.inl (outf0_11, c_12))) (fun y => some (.inr y)))) (alt2 (un2 fun outf0_7 c_8 => Option.bind (lexer_scanner_skip_S F c_8.s c_8.pos) (un2 fun x_40 x_41 => some (.inl (outf0_7, (⟨x_40, x_41⟩ : Scan))))) (fun y => some (.inr (.inr y))))) else (some (.inr (.inl outf0_4)))) ([], (⟨x_2, x_3⟩ : Scan)))) (alt2 (fun outf0_1 => some (outf0_1, (⟨0, 0⟩ : Problem))) (fun y => some y)))
theorem lexer_Tokens_1_idle : Idles Tryz.prog 40 2 := Idles.intro Tryz.func40 rfl rfl Tryz.underlying20 (by decide) (by decide) (by decide) (by decide) (by decide)
theorem lexer_Tokens_1_catch2 {a102i0 : Int} {a102i1 : Int} {xs107 : List Token} {p : Problem} (hok : inR .i64 p.At ∧ inR .i64 p.E) : Catches Tryz.prog (tabs mx) 40 [(101, .xbox 22 [.row 107]), (102, .box 46 [.i a102i0, .i a102i1]), (107, .row 31 3 (xs107.map eToken))] [.ptr 101 0, .ptr 102 0] (.iface 46 (.agg #[.int .i64 p.At, .int .i64 p.E])) [(101, .xbox 22 [.one (.nil)]), (102, .box 46 (eProblem p))] := by
 refine Catches.intro (z := .one (.ifv 46 (eProblem p))) 8 Tryz.func40 Tryz.ntmps40 rfl (by decide) (by decide) (by decide) (fun h ρ => ⟨_, rfl, .cons ⟨rfl, hok.1⟩ (.cons ⟨rfl, hok.2⟩ .nil)⟩) fun E => ?_
 show Tri _ E ⟨8, [101, 102], [101, 102, 107], []⟩ _ ⟨[(2, .b (.one (.ifv 46 (eProblem p)))), (0, Pt 101 0), (1, Pt 102 0)], [(101, .xbox 22 [.row 107]), (102, .box 46 [.i a102i0, .i a102i1]), (107, .row 31 3 (xs107.map eToken))]⟩ _
 refine Tri.seq (Tri.regionL ?_)
 refine Oc om (Oc (op_neq_ifv Tryz.underlying20 rfl) ?_)
 refine OpsL.nilS ⟨[(0, Pt 101 0), (1, Pt 102 0), (2, .b (.one (.ifv 46 (eProblem p)))), (5, B true)], [(101, .xbox 22 [.row 107]), (102, .box 46 [.i a102i0, .i a102i1]), (107, .row 31 3 (xs107.map eToken))]⟩ rfl (Tri.condT rfl (Tri.keepS ⟨[(0, _), (1, _), (2, _)], [(101, _), (102, _), (107, _)]⟩ rfl (Tri.regionWF mixed [false, false, true, true] [.b (.one (.ifv 46 (eProblem p))), .b (.agg (eProblem p)), B true, B true] [⟨[false, false, false, false], [(0, Pt 101 0), (1, Pt 102 0), (2, .b (.one (.ifv 46 (eProblem p))))], [(101, .xbox 22 [.row 107]), (102, .box 46 [.i a102i0, .i a102i1]), (107, .row 31 3 (xs107.map eToken))], [true, true, true, true], [], [3]⟩, ⟨[false, false, true, false], [(0, Pt 101 0), (1, Pt 102 0), (2, .b (.one (.ifv 46 (eProblem p))))], [(101, .xbox 22 [.one (.nil)]), (102, .box 46 [.i a102i0, .i a102i1]), (107, .row 31 3 (xs107.map eToken))], [true, true, true, true], [2], []⟩, ⟨[false, false, true, true], [(0, Pt 101 0), (1, Pt 102 0), (2, .b (.one (.ifv 46 (eProblem p))))], [(101, .xbox 22 [.one (.nil)]), (102, .box 46 (eProblem p)), (107, .row 31 3 (xs107.map eToken))], [true, true, true, true], [0, 1, 2, 3], []⟩] rfl (⟨by kernel_rfl, ⟨⟨.b (.one (.ifv 46 (eProblem p))), fun _ => rfl, fun _ => .p (by exact op_move rfl)⟩, ⟨.b (.agg (eProblem p)), fun _ => rfl, fun _ => .p (by exact op_assert_ifv Tryz.underlying46 rfl rfl)⟩, ⟨_, [], .b (.one .any), rfl, (fun e => by simp at e), rfl, rfl, fun _ => .toO [101, 102, 107] (by exact .p (by exact op_store_x1 tyOne22 rfl rfl rfl rfl (Nat.le_of_ble_eq_true rfl) rfl)) (by exact rfl)⟩, trivial, trivial⟩, ⟨by kernel_rfl, ⟨⟨.b (.one (.ifv 46 (eProblem p))), fun _ => rfl, fun _ => .p (by exact op_move rfl)⟩, ⟨.b (.agg (eProblem p)), fun _ => rfl, fun _ => .p (by exact op_assert_ifv Tryz.underlying46 rfl rfl)⟩, trivial, ⟨_, [], .b (.one .any), rfl, (fun e => by simp at e), rfl, rfl, fun _ => .toO [101, 102, 107] (by exact .p (by exact op_store_p tyAgg46 rfl rfl rfl rfl (Nat.le_of_ble_eq_true rfl) rfl)) (by exact rfl)⟩, trivial⟩, ⟨by kernel_rfl, ⟨trivial, trivial, trivial, trivial, trivial⟩, trivial⟩⟩⟩) rfl rfl rfl [] [101, 102] (s' := ⟨[], [(101, .xbox 22 [.one (.nil)]), (102, .box 46 (eProblem p))]⟩) rfl (Fin.keepS ⟨[], [(101, _), (102, _)]⟩ rfl ?_))))
 exact Fin.result [] (.inr rfl) rfl .nil ⟨rfl, rfl⟩
theorem lexer_Tokens_spec {F : Nat} {s0 : Str} {r : (List Token) × Problem} (h : lexer_Tokens_S F s0 = some r) : Meets Tryz.prog (tabs mx) 13 [] [.one (.str s0)] (Is [] (.tup [.one (.sl 3 (r.1.map eToken)), .agg (eProblem r.2)])) := by
 unfold lexer_Tokens_S at h
 refine Meets.introD 55 Tryz.func13 Tryz.ntmps13 rfl (by simp) fun E => ?_
 show Tri _ E ⟨55, [], [], []⟩ _ ⟨[(0, .b (.one (.str s0)))], []⟩ _
 refine Tri.seq (Tri.regionL ?_)
 refine Oc (op_alloc (k := 101) tyZero22 rfl) (Oc (op_alloc (k := 102) tyZero46 rfl) ?_)
 refine OpsL.nilS ⟨[(0, .b (.one (.str s0))), (2, Pt 101 0), (3, Pt 102 0)], [(101, .box 22 [.nil]), (102, .box 46 [.i 0, .i 0])]⟩ rfl (Tri.seq (Tri.seq (Tri.regionL ?_)))
 refine Oc om (Oc (op_len_str und9 rfl) (Oc (op_gtr rfl rfl) ?_))
 refine OpsL.nilS ⟨[(0, _), (2, _), (3, _), (12, B (decide (100000 < (s0.length : Int))))], [(101, _), (102, _)]⟩ rfl (Tri.ite h rfl (fun _ h => ?_) (fun _ h => ?_))
 ·refine Tri.seq (Tri.regionL ?_)
  refine Oc (op_build tyBuild46 rfl rfl) (Oc (op_store_p1 tyOne22 rfl rfl rfl (Nat.le_of_ble_eq_true rfl) rfl) (Oc (op_store_p tyAgg46 rfl rfl rfl rfl (Nat.le_of_ble_eq_true rfl) rfl) ?_))
  refine OpsL.nilS ⟨[(2, _), (3, _)], [(101, _), (102, .box 46 [.i 0, .i 2])]⟩ rfl (Tri.ret (Fin.then_ret ?_))
  obtain rfl := Option.some.inj h
  refine Fin.retD (.inl rfl) rfl (Fin.keepS ⟨[(2, _), (3, _)], [(101, _), (102, _)]⟩ rfl (Fin.nilbox 101 0 3 rfl rfl (by decide) (Fin.result' [.one (.sl 3 ([].map eToken)), .agg [.i 0, .i 2]] (.inl rfl) rfl (.cons (.one tyOne22 rfl rfl rfl) (.cons (.agg tyAgg46 rfl rfl rfl rfl) .nil)) ⟨rfl, rfl⟩)))
 ·refine Tri.skip (Fin.keepS ⟨[(0, _), (2, _), (3, _)], [(101, _), (102, _)]⟩ rfl (Fin.then (Tri.seq (Tri.regionL ?_))))
  refine Oc (op_makeFunc rfl rfl) (OpsL.defer rfl rfl rfl (fun E' vals hlink hvals => ?_))
  refine OpsL.nilS ⟨[(0, _), (2, _), (3, _)], [(101, _), (102, _)]⟩ rfl (Tri.seq (Tri.regionL ?_))
  refine Oc om (Oc (op_build tyBuild77 rfl rfl) (Oc (op_box (k := 103) rfl rfl) (Oc oa ?_)))
  refine OpsL.nilS ⟨[(0, _), (2, _), (3, _), (4, Pt 103 0)], [(101, _), (102, _), (103, .box 77 [.str s0, .i 0])]⟩ rfl (Tri.seq (Tri.regionL ?_))
  refine Oc om (Oc (op_makeFunc rfl rfl) (Oc om (Oc (op_makeFunc rfl rfl) (Oc om (Oc (op_makeFunc rfl rfl) ?_)))))
  refine Oc om (OpsL.keepS ⟨[(0, _), (2, _), (3, _), (4, _), (19, .b (.clo 41 [.ptr 103 0] [])), (21, .b (.clo 42 [.ptr 103 0] [])), (23, .b (.clo 43 [.ptr 103 0] [])), (24, Pt 103 0)], [(101, _), (102, _), (103, _)]⟩ rfl (Oc (op_makeFunc rfl rfl) (Oc (op_buildA_x tyBuild79 rfl rfl) (Oc (op_alloc (k := 104) tyZero79 rfl) ?_))))
  refine OpsL.toX 104 rfl (Oc (op_store_xx tyAgg79 rfl rfl rfl rfl rfl (Nat.le_of_ble_eq_true rfl) rfl) (OpsL.nilS ⟨[(0, .b (.one (.str s0))), (2, Pt 101 0), (3, Pt 102 0), (4, Pt 103 0), (5, Pt 104 0)], [(101, .box 22 [.nil]), (102, .box 46 [.i 0, .i 0]), (103, .box 77 [.str s0, .i 0]), (104, .xbox 79 [.clo 41 [.ptr 103 0] [], .clo 42 [.ptr 103 0] [], .clo 43 [.ptr 103 0] [], .clo 44 [.ptr 103 0] []])]⟩ rfl ?_))
  obtain ⟨v1, h2, h⟩ := bnd h
  refine Tri.seqJ (v := v1) (fun (outf0_1 : List Token) => ⟨[(2, Pt 101 0), (3, Pt 102 0)], [(101, .xbox 22 [.row 107]), (102, .box 46 [.i 0, .i 0]), (107, .row 31 3 (outf0_1.map eToken))]⟩) (fun z => .inl z) ?_ ?_
  ·refine Tri.seq (Tri.regionL ?_)
   refine Oc om ?_
   obtain ⟨⟨x_2, x_3⟩, e3, h2⟩ := bnd h2
   refine Oc (op_call (own_a := [(103, _)]) ((lexer_scanner_skip_spec e3).sw 1 103) goes45 rfl ⟨rfl, trivial⟩ rfl rfl) (OpsL.nilS ⟨[(0, .b (.one (.str s0))), (2, Pt 101 0), (3, Pt 102 0), (4, Pt 103 0), (5, Pt 104 0)], [(101, .box 22 [.nil]), (102, .box 46 [.i 0, .i 0]), (103, .box 77 [.str x_2, .i x_3]), (104, .xbox 79 [.clo 41 [.ptr 103 0] [], .clo 42 [.ptr 103 0] [], .clo 43 [.ptr 103 0] [], .clo 44 [.ptr 103 0] []])]⟩ rfl (Tri.block (Tri.toX 101 rfl (Tri.nilrowX 101 0 107 3 31 rfl rfl (by decide) (by decide) rfl (Tri.loopJ h2 (un2 fun (outf0_4 : List Token) (c_5 : Scan) => ⟨[(0, .b (.one (.str s0))), (2, Pt 101 0), (3, Pt 102 0), (4, Pt 103 0), (5, Pt 104 0)], [(101, .xbox 22 [.row 107]), (102, .box 46 [.i 0, .i 0]), (103, .box 77 (eScan c_5)), (104, .xbox 79 [.clo 41 [.ptr 103 0] [], .clo 42 [.ptr 103 0] [], .clo 43 [.ptr 103 0] [], .clo 44 [.ptr 103 0] []]), (107, .row 31 3 (outf0_4.map eToken))]⟩) [0, 2, 3, 4, 5] [101, 102, 103, 104, 107] rfl ?_)))))
   rintro ⟨outf0_4, c_5⟩ o4 h5 hy6
   refine Tri.seq (Tri.seq (Tri.regionL ?_))
   refine Oc om (Oc (op_nilCheck_p rfl) (Oc (op_field_p tyFld77_1 rfl rfl) (Oc (op_load_p1 tyOne3 rfl rfl rfl) (Oc om (Oc (op_len_str und9 rfl) ?_)))))
   refine Oc (op_lss rfl rfl) (OpsL.nilS ⟨[(0, _), (2, _), (3, _), (4, _), (5, _), (35, B (decide (c_5.pos < (s0.length : Int))))], [(101, _), (102, _), (103, _), (104, _), (107, _)]⟩ rfl (Tri.ite h5 rfl (fun _ h5 => ?_) (fun _ h5 => ?_)))
   ·refine Tri.skip (Fin.keepS ⟨[(0, _), (2, _), (3, _), (4, _), (5, _)], [(101, _), (102, _), (103, _), (104, _), (107, _)]⟩ rfl (Fin.then ?_))
    obtain ⟨v7, h8, h5⟩ := bnd h5
    refine Tri.seqJ (v := v7) (un2 fun (outf0_7 : List Token) (c_8 : Scan) => ⟨[(0, .b (.one (.str s0))), (2, Pt 101 0), (3, Pt 102 0), (4, Pt 103 0), (5, Pt 104 0)], [(101, .xbox 22 [.row 107]), (102, .box 46 [.i 0, .i 0]), (103, .box 77 (eScan c_8)), (104, .xbox 79 [.clo 41 [.ptr 103 0] [], .clo 42 [.ptr 103 0] [], .clo 43 [.ptr 103 0] [], .clo 44 [.ptr 103 0] []]), (107, .row 31 3 (outf0_7.map eToken))]⟩) (fun z => .inl z) ?_ ?_
    ·refine Tri.block (Tri.seq (Tri.regionL ?_))
     refine Oc (op_load_xa tyAgg79 rfl rfl rfl rfl) (Oc om ?_)
     refine OpsL.nilS ⟨[(0, _), (2, _), (3, _), (4, _), (5, _), (38, .xagg [.clo 41 [.ptr 103 0] [], .clo 42 [.ptr 103 0] [], .clo 43 [.ptr 103 0] [], .clo 44 [.ptr 103 0] []]), (39, I 0)], [(101, _), (102, _), (103, _), (104, _), (107, _)]⟩ rfl (Tri.block ?_)
     obtain ⟨v9, h10, h8⟩ := bnd h8
     refine Tri.loopJ h10 (un2 fun (c_9 : Scan) (x_10 : Int) => ⟨[(0, .b (.one (.str s0))), (2, Pt 101 0), (3, Pt 102 0), (4, Pt 103 0), (5, Pt 104 0), (38, .xagg [.clo 41 [.ptr 103 0] [], .clo 42 [.ptr 103 0] [], .clo 43 [.ptr 103 0] [], .clo 44 [.ptr 103 0] []]), (39, I x_10)], [(101, .xbox 22 [.row 107]), (102, .box 46 [.i 0, .i 0]), (103, .box 77 (eScan c_9)), (104, .xbox 79 [.clo 41 [.ptr 103 0] [], .clo 42 [.ptr 103 0] [], .clo 43 [.ptr 103 0] [], .clo 44 [.ptr 103 0] []]), (107, .row 31 3 (outf0_4.map eToken))]⟩) [0, 2, 3, 4, 5, 38, 39] [101, 102, 103, 104, 107] rfl ?_
     rintro ⟨c_9, x_10⟩ o11 h12 hy13
     refine Tri.seq (Tri.regionL ?_)
     refine Oc (op_lss rfl rfl) (OpsL.nilS ⟨[(0, _), (2, _), (3, _), (4, _), (5, _), (38, _), (39, _), (40, B (decide (x_10 < 4)))], [(101, _), (102, _), (103, _), (104, _), (107, _)]⟩ rfl (Tri.seq (Tri.ite h12 rfl (fun _ h12 => ?_) (fun _ h12 => ?_))))
     ·refine Tri.skip (Fin.keepS ⟨[(0, _), (2, _), (3, _), (4, _), (5, _), (38, _), (39, _)], [(101, _), (102, _), (103, _), (104, _), (107, _)]⟩ rfl (Fin.then (Tri.seq (Tri.block (Tri.seq ?_)))))
      refine iteBy h12 (fun hc14 h12 => ?_) (fun _ h12 => ?_)
      ·refine Tri.regionL (Oc (op_index_xa tyArr79 tyOne78 (show x_10 = 0 from of_decide_eq_true hc14) (by decide) rfl rfl rfl) (Oc oa ?_))
       refine OpsL.nilS ⟨[(0, _), (2, _), (3, _), (4, _), (5, _), (7, .b (.clo 41 [.ptr 103 0] [])), (38, _), (39, _)], [(101, _), (102, _), (103, _), (104, _), (107, _)]⟩ rfl (Tri.seq (Tri.regionL ?_))
       refine Oc om ?_
       obtain ⟨o_13, e15, h12⟩ := bnd h12
       refine altPR h12 (fun p_14 hp16 h12 => ?pan) (fun z hp16 h12 => ?_)
       case pan =>
        subst o_13
        refine OpsL.callcPan (own_a := [(103, _)]) ((lexer_scanner_name_pan e15).sw 1 103) goes41 rfl rfl rfl ⟨rfl, trivial⟩ (fun hok => ?_)
        refine Fin.then_pan (Fin.block_pan (Fin.then_pan ?_))
        obtain rfl := hy13 _ (Option.some.inj h12).symm
        refine Fin.then_pan (Fin.block_pan (Fin.block_pan ?_))
        obtain rfl := Option.some.inj h8
        refine Fin.then_pan ?_
        obtain rfl := hy6 _ (Option.some.inj h5).symm
        refine Fin.then_pan (Fin.block_pan (Fin.then_pan (Fin.doorPan (own_c := [(101, _), (102, _), (107, _)]) hlink hvals (lexer_Tokens_1_catch2 hok) goes40 rfl rfl ⟨rfl, rfl, rfl, trivial⟩ rfl rfl (isPost rfl rfl rfl rfl) ?_)))
        obtain rfl := Option.some.inj h
        refine Fin.keepS ⟨[(2, Pt 101 0), (3, Pt 102 0)], [(101, .xbox 22 [.one (.nil)]), (102, .box 46 [.i p_14.At, .i p_14.E])]⟩ rfl (Fin.unX 101 rfl rfl (Fin.nilbox 101 0 3 rfl rfl (by decide) (Fin.result' [.one (.sl 3 ([].map eToken)), .agg [.i p_14.At, .i p_14.E]] (.inl rfl) rfl (.cons (.one tyOne22 rfl rfl rfl) (.cons (.agg tyAgg46 rfl rfl rfl rfl) .nil)) ⟨rfl, rfl⟩)))
       subst o_13
       obtain ⟨x_15, x_16, x_17, x_18⟩ := z
       refine Oc (op_callc (own_a := [(103, _)]) ((lexer_scanner_name_spec e15).sw 1 103) goes41 rfl rfl rfl ⟨rfl, trivial⟩ rfl rfl) (Oc om (Oc (op_extract rfl rfl) (Oc (op_extract rfl rfl) ?_)))
       refine OpsL.keepS ⟨[(0, .b (.one (.str s0))), (2, _), (3, _), (4, Pt 103 0), (5, Pt 104 0), (38, .xagg [.clo 41 [.ptr 103 0] [], .clo 42 [.ptr 103 0] [], .clo 43 [.ptr 103 0] [], .clo 44 [.ptr 103 0] []]), (39, I x_10), (45, .b (.agg (eToken x_15))), (46, B x_16)], [(101, .xbox 22 [.row 107]), (102, .box 46 [.i 0, .i 0]), (103, .box 77 [.str x_17, .i x_18]), (104, .xbox 79 [.clo 41 [.ptr 103 0] [], .clo 42 [.ptr 103 0] [], .clo 43 [.ptr 103 0] [], .clo 44 [.ptr 103 0] []]), (107, .row 31 3 (outf0_4.map eToken))]⟩ rfl (Oc (op_alloc (k := 108) tyZero31 rfl) (Oc (op_store_p tyAgg31 rfl rfl rfl rfl (Nat.le_of_ble_eq_true rfl) rfl) (Oc oa ?_)))
       refine OpsL.nilS ⟨[(0, _), (2, _), (3, _), (4, _), (5, _), (8, Pt 108 0), (9, B x_16), (38, _), (39, _)], [(101, _), (102, _), (103, _), (104, _), (107, _), (108, .box 31 (eToken x_15))]⟩ rfl (Tri.seq (Tri.regionL ?_))
       refine Oc om (OpsL.nilS ⟨[(0, _), (2, _), (3, _), (4, _), (5, _), (8, _), (38, _), (39, _), (47, B x_16)], [(101, _), (102, _), (103, _), (104, _), (107, _), (108, _)]⟩ rfl (Tri.ite h12 rfl (fun _ h12 => ?_) (fun _ h12 => ?_)))
       ·refine Tri.seq (Tri.regionL ?_)
        refine Oc (op_load_x1 tyOne22 rfl rfl rfl) (Oc (lp tyAgg31) (Oc (op_buildSlice (k := 109) (es := [x_15].map eToken) tySl22 rfl rfl (uni_map fun _ => rfl) rfl (by decide) (by decide) rfl) ?_))
        refine OpsL.forget 101 0 rfl ?_
        obtain ⟨x_19, e17, h12⟩ := bnd h12
        refine Oc (op_append_r tySl22 (app_b e17) (app_m e17) rfl rfl rfl rfl (app_map e17) rfl) (Oc (op_store_x1 tyOne22 rfl rfl rfl rfl (Nat.le_of_ble_eq_true rfl) rfl) ?_)
        refine OpsL.nilS ⟨[(0, .b (.one (.str s0))), (2, Pt 101 0), (3, Pt 102 0), (4, Pt 103 0), (5, Pt 104 0)], [(101, .xbox 22 [.row 107]), (102, .box 46 [.i 0, .i 0]), (103, .box 77 [.str x_17, .i x_18]), (104, .xbox 79 [.clo 41 [.ptr 103 0] [], .clo 42 [.ptr 103 0] [], .clo 43 [.ptr 103 0] [], .clo 44 [.ptr 103 0] []]), (107, .row 31 3 (x_19.map eToken))]⟩ rfl (Tri.exit (Fin.block_exit_other (by decide) (Fin.then_exit ?_)))
        obtain rfl := hy13 _ (Option.some.inj h12).symm
        refine Fin.then_exit (Fin.block_exit (Fin.block_normal ?_))
        exact Fin.join [0, 2, 3, 4, 5] [101, 102, 103, 104, 107] (x_19, (⟨x_17, x_18⟩ : Scan)) (Option.some.inj h8) rfl
       ·refine Tri.skip (Fin.block_normal (Fin.keepS ⟨[(0, _), (2, _), (3, _), (4, _), (5, _), (38, _), (39, _)], [(101, _), (102, _), (103, _), (104, _), (107, _)]⟩ rfl (Fin.then (Tri.regionL ?_))))
        refine Oc (op_add rfl rfl) (Oc om ?_)
        refine OpsL.nil ?_
        exact Fin.againJ [0, 2, 3, 4, 5, 38, 39] [101, 102, 103, 104, 107] ((⟨x_17, x_18⟩ : Scan), IntKind.i64.wrap (x_10 + 1)) (Option.some.inj h12) rfl
      refine iteBy h12 (fun hc18 h12 => ?_) (fun _ h12 => ?_)
      ·refine Tri.regionL (Oc (op_index_xa tyArr79 tyOne78 (show x_10 = 1 from of_decide_eq_true hc18) (by decide) rfl rfl rfl) (Oc oa ?_))
       refine OpsL.nilS ⟨[(0, _), (2, _), (3, _), (4, _), (5, _), (7, .b (.clo 42 [.ptr 103 0] [])), (38, _), (39, _)], [(101, _), (102, _), (103, .box 77 (eScan c_9)), (104, _), (107, _)]⟩ rfl (Tri.seq (Tri.regionL ?_))
       refine Oc om ?_
       obtain ⟨o_20, e19, h12⟩ := bnd h12
       refine altPR h12 (fun p_21 hp20 h12 => ?pan) (fun z hp20 h12 => ?_)
       case pan =>
        subst o_20
        refine OpsL.callcPan (own_a := [(103, _)]) ((lexer_scanner_number_pan e19).sw 1 103) goes42 rfl rfl rfl ⟨rfl, trivial⟩ (fun hok => ?_)
        refine Fin.then_pan (Fin.block_pan (Fin.then_pan ?_))
        obtain rfl := hy13 _ (Option.some.inj h12).symm
        refine Fin.then_pan (Fin.block_pan (Fin.block_pan ?_))
        obtain rfl := Option.some.inj h8
        refine Fin.then_pan ?_
        obtain rfl := hy6 _ (Option.some.inj h5).symm
        refine Fin.then_pan (Fin.block_pan (Fin.then_pan (Fin.doorPan (own_c := [(101, _), (102, _), (107, _)]) hlink hvals (lexer_Tokens_1_catch2 hok) goes40 rfl rfl ⟨rfl, rfl, rfl, trivial⟩ rfl rfl (isPost rfl rfl rfl rfl) ?_)))
        obtain rfl := Option.some.inj h
        refine Fin.keepS ⟨[(2, Pt 101 0), (3, Pt 102 0)], [(101, .xbox 22 [.one (.nil)]), (102, .box 46 [.i p_21.At, .i p_21.E])]⟩ rfl (Fin.unX 101 rfl rfl (Fin.nilbox 101 0 3 rfl rfl (by decide) (Fin.result' [.one (.sl 3 ([].map eToken)), .agg [.i p_21.At, .i p_21.E]] (.inl rfl) rfl (.cons (.one tyOne22 rfl rfl rfl) (.cons (.agg tyAgg46 rfl rfl rfl rfl) .nil)) ⟨rfl, rfl⟩)))
       subst o_20
       obtain ⟨x_22, x_23, x_24, x_25⟩ := z
       refine Oc (op_callc (own_a := [(103, _)]) ((lexer_scanner_number_spec e19).sw 1 103) goes42 rfl rfl rfl ⟨rfl, trivial⟩ rfl rfl) (Oc om (Oc (op_extract rfl rfl) (Oc (op_extract rfl rfl) ?_)))
       refine OpsL.keepS ⟨[(0, .b (.one (.str s0))), (2, _), (3, _), (4, Pt 103 0), (5, Pt 104 0), (38, .xagg [.clo 41 [.ptr 103 0] [], .clo 42 [.ptr 103 0] [], .clo 43 [.ptr 103 0] [], .clo 44 [.ptr 103 0] []]), (39, I x_10), (45, .b (.agg (eToken x_22))), (46, B x_23)], [(101, .xbox 22 [.row 107]), (102, .box 46 [.i 0, .i 0]), (103, .box 77 [.str x_24, .i x_25]), (104, .xbox 79 [.clo 41 [.ptr 103 0] [], .clo 42 [.ptr 103 0] [], .clo 43 [.ptr 103 0] [], .clo 44 [.ptr 103 0] []]), (107, .row 31 3 (outf0_4.map eToken))]⟩ rfl (Oc (op_alloc (k := 110) tyZero31 rfl) (Oc (op_store_p tyAgg31 rfl rfl rfl rfl (Nat.le_of_ble_eq_true rfl) rfl) (Oc oa ?_)))
       refine OpsL.nilS ⟨[(0, _), (2, _), (3, _), (4, _), (5, _), (8, Pt 110 0), (9, B x_23), (38, _), (39, _)], [(101, _), (102, _), (103, _), (104, _), (107, _), (110, .box 31 (eToken x_22))]⟩ rfl (Tri.seq (Tri.regionL ?_))
       refine Oc om (OpsL.nilS ⟨[(0, _), (2, _), (3, _), (4, _), (5, _), (8, _), (38, _), (39, _), (47, B x_23)], [(101, _), (102, _), (103, _), (104, _), (107, _), (110, _)]⟩ rfl (Tri.ite h12 rfl (fun _ h12 => ?_) (fun _ h12 => ?_)))
       ·refine Tri.seq (Tri.regionL ?_)
        refine Oc (op_load_x1 tyOne22 rfl rfl rfl) (Oc (lp tyAgg31) (Oc (op_buildSlice (k := 111) (es := [x_22].map eToken) tySl22 rfl rfl (uni_map fun _ => rfl) rfl (by decide) (by decide) rfl) ?_))
        refine OpsL.forget 101 0 rfl ?_
        obtain ⟨x_26, e21, h12⟩ := bnd h12
        refine Oc (op_append_r tySl22 (app_b e21) (app_m e21) rfl rfl rfl rfl (app_map e21) rfl) (Oc (op_store_x1 tyOne22 rfl rfl rfl rfl (Nat.le_of_ble_eq_true rfl) rfl) ?_)
        refine OpsL.nilS ⟨[(0, .b (.one (.str s0))), (2, Pt 101 0), (3, Pt 102 0), (4, Pt 103 0), (5, Pt 104 0)], [(101, .xbox 22 [.row 107]), (102, .box 46 [.i 0, .i 0]), (103, .box 77 [.str x_24, .i x_25]), (104, .xbox 79 [.clo 41 [.ptr 103 0] [], .clo 42 [.ptr 103 0] [], .clo 43 [.ptr 103 0] [], .clo 44 [.ptr 103 0] []]), (107, .row 31 3 (x_26.map eToken))]⟩ rfl (Tri.exit (Fin.block_exit_other (by decide) (Fin.then_exit ?_)))
        obtain rfl := hy13 _ (Option.some.inj h12).symm
        refine Fin.then_exit (Fin.block_exit (Fin.block_normal ?_))
        exact Fin.join [0, 2, 3, 4, 5] [101, 102, 103, 104, 107] (x_26, (⟨x_24, x_25⟩ : Scan)) (Option.some.inj h8) rfl
       ·refine Tri.skip (Fin.block_normal (Fin.keepS ⟨[(0, _), (2, _), (3, _), (4, _), (5, _), (38, _), (39, _)], [(101, _), (102, _), (103, _), (104, _), (107, _)]⟩ rfl (Fin.then (Tri.regionL ?_))))
        refine Oc (op_add rfl rfl) (Oc om ?_)
        refine OpsL.nil ?_
        exact Fin.againJ [0, 2, 3, 4, 5, 38, 39] [101, 102, 103, 104, 107] ((⟨x_24, x_25⟩ : Scan), IntKind.i64.wrap (x_10 + 1)) (Option.some.inj h12) rfl
      refine iteBy h12 (fun hc22 h12 => ?_) (fun _ h12 => ?_)
      ·refine Tri.regionL (Oc (op_index_xa tyArr79 tyOne78 (show x_10 = 2 from of_decide_eq_true hc22) (by decide) rfl rfl rfl) (Oc oa ?_))
       refine OpsL.nilS ⟨[(0, _), (2, _), (3, _), (4, _), (5, _), (7, .b (.clo 43 [.ptr 103 0] [])), (38, _), (39, _)], [(101, _), (102, _), (103, .box 77 (eScan c_9)), (104, _), (107, _)]⟩ rfl (Tri.seq (Tri.regionL ?_))
       refine Oc om ?_
       obtain ⟨o_27, e23, h12⟩ := bnd h12
       refine altPR h12 (fun p_28 hp24 h12 => ?pan) (fun z hp24 h12 => ?_)
       case pan =>
        subst o_27
        refine OpsL.callcPan (own_a := [(103, _)]) ((lexer_scanner_text_pan e23).sw 1 103) goes43 rfl rfl rfl ⟨rfl, trivial⟩ (fun hok => ?_)
        refine Fin.then_pan (Fin.block_pan (Fin.then_pan ?_))
        obtain rfl := hy13 _ (Option.some.inj h12).symm
        refine Fin.then_pan (Fin.block_pan (Fin.block_pan ?_))
        obtain rfl := Option.some.inj h8
        refine Fin.then_pan ?_
        obtain rfl := hy6 _ (Option.some.inj h5).symm
        refine Fin.then_pan (Fin.block_pan (Fin.then_pan (Fin.doorPan (own_c := [(101, _), (102, _), (107, _)]) hlink hvals (lexer_Tokens_1_catch2 hok) goes40 rfl rfl ⟨rfl, rfl, rfl, trivial⟩ rfl rfl (isPost rfl rfl rfl rfl) ?_)))
        obtain rfl := Option.some.inj h
        refine Fin.keepS ⟨[(2, Pt 101 0), (3, Pt 102 0)], [(101, .xbox 22 [.one (.nil)]), (102, .box 46 [.i p_28.At, .i p_28.E])]⟩ rfl (Fin.unX 101 rfl rfl (Fin.nilbox 101 0 3 rfl rfl (by decide) (Fin.result' [.one (.sl 3 ([].map eToken)), .agg [.i p_28.At, .i p_28.E]] (.inl rfl) rfl (.cons (.one tyOne22 rfl rfl rfl) (.cons (.agg tyAgg46 rfl rfl rfl rfl) .nil)) ⟨rfl, rfl⟩)))
       subst o_27
       obtain ⟨x_29, x_30, x_31, x_32⟩ := z
       refine Oc (op_callc (own_a := [(103, _)]) ((lexer_scanner_text_spec e23).sw 1 103) goes43 rfl rfl rfl ⟨rfl, trivial⟩ rfl rfl) (Oc om (Oc (op_extract rfl rfl) (Oc (op_extract rfl rfl) ?_)))
       refine OpsL.keepS ⟨[(0, .b (.one (.str s0))), (2, _), (3, _), (4, Pt 103 0), (5, Pt 104 0), (38, .xagg [.clo 41 [.ptr 103 0] [], .clo 42 [.ptr 103 0] [], .clo 43 [.ptr 103 0] [], .clo 44 [.ptr 103 0] []]), (39, I x_10), (45, .b (.agg (eToken x_29))), (46, B x_30)], [(101, .xbox 22 [.row 107]), (102, .box 46 [.i 0, .i 0]), (103, .box 77 [.str x_31, .i x_32]), (104, .xbox 79 [.clo 41 [.ptr 103 0] [], .clo 42 [.ptr 103 0] [], .clo 43 [.ptr 103 0] [], .clo 44 [.ptr 103 0] []]), (107, .row 31 3 (outf0_4.map eToken))]⟩ rfl (Oc (op_alloc (k := 112) tyZero31 rfl) (Oc (op_store_p tyAgg31 rfl rfl rfl rfl (Nat.le_of_ble_eq_true rfl) rfl) (Oc oa ?_)))
       refine OpsL.nilS ⟨[(0, _), (2, _), (3, _), (4, _), (5, _), (8, Pt 112 0), (9, B x_30), (38, _), (39, _)], [(101, _), (102, _), (103, _), (104, _), (107, _), (112, .box 31 (eToken x_29))]⟩ rfl (Tri.seq (Tri.regionL ?_))
       refine Oc om (OpsL.nilS ⟨[(0, _), (2, _), (3, _), (4, _), (5, _), (8, _), (38, _), (39, _), (47, B x_30)], [(101, _), (102, _), (103, _), (104, _), (107, _), (112, _)]⟩ rfl (Tri.ite h12 rfl (fun _ h12 => ?_) (fun _ h12 => ?_)))
       ·refine Tri.seq (Tri.regionL ?_)
        refine Oc (op_load_x1 tyOne22 rfl rfl rfl) (Oc (lp tyAgg31) (Oc (op_buildSlice (k := 113) (es := [x_29].map eToken) tySl22 rfl rfl (uni_map fun _ => rfl) rfl (by decide) (by decide) rfl) ?_))
        refine OpsL.forget 101 0 rfl ?_
        obtain ⟨x_33, e25, h12⟩ := bnd h12
        refine Oc (op_append_r tySl22 (app_b e25) (app_m e25) rfl rfl rfl rfl (app_map e25) rfl) (Oc (op_store_x1 tyOne22 rfl rfl rfl rfl (Nat.le_of_ble_eq_true rfl) rfl) ?_)
        refine OpsL.nilS ⟨[(0, .b (.one (.str s0))), (2, Pt 101 0), (3, Pt 102 0), (4, Pt 103 0), (5, Pt 104 0)], [(101, .xbox 22 [.row 107]), (102, .box 46 [.i 0, .i 0]), (103, .box 77 [.str x_31, .i x_32]), (104, .xbox 79 [.clo 41 [.ptr 103 0] [], .clo 42 [.ptr 103 0] [], .clo 43 [.ptr 103 0] [], .clo 44 [.ptr 103 0] []]), (107, .row 31 3 (x_33.map eToken))]⟩ rfl (Tri.exit (Fin.block_exit_other (by decide) (Fin.then_exit ?_)))
        obtain rfl := hy13 _ (Option.some.inj h12).symm
        refine Fin.then_exit (Fin.block_exit (Fin.block_normal ?_))
        exact Fin.join [0, 2, 3, 4, 5] [101, 102, 103, 104, 107] (x_33, (⟨x_31, x_32⟩ : Scan)) (Option.some.inj h8) rfl
       ·refine Tri.skip (Fin.block_normal (Fin.keepS ⟨[(0, _), (2, _), (3, _), (4, _), (5, _), (38, _), (39, _)], [(101, _), (102, _), (103, _), (104, _), (107, _)]⟩ rfl (Fin.then (Tri.regionL ?_))))
        refine Oc (op_add rfl rfl) (Oc om ?_)
        refine OpsL.nil ?_
        exact Fin.againJ [0, 2, 3, 4, 5, 38, 39] [101, 102, 103, 104, 107] ((⟨x_31, x_32⟩ : Scan), IntKind.i64.wrap (x_10 + 1)) (Option.some.inj h12) rfl
      refine iteBy h12 (fun hc26 h12 => ?_) (fun _ h12 => ?_)
      ·refine Tri.regionL (Oc (op_index_xa tyArr79 tyOne78 (show x_10 = 3 from of_decide_eq_true hc26) (by decide) rfl rfl rfl) (Oc oa ?_))
       refine OpsL.nilS ⟨[(0, _), (2, _), (3, _), (4, _), (5, _), (7, .b (.clo 44 [.ptr 103 0] [])), (38, _), (39, _)], [(101, _), (102, _), (103, .box 77 (eScan c_9)), (104, _), (107, _)]⟩ rfl (Tri.seq (Tri.regionL ?_))
       refine Oc om ?_
       obtain ⟨o_34, e27, h12⟩ := bnd h12
       refine altPR h12 (fun p_35 hp28 h12 => ?pan) (fun z hp28 h12 => ?_)
       case pan =>
        subst o_34
        refine OpsL.callcPan (own_a := [(103, _)]) ((lexer_scanner_sign_pan e27).sw 1 103) goes44 rfl rfl rfl ⟨rfl, trivial⟩ (fun hok => ?_)
        refine Fin.then_pan (Fin.block_pan (Fin.then_pan ?_))
        obtain rfl := hy13 _ (Option.some.inj h12).symm
        refine Fin.then_pan (Fin.block_pan (Fin.block_pan ?_))
        obtain rfl := Option.some.inj h8
        refine Fin.then_pan ?_
        obtain rfl := hy6 _ (Option.some.inj h5).symm
        refine Fin.then_pan (Fin.block_pan (Fin.then_pan (Fin.doorPan (own_c := [(101, _), (102, _), (107, _)]) hlink hvals (lexer_Tokens_1_catch2 hok) goes40 rfl rfl ⟨rfl, rfl, rfl, trivial⟩ rfl rfl (isPost rfl rfl rfl rfl) ?_)))
        obtain rfl := Option.some.inj h
        refine Fin.keepS ⟨[(2, Pt 101 0), (3, Pt 102 0)], [(101, .xbox 22 [.one (.nil)]), (102, .box 46 [.i p_35.At, .i p_35.E])]⟩ rfl (Fin.unX 101 rfl rfl (Fin.nilbox 101 0 3 rfl rfl (by decide) (Fin.result' [.one (.sl 3 ([].map eToken)), .agg [.i p_35.At, .i p_35.E]] (.inl rfl) rfl (.cons (.one tyOne22 rfl rfl rfl) (.cons (.agg tyAgg46 rfl rfl rfl rfl) .nil)) ⟨rfl, rfl⟩)))
       subst o_34
       obtain ⟨x_36, x_37, x_38⟩ := z
       refine Oc (op_callc (own_a := [(103, _)]) ((lexer_scanner_sign_spec e27).sw 1 103) goes44 rfl rfl rfl ⟨rfl, trivial⟩ rfl rfl) (Oc om (Oc (op_extract rfl rfl) (Oc (op_extract rfl rfl) ?_)))
       refine OpsL.keepS ⟨[(0, .b (.one (.str s0))), (2, _), (3, _), (4, Pt 103 0), (5, Pt 104 0), (38, .xagg [.clo 41 [.ptr 103 0] [], .clo 42 [.ptr 103 0] [], .clo 43 [.ptr 103 0] [], .clo 44 [.ptr 103 0] []]), (39, I x_10), (45, .b (.agg (eToken x_36))), (46, B x_37)], [(101, .xbox 22 [.row 107]), (102, .box 46 [.i 0, .i 0]), (103, .box 77 [.str c_9.s, .i x_38]), (104, .xbox 79 [.clo 41 [.ptr 103 0] [], .clo 42 [.ptr 103 0] [], .clo 43 [.ptr 103 0] [], .clo 44 [.ptr 103 0] []]), (107, .row 31 3 (outf0_4.map eToken))]⟩ rfl (Oc (op_alloc (k := 114) tyZero31 rfl) (Oc (op_store_p tyAgg31 rfl rfl rfl rfl (Nat.le_of_ble_eq_true rfl) rfl) (Oc oa ?_)))
       refine OpsL.nilS ⟨[(0, _), (2, _), (3, _), (4, _), (5, _), (8, Pt 114 0), (9, B x_37), (38, _), (39, _)], [(101, _), (102, _), (103, _), (104, _), (107, _), (114, .box 31 (eToken x_36))]⟩ rfl (Tri.seq (Tri.regionL ?_))
       refine Oc om (OpsL.nilS ⟨[(0, _), (2, _), (3, _), (4, _), (5, _), (8, _), (38, _), (39, _), (47, B x_37)], [(101, _), (102, _), (103, _), (104, _), (107, _), (114, _)]⟩ rfl (Tri.ite h12 rfl (fun _ h12 => ?_) (fun _ h12 => ?_)))
       ·refine Tri.seq (Tri.regionL ?_)
        refine Oc (op_load_x1 tyOne22 rfl rfl rfl) (Oc (lp tyAgg31) (Oc (op_buildSlice (k := 115) (es := [x_36].map eToken) tySl22 rfl rfl (uni_map fun _ => rfl) rfl (by decide) (by decide) rfl) ?_))
        refine OpsL.forget 101 0 rfl ?_
        obtain ⟨x_39, e29, h12⟩ := bnd h12
        refine Oc (op_append_r tySl22 (app_b e29) (app_m e29) rfl rfl rfl rfl (app_map e29) rfl) (Oc (op_store_x1 tyOne22 rfl rfl rfl rfl (Nat.le_of_ble_eq_true rfl) rfl) ?_)
        refine OpsL.nilS ⟨[(0, .b (.one (.str s0))), (2, Pt 101 0), (3, Pt 102 0), (4, Pt 103 0), (5, Pt 104 0)], [(101, .xbox 22 [.row 107]), (102, .box 46 [.i 0, .i 0]), (103, .box 77 [.str c_9.s, .i x_38]), (104, .xbox 79 [.clo 41 [.ptr 103 0] [], .clo 42 [.ptr 103 0] [], .clo 43 [.ptr 103 0] [], .clo 44 [.ptr 103 0] []]), (107, .row 31 3 (x_39.map eToken))]⟩ rfl (Tri.exit (Fin.block_exit_other (by decide) (Fin.then_exit ?_)))
        obtain rfl := hy13 _ (Option.some.inj h12).symm
        refine Fin.then_exit (Fin.block_exit (Fin.block_normal ?_))
        exact Fin.join [0, 2, 3, 4, 5] [101, 102, 103, 104, 107] (x_39, (⟨c_9.s, x_38⟩ : Scan)) (Option.some.inj h8) rfl
       ·refine Tri.skip (Fin.block_normal (Fin.keepS ⟨[(0, _), (2, _), (3, _), (4, _), (5, _), (38, _), (39, _)], [(101, _), (102, _), (103, _), (104, _), (107, _)]⟩ rfl (Fin.then (Tri.regionL ?_))))
        refine Oc (op_add rfl rfl) (Oc om ?_)
        refine OpsL.nil ?_
        exact Fin.againJ [0, 2, 3, 4, 5, 38, 39] [101, 102, 103, 104, 107] ((⟨c_9.s, x_38⟩ : Scan), IntKind.i64.wrap (x_10 + 1)) (Option.some.inj h12) rfl
      exact absurd h12 (by simp)
     ·refine Tri.exit (Fin.then_exit ?_)
      obtain rfl := hy13 _ (Option.some.inj h12).symm
      refine Fin.then_exit (Fin.block_exit (Fin.block_normal ?_))
      exact Fin.join [0, 2, 3, 4, 5] [101, 102, 103, 104, 107] (outf0_4, c_9) (Option.some.inj h8) rfl
    ·rintro ⟨outf0_7, c_8⟩ hv
     subst v7
     refine Tri.regionL (Oc om ?_)
     obtain ⟨⟨x_40, x_41⟩, e30, h5⟩ := bnd h5
     refine Oc (op_call (own_a := [(103, _)]) ((lexer_scanner_skip_spec e30).sw 1 103) goes45 rfl ⟨rfl, trivial⟩ rfl rfl) (OpsL.nil ?_)
     exact Fin.againJ [0, 2, 3, 4, 5] [101, 102, 103, 104, 107] (outf0_7, (⟨x_40, x_41⟩ : Scan)) (Option.some.inj h5) rfl
   ·refine Tri.exit (Fin.then_exit ?_)
    obtain rfl := hy6 _ (Option.some.inj h5).symm
    refine Fin.then_exit (Fin.block_exit ?_)
    exact Fin.join [2, 3] [101, 102, 107] outf0_4 rfl rfl
  ·rintro outf0_1 hv
   subst v1
   refine Tri.seq (Tri.keepS ⟨[(2, _), (3, _)], [(101, _), (102, _), (107, _)]⟩ rfl (Tri.regionW mixed [false, false, true, true] [.b (.row 107), .b (.agg [.i 0, .i 0]), B true, B true] [⟨[false, false, false, false], [(2, Pt 101 0), (3, Pt 102 0)], [(101, .xbox 22 [.row 107]), (102, .box 46 [.i 0, .i 0]), (107, .row 31 3 (outf0_1.map eToken))], [true, true, true, true], [], [3]⟩, ⟨[false, false, true, false], [(2, Pt 101 0), (3, Pt 102 0)], [(101, .xbox 22 [.row 107]), (102, .box 46 [.i 0, .i 0]), (107, .row 31 3 (outf0_1.map eToken))], [true, true, true, true], [0, 2], []⟩, ⟨[false, false, true, true], [(2, Pt 101 0), (3, Pt 102 0)], [(101, .xbox 22 [.row 107]), (102, .box 46 [.i 0, .i 0]), (107, .row 31 3 (outf0_1.map eToken))], [true, true, true, true], [0, 1, 2, 3], []⟩] rfl (⟨by kernel_rfl, ⟨⟨.b (.row 107), fun _ => rfl, fun _ => .p (by exact op_load_x1 tyOne22 rfl rfl rfl)⟩, ⟨.b (.agg [.i 0, .i 0]), fun _ => rfl, fun _ => .p (by exact op_load_p tyAgg46 rfl rfl rfl rfl)⟩, ⟨_, [], .b (.one .any), rfl, (fun e => by simp at e), rfl, rfl, fun _ => .toO [101, 102, 107] (by exact .p (by exact op_store_x1 tyOne22 rfl rfl rfl rfl (Nat.le_of_ble_eq_true rfl) rfl)) (by exact rfl)⟩, trivial, trivial⟩, ⟨by kernel_rfl, ⟨trivial, ⟨.b (.agg [.i 0, .i 0]), fun _ => rfl, fun _ => .p (by exact op_load_p tyAgg46 rfl rfl rfl rfl)⟩, trivial, ⟨_, [], .b (.one .any), rfl, (fun e => by simp at e), rfl, rfl, fun _ => .toO [101, 102, 107] (by exact .p (by exact op_store_p tyAgg46 rfl rfl rfl rfl (Nat.le_of_ble_eq_true rfl) rfl)) (by exact rfl)⟩, trivial⟩, ⟨by kernel_rfl, ⟨trivial, trivial, trivial, trivial, trivial⟩, trivial⟩⟩⟩) rfl rfl rfl [2, 3] [101, 102, 107] (s' := ⟨[(2, _), (3, _)], [(101, _), (102, _), (107, _)]⟩) rfl (Tri.ret ?_)))
   obtain rfl := Option.some.inj h
   refine Fin.doorRet hlink lexer_Tokens_1_idle (by rw [← hvals.length]; rfl) goes40 (.inl rfl) (isPost rfl rfl rfl rfl) (Fin.keepS ⟨[(2, Pt 101 0), (3, Pt 102 0)], [(101, .xbox 22 [.row 107]), (102, .box 46 [.i 0, .i 0]), (107, .row 31 3 (outf0_1.map eToken))]⟩ rfl (Fin.persist 107 rfl (Fin.unX 101 rfl rfl (Fin.result' [.one (.sl 3 (outf0_1.map eToken)), .agg [.i 0, .i 0]] (.inl rfl) rfl (.cons (.one tyOne22 rfl rfl rfl) (.cons (.agg tyAgg46 rfl rfl rfl rfl) .nil)) ⟨rfl, rfl⟩))))
end Go.Proofs.YtbcdabflmkgkiaaGreatDoor

