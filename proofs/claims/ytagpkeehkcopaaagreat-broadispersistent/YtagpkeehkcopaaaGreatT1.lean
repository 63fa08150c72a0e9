/- the structures, the library -/
import Derived.Test.YtagpkeehkcopaaaGreatRows
import Derived.Test.YtagpkeehkcopaaaGreatF3
import Derived.Shelf.Sort.Plain
import Derived.Ground.NamesProg
import Derived.Test.YtagpkeehkcopaaaGreatProg
import Derived.Shelf.SlSortCmp.NoneTotal
import Derived.Shelf.SlicesG.Cmp
import Derived.Ground.SlsfProg
import Derived.Ground.SlgcProg
import Derived.Sort.Defs
import Derived.WalkKit
namespace Go.Sk
open Go
structure A2 where
 a0:Int
 a1:Int
 deriving DecidableEq,Inhabited
def A2.l (w:A2):List Int:=[w.a0,w.a1]
def A2.of:List Int → A2
 | [a0,a1]=>⟨a0,a1⟩
 | _=>default
def A2.zero:A2:=⟨0,0⟩
def A2.set (w:A2) (i x:Int):A2:=.of (w.l.set i.toNat x)
def eu (k:IntKind) (w:A2):List CP:=w.l.map (.int k)
theorem A2.l_of:∀ {l:List Int},l.length = 2 → (A2.of l).l = l
 | [_,_],_=>rfl
theorem A2.u9 (w:A2):A2.of w.l = w:=rfl
theorem A2.rA (w:A2) (i x:Int):(w.set i x).l = w.l.set i.toNat x:=A2.l_of (by rw [List.length_set]; rfl)
theorem A2.vf {v w:A2}:v.l = w.l ↔ v = w:=⟨fun h=>by rw [← A2.u9 v,h,A2.u9],fun h=>by rw [h]⟩
structure A3 where
 a0:Int
 a1:Int
 a2:Int
 deriving DecidableEq,Inhabited
def A3.l (w:A3):List Int:=[w.a0,w.a1,w.a2]
def A3.of:List Int → A3
 | [a0,a1,a2]=>⟨a0,a1,a2⟩
 | _=>default
def A3.zero:A3:=⟨0,0,0⟩
def A3.set (w:A3) (i x:Int):A3:=.of (w.l.set i.toNat x)
def c3 (k:IntKind) (w:A3):List CP:=w.l.map (.int k)
theorem A3.l_of:∀ {l:List Int},l.length = 3 → (A3.of l).l = l
 | [_,_,_],_=>rfl
theorem A3.u9 (w:A3):A3.of w.l = w:=rfl
theorem A3.rA (w:A3) (i x:Int):(w.set i x).l = w.l.set i.toNat x:=A3.l_of (by rw [List.length_set]; rfl)
theorem A3.vf {v w:A3}:v.l = w.l ↔ v = w:=⟨fun h=>by rw [← A3.u9 v,h,A3.u9],fun h=>by rw [h]⟩
structure cg where
 Lo:A3
 Hi:A3
 deriving DecidableEq,Inhabited
def ao (x:cg):List CP:=((c3 .i64) x.Lo ++ ((c3 .i64) x.Hi))
structure entry where
 id:Int
 b:cg
 deriving DecidableEq,Inhabited
def ay (x:entry):List CP:=(.i x.id :: (ao x.b))
structure bu where
 x:entry
 priority:Int
 cover:cg
 deriving DecidableEq,Inhabited
def af (x:bu):List CP:=(ay x.x ++ (.int .u64 x.priority :: (ao x.cover)))
structure Nod where
 x:entry
 priority:Int
 cover:cg
 left:dh bu
 right:dh bu
 deriving DecidableEq,Inhabited
def eNod (x:Nod):List CP:=(ay x.x ++ (.int .u64 x.priority :: (ao x.cover ++ ([.tr af x.left,.tr af x.right]))))
structure jA where
 root:dh bu
 compare:Nat
 key:Nat
 box:Nat
 deriving DecidableEq,Inhabited
def b5 (x:jA):List CP:=[.tr af x.root,.de x.compare,.de x.key,.de x.box]
structure b4 where
 ids:jA
 boxes:jA
 deriving DecidableEq,Inhabited
def ar (x:b4):List CP:=(b5 x.ids ++ (b5 x.boxes))
structure kE where
 Kind:Int
 Id:Int
 B:cg
 deriving DecidableEq,Inhabited
def bd (x:kE):List CP:=(.i x.Kind :: .i x.Id :: (ao x.B))
structure bB where
 Id:Int
 B:cg
 deriving DecidableEq,Inhabited
def aj (x:bB):List CP:=(.i x.Id :: (ao x.B))
structure lT where
 S:List bB
 Gained:List Int
 Lost:List Int
 E:Int
 deriving DecidableEq,Inhabited
def oY (x:lT):List CP:=[.sl 7 (x.S.map aj),.sl 1 (x.Gained.map eI),.sl 1 (x.Lost.map eI),.i x.E]
end Go.Sk
namespace Go.Proofs
open Go.Shelf
def Tryz.su:Go.Shelf.Ren:=⟨fun | 189=>75 | 125=>69 | 257=>97 | 128=>94 | 129=>95 | 294=>114 | 295=>115 | 296=>116 | 297=>117 | 298=>118 | 299=>119 | 216=>98 | 300=>120 | 301=>121 | 328=>128 | 329=>102 | 330=>103 | 331=>129 | 332=>130 | 215=>70 | 343=>133 | n=>n,fun | 28=>51 | 3=>3 | 46=>112 | 0=>0 | 51=>139 | 53=>88 | 4=>4 | 183=>133 | 182=>132 | 131=>119 | 5=>5 | 9=>9 | 218=>146 | 222=>150 | 228=>163 | 229=>164 | n=>n,fun | n=>n⟩
theorem Tryz.lays189:Go.Proofs.Lays.n189 Tryz.prog Tryz.su:={
 mixed:=by kernel_rfl
 f125:=Tryz.func69.trans (congrArg some (by kernel_rfl))
 f128:=Tryz.func94.trans (congrArg some (by kernel_rfl))
 f129:=Tryz.func95.trans (congrArg some (by kernel_rfl))
 f189:=Tryz.func75.trans (congrArg some (by kernel_rfl))
 f215:=Tryz.func70.trans (congrArg some (by kernel_rfl))
 f216:=Tryz.func98.trans (congrArg some (by kernel_rfl))
 f257:=Tryz.func97.trans (congrArg some (by kernel_rfl))
 f294:=Tryz.func114.trans (congrArg some (by kernel_rfl))
 f295:=Tryz.func115.trans (congrArg some (by kernel_rfl))
 f296:=Tryz.func116.trans (congrArg some (by kernel_rfl))
 f297:=Tryz.func117.trans (congrArg some (by kernel_rfl))
 f298:=Tryz.func118.trans (congrArg some (by kernel_rfl))
 f299:=Tryz.func119.trans (congrArg some (by kernel_rfl))
 f300:=Tryz.func120.trans (congrArg some (by kernel_rfl))
 f301:=Tryz.func121.trans (congrArg some (by kernel_rfl))
 f328:=Tryz.func128.trans (congrArg some (by kernel_rfl))
 f329:=Tryz.func102.trans (congrArg some (by kernel_rfl))
 f330:=Tryz.func103.trans (congrArg some (by kernel_rfl))
 f331:=Tryz.func129.trans (congrArg some (by kernel_rfl))
 f332:=Tryz.func130.trans (congrArg some (by kernel_rfl))
 f343:=Tryz.func133.trans (congrArg some (by kernel_rfl))
 t0:=Tryz.underlying0
 a0:=Tryz.isAgg0
 z0:=Tryz.sizeOf0
 v0:=Tryz.zeroValue0
 t3:=Tryz.underlying3
 a3:=Tryz.isAgg3
 z3:=Tryz.sizeOf3
 v3:=Tryz.zeroValue3
 t4:=Tryz.underlying4
 a4:=Tryz.isAgg4
 z4:=Tryz.sizeOf4
 v4:=Tryz.zeroValue4
 t5:=Tryz.underlying5
 a5:=Tryz.isAgg5
 z5:=Tryz.sizeOf5
 v5:=Tryz.zeroValue5
 t9:=Tryz.underlying9
 a9:=Tryz.isAgg9
 z9:=Tryz.sizeOf9
 v9:=Tryz.zeroValue9
 t28:=Tryz.underlying51
 a28:=Tryz.isAgg51
 z28:=Tryz.sizeOf51
 v28:=Tryz.zeroValue51
 t46:=Tryz.underlying112
 a46:=Tryz.isAgg112
 z46:=Tryz.sizeOf112
 v46:=Tryz.zeroValue112
 t51:=Tryz.underlying139
 a51:=Tryz.isAgg139
 z51:=Tryz.sizeOf139
 v51:=Tryz.zeroValue139
 t53:=Tryz.underlying88
 a53:=Tryz.isAgg88
 z53:=Tryz.sizeOf88
 v53:=Tryz.zeroValue88
 t131:=Tryz.underlying119
 a131:=Tryz.isAgg119
 z131:=Tryz.sizeOf119
 v131:=Tryz.zeroValue119
 t182:=Tryz.underlying132
 a182:=Tryz.isAgg132
 z182:=Tryz.sizeOf132
 v182:=Tryz.zeroValue132
 t183:=Tryz.underlying133
 a183:=Tryz.isAgg133
 z183:=Tryz.sizeOf133
 v183:=Tryz.zeroValue133
 t218:=Tryz.underlying146
 a218:=Tryz.isAgg146
 z218:=Tryz.sizeOf146
 v218:=Tryz.zeroValue146
 t222:=Tryz.underlying150
 a222:=Tryz.isAgg150
 z222:=Tryz.sizeOf150
 v222:=Tryz.zeroValue150
 t228:=Tryz.underlying163
 a228:=Tryz.isAgg163
 z228:=Tryz.sizeOf163
 v228:=Tryz.zeroValue163
 t229:=Tryz.underlying164
 a229:=Tryz.isAgg164
 z229:=Tryz.sizeOf164
 v229:=Tryz.zeroValue164 }
def Tryz.lh:Go.Shelf.Ren:=⟨fun | 6=>42 | 15=>69 | 14=>68 | 28=>94 | 29=>95 | 20=>86 | 21=>87 | 22=>88 | 23=>89 | 24=>90 | 25=>91 | 26=>92 | 27=>93 | 46=>101 | 47=>102 | 48=>103 | 49=>104 | 50=>105 | 57=>124 | n=>n,fun | 22=>51 | 24=>3 | 25=>82 | 3=>3 | 39=>112 | 0=>0 | 53=>139 | 55=>88 | 4=>4 | 46=>133 | 45=>132 | 50=>119 | 5=>5 | 9=>9 | 66=>146 | 70=>150 | 76=>163 | 77=>164 | n=>n,fun | n=>n⟩
theorem Tryz.qV:Go.Proofs.SlLaysF.n6 Tryz.prog Tryz.lh:={
 mixed:=by kernel_rfl
 f6:=⟨Tryz.f42.name,by decide,Tryz.func42.trans (congrArg some (by kernel_rfl))⟩
 f14:=⟨Tryz.f68.name,by decide,Tryz.func68.trans (congrArg some (by kernel_rfl))⟩
 f15:=Tryz.func69.trans (congrArg some (by kernel_rfl))
 f20:=⟨Tryz.f86.name,by decide,Tryz.func86.trans (congrArg some (by kernel_rfl))⟩
 f21:=⟨Tryz.f87.name,by decide,Tryz.func87.trans (congrArg some (by kernel_rfl))⟩
 f22:=⟨Tryz.f88.name,by decide,Tryz.func88.trans (congrArg some (by kernel_rfl))⟩
 f23:=⟨Tryz.f89.name,by decide,Tryz.func89.trans (congrArg some (by kernel_rfl))⟩
 f24:=⟨Tryz.f90.name,by decide,Tryz.func90.trans (congrArg some (by kernel_rfl))⟩
 f25:=⟨Tryz.f91.name,by decide,Tryz.func91.trans (congrArg some (by kernel_rfl))⟩
 f26:=⟨Tryz.f92.name,by decide,Tryz.func92.trans (congrArg some (by kernel_rfl))⟩
 f27:=⟨Tryz.f93.name,by decide,Tryz.func93.trans (congrArg some (by kernel_rfl))⟩
 f28:=Tryz.func94.trans (congrArg some (by kernel_rfl))
 f29:=Tryz.func95.trans (congrArg some (by kernel_rfl))
 f46:=⟨Tryz.f101.name,by decide,Tryz.func101.trans (congrArg some (by kernel_rfl))⟩
 f47:=Tryz.func102.trans (congrArg some (by kernel_rfl))
 f48:=Tryz.func103.trans (congrArg some (by kernel_rfl))
 f49:=⟨Tryz.f104.name,by decide,Tryz.func104.trans (congrArg some (by kernel_rfl))⟩
 f50:=⟨Tryz.f105.name,by decide,Tryz.func105.trans (congrArg some (by kernel_rfl))⟩
 f57:=⟨Tryz.f124.name,by decide,Tryz.func124.trans (congrArg some (by kernel_rfl))⟩
 t0:=Tryz.underlying0
 a0:=Tryz.isAgg0
 z0:=Tryz.sizeOf0
 v0:=Tryz.zeroValue0
 t3:=Tryz.underlying3
 a3:=Tryz.isAgg3
 z3:=Tryz.sizeOf3
 v3:=Tryz.zeroValue3
 t4:=Tryz.underlying4
 a4:=Tryz.isAgg4
 z4:=Tryz.sizeOf4
 v4:=Tryz.zeroValue4
 t5:=Tryz.underlying5
 a5:=Tryz.isAgg5
 z5:=Tryz.sizeOf5
 v5:=Tryz.zeroValue5
 t9:=Tryz.underlying9
 a9:=Tryz.isAgg9
 z9:=Tryz.sizeOf9
 v9:=Tryz.zeroValue9
 t22:=Tryz.underlying51
 a22:=Tryz.isAgg51
 z22:=Tryz.sizeOf51
 v22:=Tryz.zeroValue51
 a24:=Tryz.isAgg3
 z24:=Tryz.sizeOf3
 t25:=Tryz.underlying82
 a25:=Tryz.isAgg82
 z25:=Tryz.sizeOf82
 v25:=Tryz.zeroValue82
 t39:=Tryz.underlying112
 a39:=Tryz.isAgg112
 z39:=Tryz.sizeOf112
 v39:=Tryz.zeroValue112
 t45:=Tryz.underlying132
 a45:=Tryz.isAgg132
 z45:=Tryz.sizeOf132
 v45:=Tryz.zeroValue132
 t46:=Tryz.underlying133
 a46:=Tryz.isAgg133
 z46:=Tryz.sizeOf133
 v46:=Tryz.zeroValue133
 t50:=Tryz.underlying119
 a50:=Tryz.isAgg119
 z50:=Tryz.sizeOf119
 v50:=Tryz.zeroValue119
 t53:=Tryz.underlying139
 a53:=Tryz.isAgg139
 z53:=Tryz.sizeOf139
 v53:=Tryz.zeroValue139
 t55:=Tryz.underlying88
 a55:=Tryz.isAgg88
 z55:=Tryz.sizeOf88
 v55:=Tryz.zeroValue88
 t66:=Tryz.underlying146
 a66:=Tryz.isAgg146
 z66:=Tryz.sizeOf146
 v66:=Tryz.zeroValue146
 t70:=Tryz.underlying150
 a70:=Tryz.isAgg150
 z70:=Tryz.sizeOf150
 v70:=Tryz.zeroValue150
 t76:=Tryz.underlying163
 a76:=Tryz.isAgg163
 z76:=Tryz.sizeOf163
 v76:=Tryz.zeroValue163
 t77:=Tryz.underlying164
 a77:=Tryz.isAgg164
 z77:=Tryz.sizeOf164
 v77:=Tryz.zeroValue164 }
def Tryz.oc:Go.Shelf.Ren:=⟨fun | 6=>72 | 15=>69 | 14=>96 | 28=>94 | 29=>95 | 20=>106 | 21=>107 | 22=>108 | 23=>109 | 24=>110 | 25=>111 | 26=>112 | 27=>113 | 46=>125 | 47=>102 | 48=>103 | 49=>126 | 50=>127 | 57=>132 | n=>n,fun | 22=>35 | 24=>40 | 25=>115 | 3=>3 | 39=>112 | 0=>0 | 53=>139 | 55=>88 | 4=>4 | 46=>133 | 45=>132 | 50=>119 | 5=>5 | 9=>9 | 66=>146 | 70=>150 | 76=>163 | 77=>164 | n=>n,fun | n=>n⟩
theorem Tryz.ua:Go.Proofs.SlLaysF0.n6 Tryz.prog Tryz.oc:={
 mixed:=by kernel_rfl
 f6:=⟨Tryz.f72.name,by decide,Tryz.func72.trans (congrArg some (by kernel_rfl))⟩
 f14:=⟨Tryz.f96.name,by decide,Tryz.func96.trans (congrArg some (by kernel_rfl))⟩
 f15:=Tryz.func69.trans (congrArg some (by kernel_rfl))
 f20:=⟨Tryz.f106.name,by decide,Tryz.func106.trans (congrArg some (by kernel_rfl))⟩
 f21:=⟨Tryz.f107.name,by decide,Tryz.func107.trans (congrArg some (by kernel_rfl))⟩
 f22:=⟨Tryz.f108.name,by decide,Tryz.func108.trans (congrArg some (by kernel_rfl))⟩
 f23:=⟨Tryz.f109.name,by decide,Tryz.func109.trans (congrArg some (by kernel_rfl))⟩
 f24:=⟨Tryz.f110.name,by decide,Tryz.func110.trans (congrArg some (by kernel_rfl))⟩
 f25:=⟨Tryz.f111.name,by decide,Tryz.func111.trans (congrArg some (by kernel_rfl))⟩
 f26:=⟨Tryz.f112.name,by decide,Tryz.func112.trans (congrArg some (by kernel_rfl))⟩
 f27:=⟨Tryz.f113.name,by decide,Tryz.func113.trans (congrArg some (by kernel_rfl))⟩
 f28:=Tryz.func94.trans (congrArg some (by kernel_rfl))
 f29:=Tryz.func95.trans (congrArg some (by kernel_rfl))
 f46:=⟨Tryz.f125.name,by decide,Tryz.func125.trans (congrArg some (by kernel_rfl))⟩
 f47:=Tryz.func102.trans (congrArg some (by kernel_rfl))
 f48:=Tryz.func103.trans (congrArg some (by kernel_rfl))
 f49:=⟨Tryz.f126.name,by decide,Tryz.func126.trans (congrArg some (by kernel_rfl))⟩
 f50:=⟨Tryz.f127.name,by decide,Tryz.func127.trans (congrArg some (by kernel_rfl))⟩
 f57:=⟨Tryz.f132.name,by decide,Tryz.func132.trans (congrArg some (by kernel_rfl))⟩
 t0:=Tryz.underlying0
 a0:=Tryz.isAgg0
 z0:=Tryz.sizeOf0
 v0:=Tryz.zeroValue0
 t3:=Tryz.underlying3
 a3:=Tryz.isAgg3
 z3:=Tryz.sizeOf3
 v3:=Tryz.zeroValue3
 t4:=Tryz.underlying4
 a4:=Tryz.isAgg4
 z4:=Tryz.sizeOf4
 v4:=Tryz.zeroValue4
 t5:=Tryz.underlying5
 a5:=Tryz.isAgg5
 z5:=Tryz.sizeOf5
 v5:=Tryz.zeroValue5
 t9:=Tryz.underlying9
 a9:=Tryz.isAgg9
 z9:=Tryz.sizeOf9
 v9:=Tryz.zeroValue9
 t22:=Tryz.underlying35
 a22:=Tryz.isAgg35
 z22:=Tryz.sizeOf35
 v22:=Tryz.zeroValue35
 t25:=Tryz.underlying115
 a25:=Tryz.isAgg115
 z25:=Tryz.sizeOf115
 v25:=Tryz.zeroValue115
 t39:=Tryz.underlying112
 a39:=Tryz.isAgg112
 z39:=Tryz.sizeOf112
 v39:=Tryz.zeroValue112
 t45:=Tryz.underlying132
 a45:=Tryz.isAgg132
 z45:=Tryz.sizeOf132
 v45:=Tryz.zeroValue132
 t46:=Tryz.underlying133
 a46:=Tryz.isAgg133
 z46:=Tryz.sizeOf133
 v46:=Tryz.zeroValue133
 t50:=Tryz.underlying119
 a50:=Tryz.isAgg119
 z50:=Tryz.sizeOf119
 v50:=Tryz.zeroValue119
 t53:=Tryz.underlying139
 a53:=Tryz.isAgg139
 z53:=Tryz.sizeOf139
 v53:=Tryz.zeroValue139
 t55:=Tryz.underlying88
 a55:=Tryz.isAgg88
 z55:=Tryz.sizeOf88
 v55:=Tryz.zeroValue88
 t66:=Tryz.underlying146
 a66:=Tryz.isAgg146
 z66:=Tryz.sizeOf146
 v66:=Tryz.zeroValue146
 t70:=Tryz.underlying150
 a70:=Tryz.isAgg150
 z70:=Tryz.sizeOf150
 v70:=Tryz.zeroValue150
 t76:=Tryz.underlying163
 a76:=Tryz.isAgg163
 z76:=Tryz.sizeOf163
 v76:=Tryz.zeroValue163
 t77:=Tryz.underlying164
 a77:=Tryz.isAgg164
 z77:=Tryz.sizeOf164
 v77:=Tryz.zeroValue164 }
def Tryz.uU:Go.Shelf.Ren:=⟨fun | 5=>44 | 7=>70 | n=>n,fun | 22=>3 | 3=>3 | 4=>4 | n=>n,fun | n=>n⟩
theorem Tryz.vh:Go.Proofs.SlLaysC2.n5 Tryz.prog Tryz.uU:={
 mixed:=by kernel_rfl
 f5:=⟨Tryz.f44.name,by decide,Tryz.func44.trans (congrArg some (by kernel_rfl))⟩
 f7:=⟨Tryz.f70.name,by decide,Tryz.func70.trans (congrArg some (by kernel_rfl))⟩
 t3:=Tryz.underlying3
 a3:=Tryz.isAgg3
 z3:=Tryz.sizeOf3
 v3:=Tryz.zeroValue3
 t4:=Tryz.underlying4
 a4:=Tryz.isAgg4
 z4:=Tryz.sizeOf4
 v4:=Tryz.zeroValue4
 t22:=Tryz.underlying3
 a22:=Tryz.isAgg3
 z22:=Tryz.sizeOf3
 v22:=Tryz.zeroValue3 }
end Go.Proofs
namespace Go.Proofs.YtagpkeehkcopaaaGreat
open Go Go.Sk
def oM (p:dh bu → Option Bool):dh bu → Option (List entry)
 | .leaf=>some []
 | .node a l r=>(p (.node a l r)).bind fun c=>if c = true then (oM p l).bind fun x=>(oM p r).bind fun y=>some (x ++ a.x :: y) else some []
def uA (x:entry):List BV:=[.agg (ay x)]
def kS (l:List cg) (z:Int):Int:=(l.getD (min z.toNat (l.length - 1)) default).Lo.a0
def mg (lt:Int → Int → Bool) (zs:List Int):List Int:=if zs = [] then [] else (Go.Sort.pdq lt zs.toArray 0 zs.toArray.size (Go.Lib.bitLen zs.toArray.size) true true).toList
def gx (F:Nat) (cmp0:List cg) (zs:List Int):Option (List Int) :=
 if zs.length < 1000000000 ∧ cmp0.length < 1000000000 ∧ zs.all (fun z=>decide (0 ≤ z ∧ z < cmp0.length)) = true then some (mg (fun x y=>decide (kS cmp0 x < kS cmp0 y)) zs) else none
def jm (a b:A2):Bool:=decide (a.a0 < b.a0 ∨ (a.a0 = b.a0 ∧ a.a1 < b.a1))
def dA (F:Nat) (zs:List A2):Option (List A2):=if zs.length < 1000000000 then some (zs.mergeSort fun a b=>!jm b a) else none
end Go.Proofs.YtagpkeehkcopaaaGreat
namespace Go.Proofs.YtagpkeehkcopaaaGreat
open Go Go.Proofs Go.Shelf Go.RowKit Go.Lib Go.Sort
set_option maxHeartbeats 4000000 in
theorem cmp43 (blk off c Bs o size:Nat) (W:World) (G:Nat → Int) (hs:W.cell? ⟨Bs,o,none⟩ = some (.slice (some ⟨blk,off,none⟩) size c))
  (hc:∀ t,t < size → W.cell? ⟨blk,off + t * 6,none⟩ = some (.int .i64 (G t))) (i j:Nat) (hi:i < size) (hj:j < size) (_hsz:size < 4611686018427387904) :
  Calls Tryz.prog 43 #[.int .i64 i,.int .i64 j,.pointer (some ⟨Bs,o,none⟩)] W fun e w'=>e = .returned (.int .i64 (Lib.compareInt (G i) (G j))) ∧ ∃ q,w' = W.drewN q:=by
 have ci:=hc i hi
 have cj:=hc j hj
 have hcon:=fun W'=>AnyG.cmp_Compare_int Tryz.vh (G i) (G j) W'
 change ∀ W',Calls Tryz.prog 44 _ _ _ at hcon
 generalize Lib.compareInt (G i) (G j) = r at hcon ⊢
 go_enter Tryz.func43,Tryz.ntmps43
 go_wp2_with fail
 go_quiet (first | (go_at_call 44; refine Calls.quiet_of ((hcon _).mono fun _ _ h=>⟨h.1,0,h.2⟩)))
 go_wp2_with fail
 go_ret
 exact ⟨rfl,nq,rfl⟩
def n2 (x0 x1 y0 y1:Int):Int:=if Lib.compareInt x0 y0 ≠ 0 then Lib.compareInt x0 y0 else Lib.compareInt x1 y1
set_option maxHeartbeats 4000000 in
theorem cmp53 (b1 b2 c1 c2:Nat) (W:World) (x0 x1 y0 y1:Int) (h1:W.cell? ⟨b1,0,none⟩ = some (.int .i64 x0)) (h2:W.cell? ⟨b1,1,none⟩ = some (.int .i64 x1)) (h3:W.cell? ⟨b2,0,none⟩ = some (.int .i64 y0)) (h4:W.cell? ⟨b2,1,none⟩ = some (.int .i64 y1)) :
  Calls Tryz.prog 53 #[.slice (some ⟨b1,0,none⟩) 2 c1,.slice (some ⟨b2,0,none⟩) 2 c2] W fun e w'=>e = .returned (.int .i64 (n2 x0 x1 y0 y1)) ∧ w' = W:=by
 have hconA:=fun W'=>AnyG.cmp_Compare_int Tryz.vh x0 y0 W'
 change ∀ W',Calls Tryz.prog 44 _ _ _ at hconA
 have hconB:=fun W'=>AnyG.cmp_Compare_int Tryz.vh x1 y1 W'
 change ∀ W',Calls Tryz.prog 44 _ _ _ at hconB
 have key:∀ v,(Lib.compareInt x0 y0 ≠ 0 → v = Lib.compareInt x0 y0) → (Lib.compareInt x0 y0 = 0 → v = Lib.compareInt x1 y1) → v = n2 x0 x1 y0 y1:=fun v g1 g2=>by unfold n2; split <;> simp_all
 generalize n2 x0 x1 y0 y1 = u at key ⊢
 generalize Lib.compareInt x0 y0 = r at hconA key ⊢
 generalize Lib.compareInt x1 y1 = s at hconB key ⊢
 go_enter Tryz.func53,Tryz.ntmps53
 go_wp2_with fail
 refine wp_loop_rounds 3 ?_
 rw [rounds_succ]
 go_wp2_with (go_at_call 44; refine (hconA _).mono ?_; rintro e w' ⟨rfl,rfl⟩)
 ·rename_i hr
  go_ret
  exact ⟨congrArg (fun z=>Ending.returned (Value.int .i64 z)) (key r (fun _=>rfl) (fun e=>by subst e; simp at hr)),rfl⟩
 ·rename_i hr
  rw [rounds_succ]
  go_wp2_with (go_at_call 44; refine (hconB _).mono ?_; rintro e w' ⟨rfl,rfl⟩)
  ·rename_i hs
   go_ret
   exact ⟨congrArg (fun z=>Ending.returned (Value.int .i64 z)) (key s (fun e=>absurd (by simpa using hr) e) (fun _=>rfl)),rfl⟩
  ·rename_i hs
   rw [rounds_succ]
   go_wp2_with fail
   go_ret
   exact ⟨congrArg (fun z=>Ending.returned (Value.int .i64 z)) (key 0 (fun e=>absurd (by simpa using hr) e) (fun _=>Eq.symm (by simpa using hs))),rfl⟩
set_option maxHeartbeats 4000000 in
theorem cmp73 (W:World) (x0 x1 y0 y1:Int) :
  Calls Tryz.prog 73 #[.agg #[.int .i64 x0,.int .i64 x1],.agg #[.int .i64 y0,.int .i64 y1]] W fun e w'=>e = .returned (.int .i64 (n2 x0 x1 y0 y1)) ∧ ∃ q os',w' = grow (W.drewN q) os':=by
 have hcon:=fun (b1 b2:Nat) W' h1 h2 h3 h4=>cmp53 b1 b2 2 2 W' x0 x1 y0 y1 h1 h2 h3 h4
 generalize n2 x0 x1 y0 y1 = r at hcon ⊢
 go_enter Tryz.func73,Tryz.ntmps73
 go_wp2_with fail
 go_quiet (first | (go_at_call 53; refine Calls.quiet_of ((hcon _ _ _ ?_ ?_ ?_ ?_).mono fun _ _ h=>⟨h.1,0,h.2⟩) <;> simp))
 go_wp2_with fail
 go_ret
 exact ⟨rfl,nq,_,by rw [alloc_eq_grow,alloc_eq_grow,grow_grow]; rfl⟩
end Go.Proofs.YtagpkeehkcopaaaGreat
namespace Go.Proofs.YtagpkeehkcopaaaGreat
open Go Go.Sk Go.Proofs Go.Shelf Go.RowKit
set_option linter.unusedVariables false
set_option linter.unusedSimpArgs false
theorem p7 {α:Type} [Inhabited α] {enc:α → Value} {d:List α} {cur:Array Value} (h:d.length ≤ cur.size):(Sort.putCells enc 0 d.toArray cur).toList.take d.length = d.map enc:=by
 apply List.ext_getElem?
 intro i
 unfold Sort.putCells
 rw [List.getElem?_take]
 by_cases hi:i < d.length
 ·rw [if_pos hi,Array.getElem?_toList,Array.getElem?_mapIdx,Array.getElem?_eq_getElem (by omega),Option.map_some,if_pos ⟨by omega,by simpa using hi⟩,List.getElem?_map,List.getElem?_eq_getElem hi,Option.map_some]
  simp [hi]
 ·rw [if_neg hi,List.getElem?_map,List.getElem?_eq_none (by omega)]; rfl
theorem pL {α:Type} [Inhabited α] {enc:α → Value} {w:World} {b:Nat} {cur:Array Value} {T:TypeId} {zs:List α} (hb:w.heap[b]? = some (.cells cur T (0,0))) (ht:cur.toList.take zs.length = zs.map enc):Sort.Holds enc w b 0 zs.toArray:=by
 intro j hj
 have hj':j < zs.length:=by simpa using hj
 refine ⟨?_,?_⟩
 ·rw [dV hb,Nat.zero_add]
  have:=congrArg (·[j]?) ht
  simp only [List.getElem?_take,if_pos hj',List.getElem?_map,List.getElem?_eq_getElem hj',Option.map_some,Array.getElem?_toList] at this
  rw [this]; simp [hj']
 ·unfold World.frozen?
  rw [hb]; simp
theorem rI {TB:a6} {E:Env TB} {n:Sh} {h:PH} {ρ:RM} {w w':World} {T:TypeId} {size b cap q:Nat} {es es':List (List CP)} {cur:Array Value} {os:Array Obj} {α:Type} [Inhabited α] {enc:α → Value} {d:List α}
  (hw:WR E n [(1,.ew T size es)] h ρ w) (hz:0 < size) (h1:ρ 1 = .slice (some ⟨b,0,none⟩) es.length cap) (h2:w.heap[b]? = some (.cells cur T (0,0))) (h3:es.length ≤ cap) (h4:cap ≤ maxLen) (h5:cur.size = cap * size)
  (hl:es'.length = es.length) (hd:d.length = es.length * size) (hu:cm size es') (hr:aG h es'.flatten (d.map enc)) (hw':w' = Sort.grow (Sort.putRow enc (Sort.ahead w q) b 0 d.toArray) os):WR E n [(1,.ew T size es')] h ρ w':=by
 subst hw'
 have hbl:b < w.heap.size:=(Array.getElem?_eq_some_iff.1 h2).1
 have hcs:d.length ≤ cur.size:=by rw [hd,h5]; exact Nat.mul_le_mul_right _ h3
 have hsz:(Sort.putRow enc (Sort.ahead w q) b 0 d.toArray).heap.size = w.heap.size:=by simp [Sort.putRow,Sort.mapBlock,Sort.ahead]
 have hst:=hw.step (w':=Sort.grow (Sort.putRow enc (Sort.ahead w q) b 0 d.toArray) os) 1 (ρ 1) (.ew T size es') (some b) (fun b' e=>by cases e; exact ⟨.ew T size es,List.mem_cons_self,by rw [h1]; rfl⟩)
   (by rw [Sort.size_grow,hsz]; omega) rfl rfl (fun c hc hne=>by
    rw [Sort.heap_grow_old _ _ (by rw [hsz]; exact hc)]
    exact ik (w:=Sort.ahead w q) (fun e=>hne (by rw [e]))) ?_ (fun b' hb'=>by rw [h1] at hb'; simp [aV] at hb'; exact .inl (by rw [hb'])) (.inl rfl) (.inl rfl)
 ·have:lM ρ 1 (ρ 1) = ρ:=by funext j; simp only [lM]; split <;> simp_all
  rw [this] at hst
  exact hst
 ·refine ⟨hu,hz,d.map enc,⟨by rw [List.length_map,hd,hl],.inr ⟨b,cap,Sort.putCells enc 0 d.toArray cur,by rw [h1,hl],Nat.zero_le _,?_,by rw [hl]; exact h3,h4,?_,?_⟩⟩,hr⟩
  ·rw [Sort.heap_grow_old _ _ (by rw [hsz]; exact hbl)]
   exact l7 (w:=Sort.ahead w q) h2
  ·simp [Sort.putCells,h5]
  ·rw [hl,← hd]; exact p7 hcs
theorem nP (x y:Int):(Lib.compareInt x y < 0) ↔ x < y:=by
 unfold Lib.compareInt
 by_cases h1:x < y
 ·simp [h1]
 ·by_cases h2:y < x <;> simp [h1,h2]
theorem vm {α:Type} (k:α → Int):Sort.SWO (fun x y:α=>decide (k x < k y)) where
 irrefl x:=by simp
 trans x y z h1 h2:=by simp at *; omega
 ntrans x y z h1 h2:=by simp at *; omega
theorem od {k:Int → Int} {zs:List Int}:(mg (fun x y=>decide (k x < k y)) zs).Perm zs:=by
 unfold mg
 split
 ·next h=>rw [h]
 ·have h:=Sort.pdq_sorts (fun x y=>decide (k x < k y)) (vm k) zs.toArray 0 zs.toArray.size (Lib.bitLen zs.toArray.size) true true (Nat.zero_le _) (Nat.le_refl _) (Or.inl rfl)
  generalize Sort.pdq (fun x y=>decide (k x < k y)) zs.toArray 0 zs.toArray.size (Lib.bitLen zs.toArray.size) true true = d' at h ⊢
  obtain ⟨h0,_,h1⟩:=h.1
  rw [show zs.toArray.extract 0 zs.toArray.size = zs.toArray from by simp,← h0,show d'.extract 0 d'.size = d' from by simp] at h1
  exact h1
theorem pC {k:Int → Int} {zs:List Int}:(mg (fun x y=>decide (k x < k y)) zs).length = zs.length:=od.length_eq
def rq (n:Nat) (z:Int):Value:=.int .i64 ((min z.toNat (n - 1):Nat):Int)
theorem um {n:Nat} {zs:List Int} (h:∀ z ∈ zs,0 ≤ z ∧ z < (n:Int)):zs.map (rq n) = zs.map (Value.int .i64):=by
 refine List.map_congr_left fun z hz=>?_
 obtain ⟨h1,h2⟩:=h z hz
 unfold rq
 rw [show ((min z.toNat (n - 1):Nat):Int) = z by omega]
theorem lx {F:Nat} {cmp0:List cg} {zs r:List Int} (h:gx F cmp0 zs = some r):av Tryz.prog [] 42 [(1,.ew 3 1 (zs.map eI))] [.row 1,.one (.fw 43 [CP.rp [.sl 6 (cmp0.map ao)]])] (Is [(1,.ew 3 1 (r.map eI))] (.dF [])):=by
 unfold gx at h
 split at h
 ·next hl=>
  obtain ⟨hl1,hl2,hl3⟩:=hl
  have hin:∀ z ∈ zs,0 ≤ z ∧ z < (cmp0.length:Int):=by simpa using hl3
  cases h
  intro w h ρ' vals tb hag hlent hargs
  cases hargs with
  | @cons _ v1 _ _ hv1 hargs=>
  cases hargs with
  | @cons _ v2 _ _ hv2 hargs=>
  cases hargs
  have hv':v1 = ρ' 1:=hv1
  subst hv'
  have hw:=jC tb hag hlent
  obtain ⟨_,_,hf⟩:=nN hw (k:=1) rfl
  obtain ⟨caps,hv2,hcaps⟩:=(hv2:(CP.fw 43 [CP.rp [.sl 6 (cmp0.map ao)]]).rel h v2)
  subst hv2
  rcases hf with ⟨hn,h0⟩ | ⟨b,cap,cur,h1,h2,h3,h4,h5,h6⟩
  ·have:=congrArg List.length h0; simp at this; subst this
   rw [hn]
   refine (AnyF.slices_SortFunc_none (ρ:=Tryz.lh) { Tryz.qV with } none 0 _ w).mono ?_
   rintro e w' ⟨rfl,rfl⟩
   exact ⟨.tuple #[],_,_,h,ρ',rfl,⟨rfl,rfl⟩,hw,_,rfl,.nil⟩
  rw [List.length_map] at h1 h3 h6
  rw [Nat.mul_one] at h5 h6
  obtain ⟨e1,e2⟩:=r4 h6
  have hbl:b < w.heap.size:=(Array.getElem?_eq_some_iff.1 h2).1
  by_cases hzs:zs = []
  ·subst hzs
   rw [h1]
   refine (AnyF.slices_SortFunc_none (ρ:=Tryz.lh) { Tryz.qV with } (some ⟨b,0,none⟩) cap _ w).mono ?_
   rintro e w' ⟨rfl,rfl⟩
   exact ⟨.tuple #[],_,_,h,ρ',rfl,⟨rfl,rfl⟩,hw,_,rfl,.nil⟩
  have hpos:0 < cmp0.length:=by
   cases zs with
   | nil=>exact absurd rfl hzs
   | cons z _=>have:=hin z (by simp); omega
  have hcl:cur.toList.take zs.length = zs.map (rq cmp0.length):=by rw [um hin]; exact e1
  have hH:=pL (enc:=rq cmp0.length) h2 hcl
  cases hcaps with
  | @cons _ c1 _ _ hc1 hcaps=>
  cases hcaps
  obtain ⟨Bs,o,rfl,hrd⟩:=(hc1:(CP.rp [.sl 6 (cmp0.map ao)]).rel h c1)
  obtain ⟨u,hu1,hu2⟩:=hrd 0 _ rfl
  rw [Nat.add_zero] at hu1
  obtain ⟨hun,_,hs⟩:=(hu2:(CP.sl 6 (cmp0.map ao)).rel h u)
  rcases hs with ⟨_,e⟩ | ⟨lb,lo,c,rfl,hlc,hcm,hrl⟩ | ⟨_,_,e⟩
  ·exfalso; rw [List.map_eq_nil_iff] at e; subst e; simp at hpos
  ·rw [List.length_map] at hlc
   have hnl:∀ b' o' u',h b' o' = some u' → b' ≠ b:=fun b' o' u' hu' e=>by
    have:=hw.nl b ⟨1,by simp [aI],by rw [show (⟨w,h,ρ',tb⟩:Env []).ρ0 1 = ρ' 1 from rfl,h1]; rfl⟩ o'
    rw [e] at hu'
    have h':h b o' = none:=this
    rw [h'] at hu'; simp at hu'
   have u4:∀ (m:Nat) (os:Array Obj) (dk:Array Int) (b' o':Nat) (u':Value),h b' o' = some u' → u'.oneCell' = true → (sortWorld (rq cmp0.length) w b 0 m dk os).cell? ⟨b',o',none⟩ = some u':=fun m os dk b' o' u' hu' hone=>by
    have hc:=hag.cell hu' hone
    unfold sortWorld
    have hlt:b' < w.heap.size:=block_lt_of_cell hc
    rw [Sort.cell?_grow _ _ _ (by simpa [Sort.putRow,Sort.mapBlock,Sort.ahead] using hlt),Sort.cell?_putRow_other _ _ _ _ _ _ (Or.inl (hnl _ _ _ hu'))]
    exact hc
   have hcmp:CmpLays1 Tryz.prog 43 #[.pointer (some ⟨Bs,o,none⟩)] (rq cmp0.length) (fun x y=>Lib.compareInt (kS cmp0 x) (kS cmp0 y)) b 0 zs.toArray.size w:=by
    intro m os dk hdk x y
    have key:=cmp43 lb lo c Bs o cmp0.length (sortWorld (rq cmp0.length) w b 0 m dk os) (fun t=>(cmp0.getD t default).Lo.a0) (by have g:=u4 m os dk _ _ _ hu1 rfl; rw [List.length_map] at g; exact g) (fun t ht=>by
     have hg:=hrl.elem hun t (ao cmp0[t]) (by simp [ht])
     obtain ⟨u',g1,g2⟩:=hg 0 (.i cmp0[t].Lo.a0) rfl
     have g2':u' = .int .i64 cmp0[t].Lo.a0 ∧ _:=g2
     rw [Nat.add_zero] at g1
     rw [u4 m os dk _ _ _ g1 (by rw [g2'.1]; rfl),g2'.1]
     simp [ht]) (min x.toNat (cmp0.length - 1)) (min y.toNat (cmp0.length - 1)) (by omega) (by omega) (by omega)
    refine key.mono fun e w' ⟨he,q,hq⟩=>⟨he,q,#[],by rw [hq,Sort.grow_empty]⟩
   have eg:∀ args w,(callFunc 43 args).run Tryz.prog w = .ok (.enter 43 args) w:=enters_of Tryz.func43 (by kernel_rfl) rfl
   have elt:ltOf (fun x y=>Lib.compareInt (kS cmp0 x) (kS cmp0 y)) = fun x y=>decide (kS cmp0 x < kS cmp0 y):=by
    funext x y
    unfold ltOf
    exact decide_eq_decide.2 (nP _ _)
   have hcon:=Any.slices_SortFunc_eq Tryz.qV (rq cmp0.length) (fun _=>rfl) (fun x y=>Lib.compareInt (kS cmp0 x) (kS cmp0 y)) (by rw [elt]; exact vm (kS cmp0)) 43 #[.pointer (some ⟨Bs,o,none⟩)] b 0 cap zs.toArray w eg hcmp hH hbl (by simp; omega)
   rw [h1]
   refine hcon.mono ?_
   rintro e w' ⟨rfl,q,os,rfl⟩
   rw [elt]
   have hd:(Sort.pdq (fun x y=>decide (kS cmp0 x < kS cmp0 y)) zs.toArray 0 zs.toArray.size (Lib.bitLen zs.toArray.size) true true) = (mg (fun x y=>decide (kS cmp0 x < kS cmp0 y)) zs).toArray:=by
    unfold mg; rw [if_neg hzs]
   rw [hd]
   have hmem:∀ z ∈ mg (fun x y=>decide (kS cmp0 x < kS cmp0 y)) zs,z ∈ zs:=fun z hz=>od.mem_iff.1 hz
   refine ⟨.tuple #[],_,_,h,ρ',rfl,⟨rfl,rfl⟩,?_,_,rfl,.nil⟩
   refine rI hw (by decide) (by rw [List.length_map]; exact h1) h2 (by rw [List.length_map]; exact h3) h4 (by rw [Nat.mul_one]; exact h5) (by simp [pC]) (by simp [pC]) (uni_I _) ?_ rfl
   rw [um fun z hz=>hin z (hmem z hz)]
   exact rO fun z hz=>e2 z (hmem z hz)
  ·exfalso; rw [List.map_eq_nil_iff] at e; subst e; simp at hpos
 ·simp at h
end Go.Proofs.YtagpkeehkcopaaaGreat
namespace Go.Proofs.YtagpkeehkcopaaaGreat
open Go Go.Sk Go.Proofs Go.Shelf Go.RowKit Go.Lib Go.Sort
set_option linter.unusedVariables false
set_option linter.unusedSimpArgs false
def mI (x:A2):List Value:=[.int .i64 x.a0,.int .i64 x.a1]
theorem qp {h:PH}:∀ {zs:List A2} {xs:List Value},aG h (zs.map (eu .i64)).flatten xs → xs = (zs.map mI).flatten ∧ ∀ z ∈ zs,oz .i64 z.a0 ∧ oz .i64 z.a1
 | [],_,hr=>by cases hr; exact ⟨rfl,fun z hz=>by cases hz⟩
 | z :: zs,xs,hr=>by
  have hr':aG h (CP.int .i64 z.a0 :: CP.int .i64 z.a1 :: (zs.map (eu .i64)).flatten) xs:=hr
  cases hr' with
  | cons g1 t=>
  cases t with
  | cons g2 t=>
   have g1':_ = Value.int .i64 z.a0 ∧ _:=g1
   have g2':_ = Value.int .i64 z.a1 ∧ _:=g2
   obtain ⟨e1,e2⟩:=qp t
   refine ⟨by rw [g1'.1,g2'.1,e1]; rfl,fun y hy=>?_⟩
   rcases List.mem_cons.1 hy with rfl | hy
   ·exact ⟨g1'.2,g2'.2⟩
   ·exact e2 y hy
theorem qo {h:PH}:∀ {zs:List A2},(∀ z ∈ zs,oz .i64 z.a0 ∧ oz .i64 z.a1) → aG h (zs.map (eu .i64)).flatten (zs.map mI).flatten
 | [],_=>.nil
 | z :: zs,H=>by
  have t:=qo (h:=h) fun y hy=>H y (List.mem_cons_of_mem _ hy)
  exact .cons (show (CP.int .i64 z.a0).rel h _ from ⟨rfl,(H z (by simp)).1⟩) (.cons (show (CP.int .i64 z.a1).rel h _ from ⟨rfl,(H z (by simp)).2⟩) t)
theorem mY (zs:List A2):((zs.map mI).flatten).length = zs.length * 2:=by
 induction zs with
 | nil=>rfl
 | cons z zs ih=>simp only [List.map_cons,List.flatten_cons,List.length_append,ih,List.length_cons]; simp [mI]; omega
theorem r9:∀ (zs:List A2) (t:Nat),t < zs.length * 2 → ((zs.map mI).flatten)[t]! = (mI zs[t / 2]!)[t % 2]!
 | [],t,h=>by simp at h
 | z :: zs,0,h=>rfl
 | z :: zs,1,h=>rfl
 | z :: zs,t + 2,h=>by
  have ih:=r9 zs t (by simp at h; omega)
  rw [show (t + 2) / 2 = t / 2 + 1 by omega,show (t + 2) % 2 = t % 2 by omega]
  exact ih
theorem sa (zs:List A2):flatK mI 2 zs.toArray = ((zs.map mI).flatten).toArray:=by
 apply Array.ext
 ·rw [size_flatK,List.size_toArray,List.size_toArray,mY]
 ·intro i h1 h2
  have h1':i < zs.length * 2:=by simpa using h1
  have g1:=get_flatK mI 2 zs.toArray i (by simpa using h1')
  have g2:=r9 zs i h1'
  rw [getElem!_pos _ i h1] at g1
  rw [getElem!_pos _ i (by rw [mY]; exact h1')] at g2
  rw [g1,List.getElem_toArray,g2]
  simp
def cfA (x y:A2):Int:=n2 x.a0 x.a1 y.a0 y.a1
theorem ti:ltOf cfA = jm:=by
 funext x y
 unfold ltOf jm cfA n2
 refine decide_eq_decide.2 ?_
 have e:Lib.compareInt x.a0 y.a0 = 0 ↔ x.a0 = y.a0:=by
  unfold Lib.compareInt
  by_cases h1:x.a0 < y.a0
  ·simp [h1]; omega
  ·by_cases h2:y.a0 < x.a0
   ·simp [h1,h2]; omega
   ·simp [h1,h2]; omega
 have l1:=nP x.a0 y.a0
 have l2:=nP x.a1 y.a1
 split <;> omega
theorem wB:Sort.SWO jm where
 irrefl x:=by simp [jm]
 trans x y z h1 h2:=by simp only [jm,decide_eq_true_eq] at *; omega
 ntrans x y z h1 h2:=by simp only [jm,decide_eq_false_iff_not] at *; omega
theorem wA (x y:A2) (h1:jm x y = false) (h2:jm y x = false):x = y:=by
 simp only [jm,decide_eq_false_iff_not] at h1 h2
 cases x; cases y
 simp only [A2.mk.injEq]
 simp only at h1 h2
 omega
theorem uni_A2 (zs:List A2):cm 2 (zs.map (eu .i64)):=bP fun _=>rfl
theorem kL {F:Nat} {zs r:List A2} (h:dA F zs = some r):av Tryz.prog [] 72 [(1,.ew 40 2 (zs.map (eu .i64)))] [.row 1,.one (.raw (.func (.func 73) #[] #[]))] (Is [(1,.ew 40 2 (r.map (eu .i64)))] (.dF [])):=by
 unfold dA at h
 split at h
 ·next hl=>
  cases h
  intro w h ρ' vals tb hag hlent hargs
  cases hargs with
  | @cons _ v1 _ _ hv1 hargs=>
  cases hargs with
  | @cons _ v2 _ _ hv2 hargs=>
  cases hargs
  have hv':v1 = ρ' 1:=hv1
  subst hv'
  have hv2':v2 = .func (.func 73) #[] #[] ∧ _:=hv2
  obtain ⟨rfl,_⟩:=hv2'
  have hw:=jC tb hag hlent
  obtain ⟨_,_,hf⟩:=nN hw (k:=1) rfl
  rcases hf with ⟨hn,h0⟩ | ⟨b,cap,cur,h1,h2,h3,h4,h5,h6⟩
  ·have:=congrArg List.length h0; simp at this; subst this
   rw [hn]
   refine (AnyF.slices_SortFunc_none (ρ:=Tryz.oc) { Tryz.ua with } none 0 _ w).mono ?_
   rintro e w' ⟨rfl,rfl⟩
   rw [List.mergeSort_nil]
   exact ⟨.tuple #[],_,_,h,ρ',rfl,⟨rfl,rfl⟩,hw,_,rfl,.nil⟩
  rw [List.length_map] at h1 h3 h6
  obtain ⟨e1,e2⟩:=qp h6
  have hbl:b < w.heap.size:=(Array.getElem?_eq_some_iff.1 h2).1
  have hH:HoldsK mI 2 w b 0 zs.toArray:=by
   unfold HoldsK
   rw [sa]
   exact pL h2 (by rw [mY,e1,List.map_id])
  have hcmp:CmpLays Tryz.prog 73 #[] mI 2 cfA b 0 zs.toArray.size w:=fun m os dk hdk x y=>cmp73 _ x.a0 x.a1 y.a0 y.a1
  have eg:∀ args w,(callFunc 73 args).run Tryz.prog w = .ok (.enter 73 args) w:=enters_of Tryz.func73 (by kernel_rfl) rfl
  have hcon:=AnyQ.slices_SortFunc_total Tryz.ua 2 Tryz.isAgg40 Tryz.sizeOf40 mI (fun _=>rfl) (fun x v hv=>by simp [mI] at hv; rcases hv with rfl | rfl <;> rfl) cfA (by rw [ti]; exact wB) 73 #[] b 0 cap zs.toArray w eg hcmp hH hbl (by simp; omega) (by rw [ti]; exact wA)
  rw [h1]
  refine hcon.mono ?_
  rintro e w' ⟨rfl,q,os,rfl⟩
  rw [ti]
  have hp:(zs.mergeSort fun a b=>!jm b a).Perm zs:=List.mergeSort_perm zs _
  have hlen:=hp.length_eq
  refine ⟨.tuple #[],_,_,h,ρ',rfl,⟨rfl,rfl⟩,?_,_,rfl,.nil⟩
  refine rI (enc:=id) (d:=((zs.mergeSort fun a b=>!jm b a).map mI).flatten) (q:=q) (os:=os) hw (by decide) (by rw [List.length_map]; exact h1) h2 (by rw [List.length_map]; exact h3) h4 h5 (by simp [hlen]) (by rw [mY,hlen,List.length_map]) (uni_A2 _) ?_ ?_
  ·rw [List.map_id]
   exact qo fun z hz=>e2 z (hp.mem_iff.1 hz)
  ·unfold sortWorldK putRowK
   rw [sa]
 ·simp at h
end Go.Proofs.YtagpkeehkcopaaaGreat
