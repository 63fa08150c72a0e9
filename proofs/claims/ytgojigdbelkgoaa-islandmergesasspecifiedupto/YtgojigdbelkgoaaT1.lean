/- the structures, the library -/
import Derived.Test.YtgojigdbelkgoaaRows
import Derived.Test.YtgojigdbelkgoaaF3
import Derived.Shelf.Sort.Plain
import Derived.Ground.NamesProg
import Derived.Test.YtgojigdbelkgoaaProg
namespace Go.Sk
open Go
structure A2 where
 a0:Int
 a1:Int
 deriving DecidableEq,Inhabited
def A2.l (w:A2):List Int:=[w.a0,w.a1]
def A2.of:List Int → A2
 | [a0,a1]=>⟨a0,a1⟩
 | _=>default
def A2.zero:A2:=⟨0,0⟩
def A2.set (w:A2) (i x:Int):A2:=.of (w.l.set i.toNat x)
def cR (k:IntKind) (w:A2):List CP:=w.l.map (.int k)
structure km where
 to:Int
 pos:Int
 deriving DecidableEq,Inhabited
def aR (x:km):List CP:=[.i x.to,.i x.pos]
structure Sets where
 L:List (List Int)
 E:Int
 deriving DecidableEq,Inhabited
structure ListG where
 L:List Int
 E:Int
 deriving DecidableEq,Inhabited
structure qk where
 a0:List (List Int)
 a1:List (List Int)
 a2:List (List Int)
 a3:List (List Int)
 deriving DecidableEq,Inhabited
end Go.Sk
namespace Go.Proofs
open Go.Shelf
def Try.ow:Go.Shelf.Ren:=⟨fun | 189=>50 | 125=>56 | 257=>55 | 128=>68 | 129=>69 | 294=>59 | 295=>60 | 296=>61 | 297=>62 | 298=>63 | 299=>64 | 216=>65 | 300=>66 | 301=>67 | 328=>71 | 329=>72 | 330=>73 | 331=>74 | 332=>75 | 215=>76 | 343=>78 | n=>n,fun | 28=>30 | 3=>3 | 46=>63 | 0=>0 | 51=>95 | 53=>97 | 4=>4 | 183=>89 | 182=>88 | 131=>82 | 5=>5 | 9=>9 | 218=>98 | 222=>102 | 228=>104 | 229=>105 | n=>n,fun | n=>n⟩
theorem Try.lays189:Go.Proofs.Lays.n189 Try.prog Try.ow:={
 mixed:=by kernel_rfl
 f125:=Try.func56.trans (congrArg some (by kernel_rfl))
 f128:=Try.func68.trans (congrArg some (by kernel_rfl))
 f129:=Try.func69.trans (congrArg some (by kernel_rfl))
 f189:=Try.func50.trans (congrArg some (by kernel_rfl))
 f215:=Try.func76.trans (congrArg some (by kernel_rfl))
 f216:=Try.func65.trans (congrArg some (by kernel_rfl))
 f257:=Try.func55.trans (congrArg some (by kernel_rfl))
 f294:=Try.func59.trans (congrArg some (by kernel_rfl))
 f295:=Try.func60.trans (congrArg some (by kernel_rfl))
 f296:=Try.func61.trans (congrArg some (by kernel_rfl))
 f297:=Try.func62.trans (congrArg some (by kernel_rfl))
 f298:=Try.func63.trans (congrArg some (by kernel_rfl))
 f299:=Try.func64.trans (congrArg some (by kernel_rfl))
 f300:=Try.func66.trans (congrArg some (by kernel_rfl))
 f301:=Try.func67.trans (congrArg some (by kernel_rfl))
 f328:=Try.func71.trans (congrArg some (by kernel_rfl))
 f329:=Try.func72.trans (congrArg some (by kernel_rfl))
 f330:=Try.func73.trans (congrArg some (by kernel_rfl))
 f331:=Try.func74.trans (congrArg some (by kernel_rfl))
 f332:=Try.func75.trans (congrArg some (by kernel_rfl))
 f343:=Try.func78.trans (congrArg some (by kernel_rfl))
 t0:=Try.underlying0
 a0:=Try.isAgg0
 z0:=Try.sizeOf0
 v0:=Try.zeroValue0
 t3:=Try.underlying3
 a3:=Try.isAgg3
 z3:=Try.sizeOf3
 v3:=Try.zeroValue3
 t4:=Try.underlying4
 a4:=Try.isAgg4
 z4:=Try.sizeOf4
 v4:=Try.zeroValue4
 t5:=Try.underlying5
 a5:=Try.isAgg5
 z5:=Try.sizeOf5
 v5:=Try.zeroValue5
 t9:=Try.underlying9
 a9:=Try.isAgg9
 z9:=Try.sizeOf9
 v9:=Try.zeroValue9
 t28:=Try.underlying30
 a28:=Try.isAgg30
 z28:=Try.sizeOf30
 v28:=Try.zeroValue30
 t46:=Try.underlying63
 a46:=Try.isAgg63
 z46:=Try.sizeOf63
 v46:=Try.zeroValue63
 t51:=Try.underlying95
 a51:=Try.isAgg95
 z51:=Try.sizeOf95
 v51:=Try.zeroValue95
 t53:=Try.underlying97
 a53:=Try.isAgg97
 z53:=Try.sizeOf97
 v53:=Try.zeroValue97
 t131:=Try.underlying82
 a131:=Try.isAgg82
 z131:=Try.sizeOf82
 v131:=Try.zeroValue82
 t182:=Try.underlying88
 a182:=Try.isAgg88
 z182:=Try.sizeOf88
 v182:=Try.zeroValue88
 t183:=Try.underlying89
 a183:=Try.isAgg89
 z183:=Try.sizeOf89
 v183:=Try.zeroValue89
 t218:=Try.underlying98
 a218:=Try.isAgg98
 z218:=Try.sizeOf98
 v218:=Try.zeroValue98
 t222:=Try.underlying102
 a222:=Try.isAgg102
 z222:=Try.sizeOf102
 v222:=Try.zeroValue102
 t228:=Try.underlying104
 a228:=Try.isAgg104
 z228:=Try.sizeOf104
 v228:=Try.zeroValue104
 t229:=Try.underlying105
 a229:=Try.isAgg105
 z229:=Try.sizeOf105
 v229:=Try.zeroValue105 }
end Go.Proofs
