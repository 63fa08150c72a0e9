/- the structures, the library -/
import Derived.Test.YtnpddoaeoefcnaaRows
import Derived.Test.YtnpddoaeoefcnaaF3
import Derived.Shelf.Sort.Plain
import Derived.Shelf.Slices.CompactI
import Derived.Ground.NamesProg
import Derived.Ground.Names2Prog
import Derived.Test.YtnpddoaeoefcnaaProg
namespace Go.Sk
open Go
structure A2 where
 a0:Int
 a1:Int
 deriving DecidableEq,Inhabited
def A2.l (w:A2):List Int:=[w.a0,w.a1]
def A2.of:List Int → A2
 | [a0,a1]=>⟨a0,a1⟩
 | _=>default
def A2.zero:A2:=⟨0,0⟩
def A2.set (w:A2) (i x:Int):A2:=.of (w.l.set i.toNat x)
structure A3 where
 a0:Int
 a1:Int
 a2:Int
 deriving DecidableEq,Inhabited
def A3.l (w:A3):List Int:=[w.a0,w.a1,w.a2]
def A3.of:List Int → A3
 | [a0,a1,a2]=>⟨a0,a1,a2⟩
 | _=>default
def A3.zero:A3:=⟨0,0,0⟩
def A3.set (w:A3) (i x:Int):A3:=.of (w.l.set i.toNat x)
structure Task where
 Owner:Int
 Bodies:List Int
 Helpers:List Int
 deriving DecidableEq,Inhabited
def ao (x:Task):List CP:=[.i x.Owner,.sl 1 (x.Bodies.map eI),.sl 1 (x.Helpers.map eI)]
structure Round where
 Me:Int
 Regions:Int
 Step:Int
 Home:List Int
 Heard:List Bool
 Sets:List (List Int)
 States:List de
 Tasks:List Task
 Done:List Bool
 Results:List de
 deriving DecidableEq,Inhabited
def ay (x:Round):List CP:=[.i x.Me,.i x.Regions,.i x.Step,.sl 1 (x.Home.map eI),.sl 1 (x.Heard.map eB),.sl 1 (x.Sets.map (eL 1 eI)),.sl 1 (x.States.map eS),.sl 3 (x.Tasks.map ao),.sl 1 (x.Done.map eB),.sl 1 (x.Results.map eS)]
structure aI where
 Kind:Int
 Step:Int
 From:Int
 To:Int
 Sets:List (List Int)
 Bodies:List Int
 States:List de
 deriving DecidableEq,Inhabited
def ah (x:aI):List CP:=[.i x.Kind,.i x.Step,.i x.From,.i x.To,.sl 1 (x.Sets.map (eL 1 eI)),.sl 1 (x.Bodies.map eI),.sl 1 (x.States.map eS)]
structure Step where
 R:Round
 L:List aI
 E:Int
 deriving DecidableEq,Inhabited
def gj (x:Step):List CP:=(ay x.R ++ ([.sl 7 (x.L.map ah),.i x.E]))
structure r9 where
 L:aI
 Answer:Bool
 Task:Int
 States:List de
 deriving DecidableEq,Inhabited
def dC (x:r9):List CP:=(ah x.L ++ ([.bool x.Answer,.i x.Task,.sl 1 (x.States.map eS)]))
structure Box where
 Lo:A3
 Hi:A3
 deriving DecidableEq,Inhabited
structure Share where
 Body:Int
 From:Int
 To:Int
 deriving DecidableEq,Inhabited
structure Shared where
 L:List Share
 E:Int
 deriving DecidableEq,Inhabited
end Go.Sk
namespace Go.Proofs
open Go.Shelf
def Try.uz:Go.Shelf.Ren:=⟨fun | 189=>91 | 125=>99 | 257=>98 | 128=>109 | 129=>110 | 294=>100 | 295=>101 | 296=>102 | 297=>103 | 298=>104 | 299=>105 | 216=>106 | 300=>107 | 301=>108 | 328=>111 | 329=>112 | 330=>113 | 331=>114 | 332=>115 | 215=>116 | 343=>117 | n=>n,fun | 28=>22 | 3=>3 | 46=>138 | 0=>0 | 51=>152 | 53=>154 | 4=>4 | 183=>146 | 182=>145 | 131=>143 | 5=>5 | 9=>9 | 218=>155 | 222=>159 | 228=>161 | 229=>78 | n=>n,fun | n=>n⟩
theorem Try.lays189:Go.Proofs.Lays.n189 Try.prog Try.uz:={
 mixed:=by kernel_rfl
 f125:=Try.func99.trans (congrArg some (by kernel_rfl))
 f128:=Try.func109.trans (congrArg some (by kernel_rfl))
 f129:=Try.func110.trans (congrArg some (by kernel_rfl))
 f189:=Try.func91.trans (congrArg some (by kernel_rfl))
 f215:=Try.func116.trans (congrArg some (by kernel_rfl))
 f216:=Try.func106.trans (congrArg some (by kernel_rfl))
 f257:=Try.func98.trans (congrArg some (by kernel_rfl))
 f294:=Try.func100.trans (congrArg some (by kernel_rfl))
 f295:=Try.func101.trans (congrArg some (by kernel_rfl))
 f296:=Try.func102.trans (congrArg some (by kernel_rfl))
 f297:=Try.func103.trans (congrArg some (by kernel_rfl))
 f298:=Try.func104.trans (congrArg some (by kernel_rfl))
 f299:=Try.func105.trans (congrArg some (by kernel_rfl))
 f300:=Try.func107.trans (congrArg some (by kernel_rfl))
 f301:=Try.func108.trans (congrArg some (by kernel_rfl))
 f328:=Try.func111.trans (congrArg some (by kernel_rfl))
 f329:=Try.func112.trans (congrArg some (by kernel_rfl))
 f330:=Try.func113.trans (congrArg some (by kernel_rfl))
 f331:=Try.func114.trans (congrArg some (by kernel_rfl))
 f332:=Try.func115.trans (congrArg some (by kernel_rfl))
 f343:=Try.func117.trans (congrArg some (by kernel_rfl))
 t0:=Try.underlying0
 a0:=Try.isAgg0
 z0:=Try.sizeOf0
 v0:=Try.zeroValue0
 t3:=Try.underlying3
 a3:=Try.isAgg3
 z3:=Try.sizeOf3
 v3:=Try.zeroValue3
 t4:=Try.underlying4
 a4:=Try.isAgg4
 z4:=Try.sizeOf4
 v4:=Try.zeroValue4
 t5:=Try.underlying5
 a5:=Try.isAgg5
 z5:=Try.sizeOf5
 v5:=Try.zeroValue5
 t9:=Try.underlying9
 a9:=Try.isAgg9
 z9:=Try.sizeOf9
 v9:=Try.zeroValue9
 t28:=Try.underlying22
 a28:=Try.isAgg22
 z28:=Try.sizeOf22
 v28:=Try.zeroValue22
 t46:=Try.underlying138
 a46:=Try.isAgg138
 z46:=Try.sizeOf138
 v46:=Try.zeroValue138
 t51:=Try.underlying152
 a51:=Try.isAgg152
 z51:=Try.sizeOf152
 v51:=Try.zeroValue152
 t53:=Try.underlying154
 a53:=Try.isAgg154
 z53:=Try.sizeOf154
 v53:=Try.zeroValue154
 t131:=Try.underlying143
 a131:=Try.isAgg143
 z131:=Try.sizeOf143
 v131:=Try.zeroValue143
 t182:=Try.underlying145
 a182:=Try.isAgg145
 z182:=Try.sizeOf145
 v182:=Try.zeroValue145
 t183:=Try.underlying146
 a183:=Try.isAgg146
 z183:=Try.sizeOf146
 v183:=Try.zeroValue146
 t218:=Try.underlying155
 a218:=Try.isAgg155
 z218:=Try.sizeOf155
 v218:=Try.zeroValue155
 t222:=Try.underlying159
 a222:=Try.isAgg159
 z222:=Try.sizeOf159
 v222:=Try.zeroValue159
 t228:=Try.underlying161
 a228:=Try.isAgg161
 z228:=Try.sizeOf161
 v228:=Try.zeroValue161
 t229:=Try.underlying78
 a229:=Try.isAgg78
 z229:=Try.sizeOf78
 v229:=Try.zeroValue78 }
def Try.tC:Go.Shelf.Ren:=⟨fun | 20=>92 | n=>n,fun | 22=>22 | 3=>3 | 4=>4 | 0=>0 | n=>n,fun | n=>n⟩
theorem Try.yK:Go.Proofs.Lays2.n20 Try.prog Try.tC:={
 mixed:=by kernel_rfl
 f20:=Try.func92.trans (congrArg some (by kernel_rfl))
 t0:=Try.underlying0
 a0:=Try.isAgg0
 z0:=Try.sizeOf0
 v0:=Try.zeroValue0
 t3:=Try.underlying3
 a3:=Try.isAgg3
 z3:=Try.sizeOf3
 v3:=Try.zeroValue3
 t4:=Try.underlying4
 a4:=Try.isAgg4
 z4:=Try.sizeOf4
 v4:=Try.zeroValue4
 t22:=Try.underlying22
 a22:=Try.isAgg22
 z22:=Try.sizeOf22
 v22:=Try.zeroValue22
 i3:=by kernel_rfl }
end Go.Proofs
