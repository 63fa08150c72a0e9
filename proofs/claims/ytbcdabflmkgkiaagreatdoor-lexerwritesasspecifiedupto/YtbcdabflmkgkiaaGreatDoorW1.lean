/- printed walks -/
import Derived.Test.YtbcdabflmkgkiaaGreatDoorT1
set_option linter.unusedSimpArgs false
set_option linter.unusedVariables false
open Go.IntKind (i8 i16 i32 i64 u8 u16 u32 u64)
open Go.Proofs.Tryz (prog)
namespace Go.Proofs.YtbcdabflmkgkiaaGreatDoor
open Go.Sk
set_option maxHeartbeats 4000000
set_option maxRecDepth 4000
variable {mx : Int}
/-- the words and the signs of the lexer -/
def fJ:List Str:=[[97,110,100],[97,112,112,108,121],[97,116],[98,108,111,99,107],[98,111,120],[98,121],[99,117,116],[101,108,115,101],[102,97,108,115,101],[102,111,114,99,101],[102,114,101,101],[102,114,111,109],[103,114,97,118,105,116,121],[103,114,111,117,110,100],[105,102],[108,101,116],[108,111,97,100],[109,97,115,115],[110,111,116],[111,110],[111,114],[112,97,117,115,101],[112,108,97,99,101],[112,111,105,110,116,115],[112,114,111,112],[114,101,109,111,118,101],[114,101,112,101,97,116],[114,111,112,101],[114,111,117,103,104],[114,117,110],[115,101,116],[116,105,101],[116,111],[116,114,117,101],[116,117,114,110],[121,97,114,100]]
def dr:List Str:=[[46,46],[61,61],[33,61],[60,61],[62,61],[45,62],[40],[41],[123],[125],[91],[93],[44],[59],[58],[46],[61],[60],[62],[43],[45],[42],[47],[94],[64]]
/-- the tables (mx: what internal/bytealg.MaxLen holds,whatever it is) -/
def bd (mx:Int):bp:=[(0,wi fJ),(1,wi dr),(2,[Value.int .i64 mx])]
theorem DH {mx:Int}:(0,wi fJ)∈bd mx:=by simp[bd]
theorem rX {mx:Int}:(1,wi dr)∈bd mx:=by simp[bd]
theorem DG (h:PH):aQ h (fJ.map eS).flatten (wi fJ):=wR h (by decide)
theorem rW (h:PH):aQ h (dr.map eS).flatten (wi dr):=wR h (by decide)
theorem xk:cS prog 149 1 0 32:=⟨⟨_,_,Tryz.t32,Tryz.underlying149,rfl,rfl,rfl,by kernel_rfl,by decide⟩⟩
theorem ext171:td prog 171 (Extern.Atomic.loadT (.int .u32)):=⟨_,Tryz.func171,by kernel_rfl,by kernel_rfl,by kernel_rfl,by kernel_rfl⟩
theorem goes185:bq prog 185:=⟨Tryz.call185⟩
theorem ext184:td prog 184 (Extern.Atomic.storeT):=⟨_,Tryz.func184,by kernel_rfl,by kernel_rfl,by kernel_rfl,by kernel_rfl⟩
theorem mixed:Tryz.prog.follows .mixedOrders=true:=by kernel_rfl
theorem FH:td prog 189 (fun _=>do _root_.Go.mark .disable;pure Extern.Race.none_):=⟨_,Tryz.func189,by kernel_rfl,by kernel_rfl,by kernel_rfl,by kernel_rfl⟩
theorem sU:cS prog 151 0 0 21:=⟨⟨_,_,Tryz.t21,Tryz.underlying151,rfl,rfl,rfl,by kernel_rfl,by decide⟩⟩
theorem ext190:td prog 190 (Extern.Atomic.casT (.int .i32)):=⟨_,Tryz.func190,by kernel_rfl,by kernel_rfl,by kernel_rfl,by kernel_rfl⟩
theorem FG:td prog 191 (fun _=>do _root_.Go.mark .enable;pure Extern.Race.none_):=⟨_,Tryz.func191,by kernel_rfl,by kernel_rfl,by kernel_rfl,by kernel_rfl⟩
theorem ext192:td prog 192 (Extern.Race.marked .acquire):=⟨_,Tryz.func192,by kernel_rfl,by kernel_rfl,by kernel_rfl,by kernel_rfl⟩
theorem xj:cS prog 153 1 0 151:=⟨⟨_,_,Tryz.t151,Tryz.underlying153,rfl,rfl,rfl,by kernel_rfl,by decide⟩⟩
theorem goes182:bq prog 182:=⟨Tryz.call182⟩
theorem tyOne21:ez prog 21:=⟨⟨_,Tryz.underlying21,rfl⟩,⟨Tryz.t21,by kernel_rfl,by kernel_rfl⟩⟩
theorem ext194:td prog 194 (Extern.Race.marked .releaseMerge):=⟨_,Tryz.func194,by kernel_rfl,by kernel_rfl,by kernel_rfl,by kernel_rfl⟩
theorem ext195:td prog 195 (Extern.Atomic.update (Op.intArith .add) .i32 true):=⟨_,Tryz.func195,by kernel_rfl,by kernel_rfl,by kernel_rfl,by kernel_rfl⟩
theorem goes183:bq prog 183:=⟨Tryz.call183⟩
theorem xg:cS prog 159 2 4 44:=⟨⟨_,_,Tryz.t44,Tryz.underlying159,rfl,rfl,rfl,by kernel_rfl,by decide⟩⟩
theorem nG:ez prog 44:=⟨⟨_,Tryz.underlying44,rfl⟩,⟨Tryz.t44,by kernel_rfl,by kernel_rfl⟩⟩
theorem nB:Tryz.prog.underlying 44=some (.slice 9):=Tryz.underlying44
theorem dX:lW prog 44 9 1 16 [.str []]:=⟨Tryz.underlying44,⟨Tryz.t9,_,by kernel_rfl,rfl,rfl,rfl,rfl,by decide,rfl⟩⟩
theorem b7:ez prog 9:=⟨⟨_,Tryz.underlying9,rfl⟩,⟨Tryz.t9,by kernel_rfl,by kernel_rfl⟩⟩
theorem cb:Tryz.prog.underlying 9=some .string:=Tryz.underlying9
theorem BX:jQ prog 211 [(0,256),(256,1)] (List.replicate 256 CP.nil++[.nil]):=⟨⟨Tryz.t211,_,_,by kernel_rfl,rfl,rfl,Tryz.underlying211,by kernel_rfl⟩⟩
theorem DJ:jU prog 211 (List.replicate 256 CP.nil++[.nil]):=⟨⟨Tryz.t211,_,by kernel_rfl,rfl,rfl⟩⟩
theorem F3:gV prog 211 257:=⟨⟨_,Tryz.underlying211,rfl⟩,⟨Tryz.t211,by kernel_rfl,by kernel_rfl⟩⟩
theorem hC:cS prog 211 0 0 209:=⟨⟨_,_,Tryz.t209,Tryz.underlying211,rfl,rfl,rfl,by kernel_rfl,by decide⟩⟩
theorem kE:l7 prog 209 50 256 1:=⟨Tryz.underlying209,⟨Tryz.t50,by kernel_rfl,by kernel_rfl⟩⟩
theorem mb:ez prog 50:=⟨⟨_,Tryz.underlying50,rfl⟩,⟨Tryz.t50,by kernel_rfl,by kernel_rfl⟩⟩
theorem kS:Tryz.prog.underlying 50=some (.slice 5):=Tryz.underlying50
theorem k8:cS prog 211 1 256 44:=⟨⟨_,_,Tryz.t44,Tryz.underlying211,rfl,rfl,rfl,by kernel_rfl,by decide⟩⟩
theorem mF:lW prog 50 5 1 1 [.int .u8 0]:=⟨Tryz.underlying50,⟨Tryz.t5,_,by kernel_rfl,rfl,rfl,rfl,rfl,by decide,rfl⟩⟩
theorem oe:Tryz.prog.underlying 5=some (.int .u8):=Tryz.underlying5
theorem conc212:Tryz.prog.concrete 212=true:=(by kernel_rfl)
theorem goes152:bq prog 152:=⟨Tryz.call152⟩
theorem xh:cS prog 159 1 3 157:=⟨⟨_,_,Tryz.t157,Tryz.underlying159,rfl,rfl,rfl,by kernel_rfl,by decide⟩⟩
theorem zR:ez prog 157:=⟨⟨_,Tryz.underlying157,rfl⟩,⟨Tryz.t157,by kernel_rfl,by kernel_rfl⟩⟩
theorem xi:cS prog 155 2 1 153:=⟨⟨_,_,Tryz.t153,Tryz.underlying155,rfl,rfl,rfl,by kernel_rfl,by decide⟩⟩
theorem goes172:bq prog 172:=⟨Tryz.call172⟩
theorem sT:cS prog 155 1 0 149:=⟨⟨_,_,Tryz.t149,Tryz.underlying155,rfl,rfl,rfl,by kernel_rfl,by decide⟩⟩
theorem Da:bq prog 150:=⟨Tryz.call150⟩
theorem goes118:bq prog 118:=⟨Tryz.call118⟩
theorem goes174:bq prog 174:=⟨Tryz.call174⟩
theorem goes173:bq prog 173:=⟨Tryz.call173⟩
theorem goes151:bq prog 151:=⟨Tryz.call151⟩
theorem Fj:bq prog 54:=⟨Tryz.call54⟩
theorem Bh:ez prog 5:=⟨⟨_,Tryz.underlying5,rfl⟩,⟨Tryz.t5,by kernel_rfl,by kernel_rfl⟩⟩
theorem Au:Am prog 159 [(0,3),(3,1),(4,1)] [.int .u32 0,.int .i32 0,.int .u32 0,.raw .nilIface,.nil]:=⟨⟨Tryz.t159,_,_,by kernel_rfl,rfl,fun _=>(.cons (w7 ⟨by decide,by decide⟩) (.cons (w7 ⟨by decide,by decide⟩) (.cons (w7 ⟨by decide,by decide⟩) (.cons (Ak rfl) (.cons (Ak rfl) .nil))))),Tryz.underlying159,by kernel_rfl⟩⟩
theorem BU:cS prog 159 0 0 155:=⟨⟨_,_,Tryz.t155,Tryz.underlying159,rfl,rfl,rfl,by kernel_rfl,by decide⟩⟩
theorem goes117:bq prog 117:=⟨Tryz.call117⟩
theorem vI:∀ (u:Value) (args:Array Value) (w:World),(callMethod (.iface 212 u) "Replace" args).run prog w=.ok (.enter 230 (#[u]++args)) w:=fun _ _ _=>by kernel_rfl
theorem Bt:bq prog 91:=⟨Tryz.call91⟩
theorem Br:bq prog 95:=⟨Tryz.call95⟩
theorem goes138:bq prog 138:=⟨Tryz.call138⟩
theorem goes100:bq prog 100:=⟨Tryz.call100⟩
theorem goes94:bq prog 94:=⟨Tryz.call94⟩
theorem goes99:bq prog 99:=⟨Tryz.call99⟩
theorem goes101:bq prog 101:=⟨Tryz.call101⟩
theorem bL:cS prog 77 1 1 3:=⟨⟨_,_,Tryz.t3,Tryz.underlying77,rfl,rfl,rfl,by kernel_rfl,by decide⟩⟩
theorem bI:ez prog 3:=⟨⟨_,Tryz.underlying3,rfl⟩,⟨Tryz.t3,by kernel_rfl,by kernel_rfl⟩⟩
theorem gO:cS prog 77 0 0 9:=⟨⟨_,_,Tryz.t9,Tryz.underlying77,rfl,rfl,rfl,by kernel_rfl,by decide⟩⟩
theorem gP:jQ prog 46 [(0,1),(1,1)] [.i 0,.i 0]:=⟨⟨Tryz.t46,_,_,by kernel_rfl,rfl,rfl,Tryz.underlying46,by kernel_rfl⟩⟩
theorem conc46:Tryz.prog.concrete 46=true:=(by kernel_rfl)
theorem Db:bq prog 149:=⟨Tryz.call149⟩
theorem nA:Tryz.prog.underlying 3=some (.int .i64):=Tryz.underlying3
theorem ES:Tryz.prog.underlying 55=some (.int .u64):=Tryz.underlying55
theorem goes115:bq prog 115:=⟨Tryz.call115⟩
theorem Dh:bq prog 116:=⟨Tryz.call116⟩
theorem tyArr88:l7 prog 88 9 36 1:=⟨Tryz.underlying88,⟨Tryz.t9,by kernel_rfl,by kernel_rfl⟩⟩
theorem goes56:bq prog 56:=⟨Tryz.call56⟩
theorem im:jU prog 31 [.i 0,.i 0,.str []]:=⟨⟨Tryz.t31,_,by kernel_rfl,rfl,rfl⟩⟩
theorem n2:bq prog 92:=⟨Tryz.call92⟩
theorem cz:jQ prog 31 [(0,1),(1,1),(2,1)] [.i 0,.i 0,.str []]:=⟨⟨Tryz.t31,_,_,by kernel_rfl,rfl,rfl,Tryz.underlying31,by kernel_rfl⟩⟩
theorem bK:gV prog 31 3:=⟨⟨_,Tryz.underlying31,rfl⟩,⟨Tryz.t31,by kernel_rfl,by kernel_rfl⟩⟩
theorem wM:bq prog 93:=⟨Tryz.call93⟩
theorem sN:bq prog 96:=⟨Tryz.call96⟩
theorem dS:cS prog 31 2 2 9:=⟨⟨_,_,Tryz.t9,Tryz.underlying31,rfl,rfl,rfl,by kernel_rfl,by decide⟩⟩
theorem Bx:bq prog 25:=⟨Tryz.call25⟩
theorem j7:cS prog 31 0 0 3:=⟨⟨_,_,Tryz.t3,Tryz.underlying31,rfl,rfl,rfl,by kernel_rfl,by decide⟩⟩
theorem pg:ez prog 75:=⟨⟨_,Tryz.underlying75,rfl⟩,⟨Tryz.t75,by kernel_rfl,by kernel_rfl⟩⟩
theorem goes71:bq prog 71:=⟨Tryz.call71⟩
theorem goes98:bq prog 98:=⟨Tryz.call98⟩
theorem tJ:l7 prog 131 9 25 1:=⟨Tryz.underlying131,⟨Tryz.t9,by kernel_rfl,by kernel_rfl⟩⟩
theorem goes97:bq prog 97:=⟨Tryz.call97⟩
theorem F2:jU prog 22 [.nil]:=⟨⟨Tryz.t22,_,by kernel_rfl,rfl,rfl⟩⟩
theorem lL:jU prog 46 [.i 0,.i 0]:=⟨⟨Tryz.t46,_,by kernel_rfl,rfl,rfl⟩⟩
theorem eH:ez prog 22:=⟨⟨_,Tryz.underlying22,rfl⟩,⟨Tryz.t22,by kernel_rfl,by kernel_rfl⟩⟩
theorem dA:gV prog 46 2:=⟨⟨_,Tryz.underlying46,rfl⟩,⟨Tryz.t46,by kernel_rfl,by kernel_rfl⟩⟩
theorem DS:jQ prog 77 [(0,1),(1,1)] [.str [],.i 0]:=⟨⟨Tryz.t77,_,_,by kernel_rfl,rfl,rfl,Tryz.underlying77,by kernel_rfl⟩⟩
theorem DR:tW prog 79 1 [.raw .nilFunc,.raw .nilFunc,.raw .nilFunc,.raw .nilFunc]:=⟨⟨Tryz.t79,_,_,_,Tryz.t78,by kernel_rfl,rfl,rfl,Tryz.underlying79,by kernel_rfl,by kernel_rfl⟩⟩
theorem F1:jU prog 79 [.raw .nilFunc,.raw .nilFunc,.raw .nilFunc,.raw .nilFunc]:=⟨⟨Tryz.t79,_,by kernel_rfl,rfl,rfl⟩⟩
theorem CK:gV prog 79 4:=⟨⟨_,Tryz.underlying79,rfl⟩,⟨Tryz.t79,by kernel_rfl,by kernel_rfl⟩⟩
theorem Fo:bq prog 45:=⟨Tryz.call45⟩
theorem vQ:l7 prog 79 78 4 1:=⟨Tryz.underlying79,⟨Tryz.t78,by kernel_rfl,by kernel_rfl⟩⟩
theorem vP:ez prog 78:=⟨⟨_,Tryz.underlying78,rfl⟩,⟨Tryz.t78,by kernel_rfl,by kernel_rfl⟩⟩
theorem Fu:bq prog 41:=⟨Tryz.call41⟩
theorem fh:lW prog 22 31 3 32 [.i 0,.i 0,.str []]:=⟨Tryz.underlying22,⟨Tryz.t31,_,by kernel_rfl,rfl,rfl,rfl,rfl,by decide,rfl⟩⟩
theorem Ft:bq prog 42:=⟨Tryz.call42⟩
theorem Fq:bq prog 43:=⟨Tryz.call43⟩
theorem Fp:bq prog 44:=⟨Tryz.call44⟩
theorem wN:bq prog 40:=⟨Tryz.call40⟩
theorem qa:Tryz.prog.underlying 22=some (.slice 31):=Tryz.underlying22
theorem goes57:bq prog 57:=⟨Tryz.call57⟩
theorem goes58:bq prog 58:=⟨Tryz.call58⟩
theorem FA:bq prog 27:=⟨Tryz.call27⟩
theorem sO:bq prog 13:=⟨Tryz.call13⟩
theorem x6:cS prog 31 1 1 3:=⟨⟨_,_,Tryz.t3,Tryz.underlying31,rfl,rfl,rfl,by kernel_rfl,by decide⟩⟩
theorem rB:ez prog 24:=⟨⟨_,Tryz.underlying24,rfl⟩,⟨Tryz.t24,by kernel_rfl,by kernel_rfl⟩⟩
theorem GO (x y:Problem) {d:Nat}:dJ prog (d+2) 46 2 (bP x) (bP y) (decide (x=y)) :=
 (dJ.struct (d:=d+1) (rs:=[decide (x.At=y.At),decide (x.E=y.E)]) dA Tryz.stoodInHeld46 Tryz.underlying46 (⟨by decide,⟨_,[.i x.At],[.i y.At],rfl,rfl,rfl,rfl,dJ.int bI Tryz.underlying3⟩,⟨by decide,⟨_,[.i x.E],[.i y.E],rfl,rfl,rfl,rfl,dJ.int rB Tryz.underlying24⟩,trivial⟩⟩) rfl).cast
  (by cases x;cases y;rw[Bool.eq_iff_iff];simp[Problem.mk.injEq])
theorem pE (x y:Problem):nC prog 46 (bP x) (bP y) (decide (x=y)):=nC.yG (by kernel_rfl) dA (GO x y (d:=9998)) rfl rfl
theorem GQ (x y:Token) {d:Nat}:dJ prog (d+2) 31 3 (aC x) (aC y) (decide (x=y)) :=
 (dJ.struct (d:=d+1) (rs:=[decide (x.Kind=y.Kind),decide (x.At=y.At),decide (x.S=y.S)]) bK Tryz.stoodInHeld31 Tryz.underlying31 (⟨by decide,⟨_,[.i x.Kind],[.i y.Kind],rfl,rfl,rfl,rfl,dJ.int bI Tryz.underlying3⟩,⟨by decide,⟨_,[.i x.At],[.i y.At],rfl,rfl,rfl,rfl,dJ.int bI Tryz.underlying3⟩,⟨by decide,⟨_,[.str x.S],[.str y.S],rfl,rfl,rfl,rfl,dJ.str b7 Tryz.underlying9⟩,trivial⟩⟩⟩) rfl).cast
  (by cases x;cases y;rw[Bool.eq_iff_iff];simp[Token.mk.injEq])
theorem Dr (x y:Token):nC prog 31 (aC x) (aC y) (decide (x=y)):=nC.yG (by kernel_rfl) bK (GQ x y (d:=9998)) rfl rfl
theorem goes64:bq prog 64:=⟨Tryz.call64⟩
theorem bO:jU prog 35 dL:=⟨⟨Tryz.t35,_,by kernel_rfl,rfl,rfl⟩⟩
theorem rT:jQ prog 35 [(0,1),(1,1),(2,16)] dL:=⟨⟨Tryz.t35,_,_,by kernel_rfl,rfl,rfl,Tryz.underlying35,by kernel_rfl⟩⟩
theorem aq:gV prog 35 18:=⟨⟨_,Tryz.underlying35,rfl⟩,⟨Tryz.t35,by kernel_rfl,by kernel_rfl⟩⟩
theorem aM:gV prog 33 16:=⟨⟨_,Tryz.underlying33,rfl⟩,⟨Tryz.t33,by kernel_rfl,by kernel_rfl⟩⟩
theorem iw:tW prog 33 1 (eW aZ.zero):=⟨⟨Tryz.t33,_,_,_,Tryz.t32,by kernel_rfl,rfl,rfl,Tryz.underlying33,by kernel_rfl,by kernel_rfl⟩⟩
theorem bn:ez prog 32:=⟨⟨_,Tryz.underlying32,rfl⟩,⟨Tryz.t32,by kernel_rfl,by kernel_rfl⟩⟩
theorem Ag (x y:aZ) {d:Nat}:dJ prog (d+2) 33 16 (eW x) (eW y) (decide (x=y)) :=
 (dJ.arr (l:=x.l) (l':=y.l) aM Tryz.underlying33 bn Tryz.underlying32).cast (by rw[Bool.eq_iff_iff];simp[aZ.zL])
theorem rO (x y:aZ):nC prog 33 (eW x) (eW y) (decide (x=y)):=nC.yG (by kernel_rfl) aM (Ag x y (d:=9998)) rfl rfl
theorem b6:Tryz.prog.underlying 54=some (.int .u64):=Tryz.underlying54
theorem bT:Tryz.prog.underlying 32=some (.int .u32):=Tryz.underlying32
theorem kV:bq prog 69:=⟨Tryz.call69⟩
theorem aY:cS prog 35 2 2 33:=⟨⟨_,_,Tryz.t33,Tryz.underlying35,rfl,rfl,rfl,by kernel_rfl,by decide⟩⟩
theorem my:cS prog 35 0 0 4:=⟨⟨_,_,Tryz.t4,Tryz.underlying35,rfl,rfl,rfl,by kernel_rfl,by decide⟩⟩
theorem cE:ez prog 4:=⟨⟨_,Tryz.underlying4,rfl⟩,⟨Tryz.t4,by kernel_rfl,by kernel_rfl⟩⟩
theorem bJ:cS prog 35 1 1 4:=⟨⟨_,_,Tryz.t4,Tryz.underlying35,rfl,rfl,rfl,by kernel_rfl,by decide⟩⟩
theorem und178:Tryz.prog.underlying 178=some (.slice 35):=Tryz.underlying178
theorem ly:lW prog 178 35 18 68 dL:=⟨Tryz.underlying178,⟨Tryz.t35,_,by kernel_rfl,rfl,rfl,rfl,rfl,by decide,rfl⟩⟩
theorem Df:bq prog 130:=⟨Tryz.call130⟩
theorem bH:l7 prog 33 32 16 1:=⟨Tryz.underlying33,⟨Tryz.t32,by kernel_rfl,by kernel_rfl⟩⟩
theorem me:bq prog 103:=⟨Tryz.call103⟩
theorem kW:bq prog 68:=⟨Tryz.call68⟩
theorem DL:jU prog 133 ((zG .u32) iK.zero):=⟨⟨Tryz.t133,_,by kernel_rfl,rfl,rfl⟩⟩
theorem pD:bq prog 104:=⟨Tryz.call104⟩
theorem qG:l7 prog 133 32 32 1:=⟨Tryz.underlying133,⟨Tryz.t32,by kernel_rfl,by kernel_rfl⟩⟩
theorem xG:Tryz.prog.underlying 4=some .bool:=Tryz.underlying4
theorem dt:jU prog 33 (eW aZ.zero):=⟨⟨Tryz.t33,_,by kernel_rfl,rfl,rfl⟩⟩
theorem C9:bq prog 170:=⟨Tryz.call170⟩
theorem goes148:bq prog 148:=⟨Tryz.call148⟩
theorem goes108:bq prog 108:=⟨Tryz.call108⟩
theorem Di:bq prog 109:=⟨Tryz.call109⟩
theorem za:bq prog 110:=⟨Tryz.call110⟩
theorem pa:bq prog 47:=⟨Tryz.call47⟩
theorem goes50:bq prog 50:=⟨Tryz.call50⟩
theorem Fk:bq prog 53:=⟨Tryz.call53⟩
theorem lM:jU prog 37 wh:=⟨⟨Tryz.t37,_,by kernel_rfl,rfl,rfl⟩⟩
theorem goes102:bq prog 102:=⟨Tryz.call102⟩
theorem oF:jQ prog 37 [(0,18),(18,18)] wh:=⟨⟨Tryz.t37,_,_,by kernel_rfl,rfl,rfl,Tryz.underlying37,by kernel_rfl⟩⟩
theorem dM:gV prog 37 36:=⟨⟨_,Tryz.underlying37,rfl⟩,⟨Tryz.t37,by kernel_rfl,by kernel_rfl⟩⟩
theorem C':bq prog 168:=⟨Tryz.call168⟩
theorem gm:l7 prog 183 32 17 1:=⟨Tryz.underlying183,⟨Tryz.t32,by kernel_rfl,by kernel_rfl⟩⟩
theorem goes139:bq prog 139:=⟨Tryz.call139⟩
theorem goes140:bq prog 140:=⟨Tryz.call140⟩
theorem Dd:bq prog 141:=⟨Tryz.call141⟩
theorem DK:jU prog 183 ((kn .u32) cL.zero):=⟨⟨Tryz.t183,_,by kernel_rfl,rfl,rfl⟩⟩
theorem tySl135:lW prog 135 32 1 4 [.int .u32 0]:=⟨Tryz.underlying135,⟨Tryz.t32,_,by kernel_rfl,rfl,rfl,rfl,rfl,by decide,rfl⟩⟩
theorem goes142:bq prog 142:=⟨Tryz.call142⟩
theorem goes143:bq prog 143:=⟨Tryz.call143⟩
theorem goes144:bq prog 144:=⟨Tryz.call144⟩
theorem goes145:bq prog 145:=⟨Tryz.call145⟩
theorem Dj:bq prog 105:=⟨Tryz.call105⟩
theorem Fm:bq prog 51:=⟨Tryz.call51⟩
theorem goes106:bq prog 106:=⟨Tryz.call106⟩
theorem goes169:bq prog 169:=⟨Tryz.call169⟩
theorem Fh:bq prog 75:=⟨Tryz.call75⟩
theorem Bw:bq prog 74:=⟨Tryz.call74⟩
theorem Dc:bq prog 146:=⟨Tryz.call146⟩
theorem goes147:bq prog 147:=⟨Tryz.call147⟩
theorem goes107:bq prog 107:=⟨Tryz.call107⟩
theorem Fi:bq prog 73:=⟨Tryz.call73⟩
theorem goes49:bq prog 49:=⟨Tryz.call49⟩
theorem Fl:bq prog 52:=⟨Tryz.call52⟩
theorem FB:bq prog 26:=⟨Tryz.call26⟩
theorem goes31:bq prog 31:=⟨Tryz.call31⟩
theorem goes32:bq prog 32:=⟨Tryz.call32⟩
theorem Fx:bq prog 33:=⟨Tryz.call33⟩
theorem goes34:bq prog 34:=⟨Tryz.call34⟩
theorem Fw:bq prog 35:=⟨Tryz.call35⟩
theorem goes28:bq prog 28:=⟨Tryz.call28⟩
theorem goes114:bq prog 114:=⟨Tryz.call114⟩
theorem goes55:bq prog 55:=⟨Tryz.call55⟩
theorem FC:bq prog 14:=⟨Tryz.call14⟩
theorem FD:bq prog 11:=⟨Tryz.call11⟩
theorem goes9:bq prog 9:=⟨Tryz.call9⟩
theorem goes23:bq prog 23:=⟨Tryz.call23⟩
theorem goes24:bq prog 24:=⟨Tryz.call24⟩
theorem Af (x y:bY) {d:Nat}:dJ prog (d+3) 35 18 (az x) (az y) (decide (x=y)) :=
 (dJ.struct (d:=d+2) (rs:=[x.Bad==y.Bad,x.Neg==y.Neg,decide (x.W=y.W)]) aq Tryz.stoodInHeld35 Tryz.underlying35 (⟨by decide,⟨_,[.bool x.Bad],[.bool y.Bad],rfl,rfl,rfl,rfl,(.bool cE Tryz.underlying4)⟩,⟨by decide,⟨_,[.bool x.Neg],[.bool y.Neg],rfl,rfl,rfl,rfl,(.bool cE Tryz.underlying4)⟩,⟨by decide,⟨_,(eW x.W),(eW y.W),rfl,rfl,rfl,rfl,Ag _ _⟩,trivial⟩⟩⟩) rfl).cast
  (by cases x;cases y;rw[Bool.eq_iff_iff];simp[bY.mk.injEq])
theorem GP (x y:s9) {d:Nat}:dJ prog (d+4) 37 36 (km x) (km y) (decide (x=y)) :=
 (dJ.struct (d:=d+3) (rs:=[decide (x.N=y.N),decide (x.D=y.D)]) dM Tryz.stoodInHeld37 Tryz.underlying37 (⟨by decide,⟨_,(az x.N),(az y.N),rfl,rfl,rfl,rfl,Af _ _⟩,⟨by decide,⟨_,(az x.D),(az y.D),rfl,rfl,rfl,rfl,Af _ _⟩,trivial⟩⟩) rfl).cast
  (by cases x;cases y;rw[Bool.eq_iff_iff];simp[s9.mk.injEq])
theorem Dq (x y:s9):nC prog 37 (km x) (km y) (decide (x=y)):=nC.yG (by kernel_rfl) dM (GP x y (d:=9996)) rfl rfl
theorem goes188:bq prog 188:=⟨Tryz.call188⟩
theorem mw:jU prog 164 [.i 0,.i 0,.str [],.i 0,.i 0]:=⟨⟨Tryz.t164,_,by kernel_rfl,rfl,rfl⟩⟩
theorem y9:bq prog 155:=⟨Tryz.call155⟩
theorem vZ:bq prog 157:=⟨Tryz.call157⟩
theorem fi:jQ prog 164 [(0,3),(3,1),(4,1)] [.i 0,.i 0,.str [],.i 0,.i 0]:=⟨⟨Tryz.t164,_,_,by kernel_rfl,rfl,rfl,Tryz.underlying164,by kernel_rfl⟩⟩
theorem ca:gV prog 164 5:=⟨⟨_,Tryz.underlying164,rfl⟩,⟨Tryz.t164,by kernel_rfl,by kernel_rfl⟩⟩
theorem goes177:bq prog 177:=⟨Tryz.call177⟩
theorem C8:bq prog 178:=⟨Tryz.call178⟩
theorem goes179:bq prog 179:=⟨Tryz.call179⟩
theorem goes156:bq prog 156:=⟨Tryz.call156⟩
theorem goes158:bq prog 158:=⟨Tryz.call158⟩
theorem goes159:bq prog 159:=⟨Tryz.call159⟩
theorem goes160:bq prog 160:=⟨Tryz.call160⟩
theorem x5:jU prog 102 [.nil,.i 0,.i 0]:=⟨⟨Tryz.t102,_,by kernel_rfl,rfl,rfl⟩⟩
theorem sW:jQ prog 102 [(0,1),(1,2)] [.nil,.i 0,.i 0]:=⟨⟨Tryz.t102,_,_,by kernel_rfl,rfl,rfl,Tryz.underlying102,by kernel_rfl⟩⟩
theorem mN:gV prog 102 3:=⟨⟨_,Tryz.underlying102,rfl⟩,⟨Tryz.t102,by kernel_rfl,by kernel_rfl⟩⟩
theorem Dg:bq prog 121:=⟨Tryz.call121⟩
theorem goes122:bq prog 122:=⟨Tryz.call122⟩
theorem xf:cS prog 164 2 4 24:=⟨⟨_,_,Tryz.t24,Tryz.underlying164,rfl,rfl,rfl,by kernel_rfl,by decide⟩⟩
theorem BT:cS prog 164 0 0 31:=⟨⟨_,_,Tryz.t31,Tryz.underlying164,rfl,rfl,rfl,by kernel_rfl,by decide⟩⟩
theorem BS:cS prog 164 1 3 3:=⟨⟨_,_,Tryz.t3,Tryz.underlying164,rfl,rfl,rfl,by kernel_rfl,by decide⟩⟩
theorem Fy:bq prog 30:=⟨Tryz.call30⟩
theorem goes62:bq prog 62:=⟨Tryz.call62⟩
theorem BW:cS prog 102 1 1 46:=⟨⟨_,_,Tryz.t46,Tryz.underlying102,rfl,rfl,rfl,by kernel_rfl,by decide⟩⟩
theorem DM:cS prog 46 1 1 24:=⟨⟨_,_,Tryz.t24,Tryz.underlying46,rfl,rfl,rfl,by kernel_rfl,by decide⟩⟩
theorem sV:cS prog 102 0 0 22:=⟨⟨_,_,Tryz.t22,Tryz.underlying102,rfl,rfl,rfl,by kernel_rfl,by decide⟩⟩
theorem zQ:jU prog 28 [.str [],.i 0]:=⟨⟨Tryz.t28,_,by kernel_rfl,rfl,rfl⟩⟩
theorem Fz:bq prog 29:=⟨Tryz.call29⟩
theorem uF:jQ prog 28 [(0,1),(1,1)] [.str [],.i 0]:=⟨⟨Tryz.t28,_,_,by kernel_rfl,rfl,rfl,Tryz.underlying28,by kernel_rfl⟩⟩
theorem pj:gV prog 28 2:=⟨⟨_,Tryz.underlying28,rfl⟩,⟨Tryz.t28,by kernel_rfl,by kernel_rfl⟩⟩
theorem fZ:Tryz.prog.underlying 120=some (.slice 3):=Tryz.underlying120
theorem cZ:lW prog 120 3 1 8 [.i 0]:=⟨Tryz.underlying120,⟨Tryz.t3,_,by kernel_rfl,rfl,rfl,rfl,rfl,by decide,rfl⟩⟩
theorem pC:bq prog 131:=⟨Tryz.call131⟩
theorem qx:bq prog 80:=⟨Tryz.call80⟩
theorem nJ:bq prog 132:=⟨Tryz.call132⟩
theorem n3:bq prog 76:=⟨Tryz.call76⟩
theorem Bu:bq prog 77:=⟨Tryz.call77⟩
theorem goes133:bq prog 133:=⟨Tryz.call133⟩
theorem kv:bq prog 79:=⟨Tryz.call79⟩
theorem qy:bq prog 78:=⟨Tryz.call78⟩
theorem Ff:bq prog 84:=⟨Tryz.call84⟩
theorem pb:bq prog 36:=⟨Tryz.call36⟩
theorem lZ:bq prog 81:=⟨Tryz.call81⟩
theorem Fe:bq prog 85:=⟨Tryz.call85⟩
theorem Fg:bq prog 82:=⟨Tryz.call82⟩
theorem yK:bq prog 83:=⟨Tryz.call83⟩
theorem goes134:bq prog 134:=⟨Tryz.call134⟩
theorem vY:bq prog 166:=⟨Tryz.call166⟩
theorem goes135:bq prog 135:=⟨Tryz.call135⟩
theorem De:bq prog 136:=⟨Tryz.call136⟩
theorem goes137:bq prog 137:=⟨Tryz.call137⟩
theorem Fc:bq prog 86:=⟨Tryz.call86⟩
theorem goes87:bq prog 87:=⟨Tryz.call87⟩
theorem goes88:bq prog 88:=⟨Tryz.call88⟩
theorem goes89:bq prog 89:=⟨Tryz.call89⟩
theorem Fb:bq prog 90:=⟨Tryz.call90⟩
theorem zP:jU prog 41 (.bool false::.bool false::(eW aZ.zero++(.bool false::.bool false::(eW aZ.zero++([.i 0]))))):=⟨⟨Tryz.t41,_,by kernel_rfl,rfl,rfl⟩⟩
theorem x7:jQ prog 41 [(0,36),(36,1)] (.bool false::.bool false::(eW aZ.zero++(.bool false::.bool false::(eW aZ.zero++([.i 0]))))):=⟨⟨Tryz.t41,_,_,by kernel_rfl,rfl,rfl,Tryz.underlying41,by kernel_rfl⟩⟩
theorem tp:gV prog 41 37:=⟨⟨_,Tryz.underlying41,rfl⟩,⟨Tryz.t41,by kernel_rfl,by kernel_rfl⟩⟩
theorem Fv:bq prog 38:=⟨Tryz.call38⟩
theorem goes37:bq prog 37:=⟨Tryz.call37⟩
theorem goes39:bq prog 39:=⟨Tryz.call39⟩
theorem goes8:bq prog 8:=⟨Tryz.call8⟩
theorem goes10:bq prog 10:=⟨Tryz.call10⟩
theorem DQ:cS prog 28 0 0 9:=⟨⟨_,_,Tryz.t9,Tryz.underlying28,rfl,rfl,rfl,by kernel_rfl,by decide⟩⟩
theorem DP:cS prog 28 1 1 24:=⟨⟨_,_,Tryz.t24,Tryz.underlying28,rfl,rfl,rfl,by kernel_rfl,by decide⟩⟩
theorem goes12:bq prog 12:=⟨Tryz.call12⟩
theorem DN:cS prog 41 1 36 24:=⟨⟨_,_,Tryz.t24,Tryz.underlying41,rfl,rfl,rfl,by kernel_rfl,by decide⟩⟩
theorem DO:cS prog 41 0 0 37:=⟨⟨_,_,Tryz.t37,Tryz.underlying41,rfl,rfl,rfl,by kernel_rfl,by decide⟩⟩
def jy (F:Nat) (s0:Str) (c0:Int):Option Str:=vT s0 c0
theorem r7 {F:Nat} {s0:Str} {c0:Int} {r:Str} (h:jy F s0 c0=some r):ax prog (bd mx) 34 [] [.one (.str s0),.one (.i c0)] (Is [] (.b (.one (.str r)))):=zr Tryz.lays105 Tryz.uq h
def kO (F:Nat) (l0:List Str) (s0:Str):Option Str:=CB l0 s0
theorem uk {F:Nat} {l0:List Str} {s0 r:Str} (h:kO F l0 s0=some r):ax prog (bd mx) 28 [] [.one (.sl 1 (l0.map eS)),.one (.str s0)] (Is [] (.b (.one (.str r)))):=Cg Tryz.lays156 Tryz.uo h
def gG (F:Nat) (s0:Str) (p0:Str):Option Bool:=some (Lib.hasPrefix s0 p0)
theorem pZ {F:Nat} {s0 p0:Str} {r:Bool} (h:gG F s0 p0=some r):ax prog (bd mx) 71 [] [.one (.str s0),.one (.str p0)] (Is [] (B r)):=vK Tryz.lays99 h
def lB (F:Nat) (s0:Str) (p0:Str):Option (Str×Str×Bool):=cut? s0 p0
theorem uY {F:Nat} {s0 p0:Str} {r:Str×Str×Bool} (h:lB F s0 p0=some r):ax prog (bd mx) 31 [] [.one (.str s0),.one (.str p0)] (Is [] (.gS [.one (.str r.1),.one (.str r.2.1),.one (.bool r.2.2)])):=Ei Tryz.GF (m:=mx) (by simp[bd,Tryz.ug]) h
def ll (F:Nat) (s0:Str) (c0:Int):Option Int:=s4 s0 c0
theorem r8 {F:Nat} {s0:Str} {c0 r:Int} (h:ll F s0 c0=some r):ax prog (bd mx) 138 [] [.one (.str s0),.one (.int .u8 c0)] (Is [] (I r)):=vJ Tryz.lays217 h
def gj (F:Nat) (s0:Str) (p0:Str):Option Int:=BC s0 p0
theorem mZ {F:Nat} {s0 p0:Str} {r:Int} (h:gj F s0 p0=some r):ax prog (bd mx) 54 [] [.one (.str s0),.one (.str p0)] (Is [] (I r)):=AP Tryz.lays138 h
def pX (F:Nat):Option Unit :=
 some ()
theorem vM {F:Nat} {r:Unit} (h:pX F=some r):ax prog (bd mx) 185 [] [.one (.bool true)] (Is [] (.b (.one (.int .u32 1)))):=by
 unfold pX at h
 refine ax.intro 4 Tryz.func185 Tryz.ntmps185 rfl (by simp) fun E=>(ab.seq (ab.aa ?_))
 refine Oc oa (ae.ag ⟨[(0,B true)],[]⟩ rfl (ab.seq (ab.seq (ab.aa ?_))))
 refine Oc om (ae.ag ⟨[(3,B true)],[]⟩ rfl (ab.oh rfl (ab.seq (ab.aa ?_))))
 refine Oc oa (ae.ag ⟨[(2,.b (.one (.int .u32 1)))],[]⟩ rfl (ab.ret (Fin.ay ?_)))
 obtain rfl:=zaa h
 refine Fin.af ⟨[(2,_)],[]⟩ rfl (Fin.au [.one (.int .u32 1)] (.inl rfl) rfl (.cons (.tmp rfl) .nil) ⟨rfl,rfl⟩)
def lE (F:Nat) (st:Int) (se:Int) (c3:CP) (c4:CP):Option Unit :=
 some ()
theorem oO {F:Nat} {st se:Int} {c3 c4:CP} {r:Unit} (h:lE F st se c3 c4=some r):ax prog (bd mx) 150 [(1,.box 159 [.int .u32 0,.int .i32 st,.int .u32 se,c3,c4])] [.ptr 1 0] (Is [(1,.box 159 [.int .u32 0,.int .i32 st,.int .u32 se,c3,c4])] (.b (.one (.bool false)))):=by
 unfold lE at h
 refine ax.intro 8 Tryz.func150 Tryz.ntmps150 rfl (by simp) fun E=>(ab.seq (ab.aa ?_))
 refine Oc oa (ae.ag ⟨[(0,Pt 1 0)],[(1,.box 159 [.int .u32 0,.int .i32 st,.int .u32 se,c3,c4])]⟩ rfl (ab.seq (ab.aa ?_)))
 refine Oc om (Oc (aB rfl) (Oc (aj xk rfl rfl) (Oc (Gs ext171 rfl rfl rfl) (Oc (dd rfl rfl) (Oc oa (ae.ag ⟨[(2,B false)],[(1,_)]⟩ rfl (ab.ret ?_)))))))
 obtain rfl:=zaa h
 refine Fin.af ⟨[(2,_)],[(1,_)]⟩ rfl ?_
 exact Fin.result [.one (.bool false)] (.inl rfl) rfl (.cons (.tmp rfl) .nil) ⟨rfl,rfl⟩
def rm (F:Nat) (d:Int) (st:Int) (se:Int) (c3:CP) (c4:CP):Option Unit :=
 (pX F).bind fun a=>some ()
theorem s6 {F:Nat} {d st se:Int} {c3 c4:CP} {r:Unit} (h:rm F d st se c3 c4=some r):sR prog (bd mx) 174 [(1,.box 159 [.int .u32 d,.int .i32 st,.int .u32 se,c3,c4])] [.ptr 1 0,.one (.bool true)] [(1,.box 159 [.int .u32 1,.int .i32 st,.int .u32 se,c3,c4])]:=by
 unfold rm at h
 refine sR.intro 10 Tryz.func174 Tryz.ntmps174 rfl (by simp) fun E=>(ab.af ⟨[(0,Pt 1 0),(1,B true)],[(1,.box 159 [.int .u32 d,.int .i32 st,.int .u32 se,c3,c4])]⟩ rfl ?_)
 obtain⟨a,e1,h⟩:=aH h
 refine ab.jH mixed 5 [Pt 1 0,Pt 1 0,Pt 1 0,B true,.b (.one (.int .u32 1))] [] [1] (s':=⟨[],[(1,.box 159 [.int .u32 1,.int .i32 st,.int .u32 se,c3,c4])]⟩) rfl ⟨fun _=>.p om,fun _=>.p (aB rfl),fun _=>.p (aj xk rfl rfl),fun _=>.p om,fun _=>.p (ah (vM e1) goes185 rfl rfl),trivial⟩ ⟨_,by exact .p (Eb ext184 rfl rfl rfl rfl rfl),rfl⟩ rfl ?_
 obtain rfl:=zaa h
 refine Fin.af ⟨[],[(1,_)]⟩ rfl ?_
 exact Fin.result [] (.inr rfl) rfl (.nil) ⟨rfl,rfl⟩
def pT (F:Nat) (d:Int) (se:Int) (c3:CP) (c4:CP):Option Unit :=
 Option.bind (some ()) (fun _=>some ())
theorem vL {F:Nat} {d se:Int} {c3 c4:CP} {r:Unit} (h:pT F d se c3 c4=some r):ax prog (bd mx) 182 [(1,.box 159 [.int .u32 d,.int .i32 0,.int .u32 se,c3,c4])] [.ptr 1 1] (Is [(1,.box 159 [.int .u32 d,.int .i32 1,.int .u32 se,c3,c4])] (.gS [])):=by
 unfold pT at h
 refine ax.intro 13 Tryz.func182 Tryz.ntmps182 rfl (by simp) fun E=>(ab.seq (ab.aa ?_))
 refine Oc (tO FH) (ae.ag ⟨[(0,Pt 1 1)],[(1,.box 159 [.int .u32 d,.int .i32 0,.int .u32 se,c3,c4])]⟩ rfl (ab.seq (ab.seq (ab.aa ?_))))
 refine Oc om (Oc (aB rfl) (Oc (aj sU rfl rfl) (Oc (op_cas ext190 rfl rfl rfl rfl rfl rfl) (ae.ag ⟨[(0,_),(6,B true)],[(1,.box 159 [.int .u32 d,.int .i32 1,.int .u32 se,c3,c4])]⟩ rfl (ab.oh rfl ?_)))))
 obtain⟨v1,h2,h⟩:=aH h
 refine ab.bR (v:=v1) (fun (_:Unit)=>⟨[],[(1,.box 159 [.int .u32 d,.int .i32 1,.int .u32 se,c3,c4])]⟩) (fun z=>z) ?_ ?_
 refine ab.FQ (ab.seq (ab.aa ?_))
 refine Oc (tO FG) (ae.ag ⟨[(0,_)],[(1,_)]⟩ rfl (ab.aa (Oc om (Oc (yc Tryz.underlying233 Tryz.underlying192 (by kernel_rfl) rfl rfl rfl) (Oc (yd ext192 rfl) (ae.nil ?_))))))
 exact Fin.join [] [1] () (zaa h2) rfl
 rintro _ hv
 subst v1
 refine ab.ret (Fin.ay ?_)
 obtain rfl:=zaa h
 refine Fin.af ⟨[],[(1,_)]⟩ rfl ?_
 exact Fin.result [] (.inl rfl) rfl (.nil) ⟨rfl,rfl⟩
def qW (F:Nat) (d:Int) (se:Int) (c3:CP) (c4:CP):Option Unit :=
 (pT F d se c3 c4).bind fun a=>some ()
theorem xC {F:Nat} {d se:Int} {c3 c4:CP} {r:Unit} (h:qW F d se c3 c4=some r):ax prog (bd mx) 172 [(1,.box 159 [.int .u32 d,.int .i32 0,.int .u32 se,c3,c4])] [.ptr 1 1] (Is [(1,.box 159 [.int .u32 d,.int .i32 1,.int .u32 se,c3,c4])] (.gS [])):=by
 unfold qW at h
 refine ax.intro 6 Tryz.func172 Tryz.ntmps172 rfl (by simp) fun E=>(ab.aa (Oc om (Oc (aB rfl) (Oc (aj xj rfl rfl) ?_))))
 obtain⟨a,e1,h⟩:=aH h
 refine Oc (cK (own_a:=[(1,_)]) (vL e1) goes182 rfl ⟨rfl,trivial⟩ rfl rfl) (ae.nil ?_)
 obtain rfl:=zaa h
 refine Fin.af ⟨[],[(1,.box 159 [.int .u32 d,.int .i32 1,.int .u32 se,c3,c4])]⟩ rfl ?_
 exact Fin.result [] (.inr rfl) rfl (.nil) ⟨rfl,rfl⟩
def mY (F:Nat) (d:Int) (se:Int) (c3:CP) (c4:CP):Option Unit :=
 Option.bind (some ()) (fun _=>Option.bind (some ()) (fun _=>some ()))
theorem um {F:Nat} {d se:Int} {c3 c4:CP} {r:Unit} (h:mY F d se c3 c4=some r):ax prog (bd mx) 183 [(1,.box 159 [.int .u32 d,.int .i32 1,.int .u32 se,c3,c4])] [.ptr 1 1] (Is [(1,.box 159 [.int .u32 d,.int .i32 0,.int .u32 se,c3,c4])] (.gS [])):=by
 unfold mY at h
 refine ax.intro 21 Tryz.func183 Tryz.ntmps183 rfl (by simp) fun E=>?_
 obtain⟨v1,h2,h⟩:=aH h
 refine ab.bR (v:=v1) (fun (_:Unit)=>⟨[(0,Pt 1 1)],[(1,.box 159 [.int .u32 d,.int .i32 1,.int .u32 se,c3,c4])]⟩) (fun z=>z) ?_ ?_
 refine ab.FQ (ab.seq (ab.aa ?_))
 refine Oc om (Oc (aB rfl) (Oc (aj sU rfl rfl) (Oc (ao tyOne21 rfl rfl rfl) (ae.ag ⟨[(0,Pt 1 1)],[(1,.box 159 [.int .u32 d,.int .i32 1,.int .u32 se,c3,c4])]⟩ rfl (ab.seq (ab.aa ?_))))))
 refine Oc om (Oc (yc Tryz.underlying233 Tryz.underlying192 (by kernel_rfl) rfl rfl rfl) (Oc (yd ext194 rfl) (ae.ag ⟨[(0,_)],[(1,_)]⟩ rfl (ab.aa (Oc (tO FH) (ae.nil ?_))))))
 exact Fin.join [0] [1] () (zaa h2) rfl
 rintro _ hv
 subst v1
 refine ab.seq (ab.aa ?_)
 refine Oc om (Oc (aB rfl) (Oc (aj sU rfl rfl) (Oc (op_aadd ext195 rfl rfl rfl rfl (r:=0) rfl ⟨by decide,by decide⟩ rfl) (Oc oa (ae.ag ⟨[(0,_),(2,.b (.one (.int .i32 0)))],[(1,.box 159 [.int .u32 d,.int .i32 0,.int .u32 se,c3,c4])]⟩ rfl ?_)))))
 obtain⟨v3,h4,h⟩:=aH h
 refine ab.bR (v:=v3) (fun (_:Unit)=>⟨[],[(1,.box 159 [.int .u32 d,.int .i32 0,.int .u32 se,c3,c4])]⟩) (fun z=>z) ?_ ?_
 refine ab.seq (ab.aa ?_)
 refine Oc om (Oc (dd rfl rfl) (ae.ag ⟨[(0,_),(2,_),(16,B false)],[(1,_)]⟩ rfl (ab.wC rfl (ab.skip ?_))))
 exact Fin.join [] [1] () (zaa h4) rfl
 rintro _ hv
 subst v3
 refine ab.aa (Oc (tO FG) (ae.nil ?_))
 obtain rfl:=zaa h
 refine Fin.af ⟨[],[(1,_)]⟩ rfl ?_
 exact Fin.result [] (.inr rfl) rfl (.nil) ⟨rfl,rfl⟩
def sr (F:Nat) (d:Int) (se:Int) (c3:CP) (c4:CP):Option Unit :=
 (mY F d se c3 c4).bind fun a=>some ()
theorem uj {F:Nat} {d se:Int} {c3 c4:CP} {r:Unit} (h:sr F d se c3 c4=some r):sR prog (bd mx) 173 [(1,.box 159 [.int .u32 d,.int .i32 1,.int .u32 se,c3,c4])] [.ptr 1 1] [(1,.box 159 [.int .u32 d,.int .i32 0,.int .u32 se,c3,c4])]:=by
 unfold sr at h
 refine sR.intro 6 Tryz.func173 Tryz.ntmps173 rfl (by simp) fun E=>(ab.aa (Oc om (Oc (aB rfl) (Oc (aj xj rfl rfl) ?_))))
 obtain⟨a,e1,h⟩:=aH h
 refine Oc (cK (own_a:=[(1,_)]) (um e1) goes183 rfl ⟨rfl,trivial⟩ rfl rfl) (ae.nil ?_)
 obtain rfl:=zaa h
 refine Fin.af ⟨[],[(1,.box 159 [.int .u32 d,.int .i32 0,.int .u32 se,c3,c4])]⟩ rfl ?_
 exact Fin.result [] (.inr rfl) rfl (.nil) ⟨rfl,rfl⟩
def lr (F:Nat) (se:Int):Option Unit :=
 Option.bind (Option.bind (some ()) (fun _=>Option.bind (some ()) (fun _=>some ()))) (fun _=>Option.bind (some ()) (fun _=>Option.bind (Option.bind (Option.bind (some ()) (fun _=>some ())) (fun _=>Option.bind (Option.bind (some ()) (fun _=>some ())) (fun _=>some ()))) (fun _=>some ())))
theorem sd {F:Nat} {se:Int} {r:Unit} (h:lr F se=some r):ax prog (bd mx) 152 [(1,.box 159 [.int .u32 0,.int .i32 1,.int .u32 se,.raw .nilIface,.sl 1 ([[92],[92,92],[34],[92,34]].map eS)])] [.ptr 1 0] (Is [(1,.box 159 [.int .u32 0,.int .i32 1,.int .u32 se,.raw .nilIface,.sl 1 ([[92],[92,92],[34],[92,34]].map eS)])] (.b (.one (.yA 212 (fY c6 [.sl 1 ([toStr [34],toStr [92]].map eS)]))))):=by
 unfold lr at h
 refine ax.intro 132 Tryz.func152 Tryz.ntmps152 rfl (by simp) fun E=>(ab.seq (ab.aa ?_))
 refine Oc (Gm) (ae.ag ⟨[(0,Pt 1 0)],[(1,.box 159 [.int .u32 0,.int .i32 1,.int .u32 se,.raw .nilIface,.sl 1 ([[92],[92,92],[34],[92,34]].map eS)])]⟩ rfl (ab.seq (ab.aa ?_)))
 refine Oc om (Oc (aB rfl) (Oc (aj xg rfl rfl) (Oc (ao nG rfl rfl rfl) (Oc oa (ae.ag ⟨[(3,.b (.one (.sl 1 ([[92],[92,92],[34],[92,34]].map eS))))],[(1,_)]⟩ rfl (ab.seq (ab.seq (ab.aa ?_))))))))
 refine Oc om (Oc (ba nB rfl (List.length_map _)) (Oc (b8 rfl rfl) (Oc om ?_)))
 refine cH false [] (fun g1=>trivial) (fun g1=>om) (cH false [23] (fun g2=>by exact⟨g2,trivial⟩) (fun g2=>bm dX (aR (show aS [[92],[92,92],[34],[92,34]] 0=some [92] from rfl)) (cu (e:=eS) (show aS [[92],[92,92],[34],[92,34]] 0=some [92] from rfl)) rfl rfl) (ae.af ⟨[(3,_),(22,B false),(24,.opt false (.dc [.str [92]]))],[(1,_)]⟩ rfl (cH false [24] (fun g3=>by exact⟨g3,trivial⟩) (fun g3=>bg b7 rfl rfl) (cH false [25] (fun g4=>by exact⟨g4,trivial⟩) (fun g4=>bh cb rfl) (cH false [26] (fun g5=>by exact⟨g5,trivial⟩) (fun g5=>dy rfl rfl) ?_)))))
 refine Oc (aD (fun e=>e) rfl rfl rfl rfl) (ae.ag ⟨[(3,_),(28,B false)],[(1,_)]⟩ rfl (ab.wC rfl (ab.skip (Fin.af ⟨[(3,_)],[(1,_)]⟩ rfl (Fin.then (ab.seq (ab.aa ?_)))))))
 refine Oc oa (ae.ag ⟨[(3,_),(4,B true)],[(1,_)]⟩ rfl ?_)
 obtain⟨v6,h7,h⟩:=aH h
 refine ab.bR (v:=v6) (fun (_:Unit)=>⟨[(3,.b (.one (.sl 1 ([[92],[92,92],[34],[92,34]].map eS)))),(4,B false)],[(1,.box 159 [.int .u32 0,.int .i32 1,.int .u32 se,.raw .nilIface,.sl 1 ([[92],[92,92],[34],[92,34]].map eS)])]⟩) (fun z=>z) ?_ ?_
 refine ab.seq (ab.aa ?_)
 refine Oc oa (ae.ag ⟨[(3,_),(4,_),(5,I 0)],[(1,_)]⟩ rfl (ab.block (ab.loopN 12 (ab.seq (ab.seq (ab.aa ?_))))))
 refine Oc om (Oc om (Oc (ba nB rfl (List.length_map _)) (Oc (bt rfl rfl) (ae.ag ⟨[(3,_),(4,_),(5,_),(40,B true)],[(1,_)]⟩ rfl (ab.oh rfl (ab.skip (Fin.af ⟨[(3,_),(4,_),(5,_)],[(1,_)]⟩ rfl (Fin.then ?_))))))))
 obtain⟨v8,h9,h7⟩:=aH h7
 refine ab.bR (v:=v8) (fun (_:Unit)=>⟨[(3,.b (.one (.sl 1 ([[92],[92,92],[34],[92,34]].map eS)))),(4,B false),(5,I 0)],[(1,.box 159 [.int .u32 0,.int .i32 1,.int .u32 se,.raw .nilIface,.sl 1 ([[92],[92,92],[34],[92,34]].map eS)])]⟩) (fun z=>z) ?_ ?_
 refine ab.block (ab.seq (ab.seq (ab.aa ?_)))
 refine Oc om (Oc om (Oc (bm dX (aR (show aS [[92],[92,92],[34],[92,34]] 0=some [92] from rfl)) (cu (e:=eS) (show aS [[92],[92,92],[34],[92,34]] 0=some [92] from rfl)) rfl rfl) (Oc (bg b7 rfl rfl) (Oc (bh cb rfl) (Oc (dd rfl rfl) (ae.ag ⟨[(3,_),(4,_),(5,_),(48,B false)],[(1,_)]⟩ rfl (ab.wC rfl (ab.skip (Fin.af ⟨[(3,_),(4,_),(5,_)],[(1,_)]⟩ rfl (Fin.then (ab.seq (ab.aa ?_))))))))))))
 refine Oc om (Oc om (Oc (aL rfl rfl) (Oc (bm dX (aR (show aS [[92],[92,92],[34],[92,34]] 1=some [92,92] from rfl)) (cu (e:=eS) (show aS [[92],[92,92],[34],[92,34]] 1=some [92,92] from rfl)) rfl rfl) (Oc (bg b7 rfl rfl) (Oc (bh cb rfl) ?_)))))
 refine Oc (dd rfl rfl) (ae.ag ⟨[(3,_),(4,_),(5,_),(58,B true)],[(1,_)]⟩ rfl (ab.oh rfl (ab.aa (Oc oa (ae.nil (Fin.aA ?_))))))
 exact Fin.join [3,4,5] [1] () (zaa h9) rfl
 rintro _ hv
 subst v8
 refine ab.aa (Oc om (Oc (aL rfl rfl) (Oc oa (ae.nil (Fin.af ⟨[(3,_),(4,_),(5,I 2)],[(1,_)]⟩ rfl (Fin.round (ab.seq (ab.seq (ab.aa ?_)))))))))
 refine Oc om (Oc om (Oc (ba nB rfl (List.length_map _)) (Oc (bt rfl rfl) (ae.ag ⟨[(3,_),(4,_),(5,_),(40,B true)],[(1,_)]⟩ rfl (ab.oh rfl (ab.skip (Fin.af ⟨[(3,_),(4,_),(5,_)],[(1,_)]⟩ rfl (Fin.then ?_))))))))
 obtain⟨v10,h11,h7⟩:=aH h7
 refine ab.bR (v:=v10) (fun (_:Unit)=>⟨[(3,.b (.one (.sl 1 ([[92],[92,92],[34],[92,34]].map eS)))),(4,B false),(5,I 2)],[(1,.box 159 [.int .u32 0,.int .i32 1,.int .u32 se,.raw .nilIface,.sl 1 ([[92],[92,92],[34],[92,34]].map eS)])]⟩) (fun z=>z) ?_ ?_
 refine ab.block (ab.seq (ab.seq (ab.aa ?_)))
 refine Oc om (Oc om (Oc (bm dX (aR (show aS [[92],[92,92],[34],[92,34]] 2=some [34] from rfl)) (cu (e:=eS) (show aS [[92],[92,92],[34],[92,34]] 2=some [34] from rfl)) rfl rfl) (Oc (bg b7 rfl rfl) (Oc (bh cb rfl) (Oc (dd rfl rfl) (ae.ag ⟨[(3,_),(4,_),(5,_),(48,B false)],[(1,_)]⟩ rfl (ab.wC rfl (ab.skip (Fin.af ⟨[(3,_),(4,_),(5,_)],[(1,_)]⟩ rfl (Fin.then (ab.seq (ab.aa ?_))))))))))))
 refine Oc om (Oc om (Oc (aL rfl rfl) (Oc (bm dX (aR (show aS [[92],[92,92],[34],[92,34]] 3=some [92,34] from rfl)) (cu (e:=eS) (show aS [[92],[92,92],[34],[92,34]] 3=some [92,34] from rfl)) rfl rfl) (Oc (bg b7 rfl rfl) (Oc (bh cb rfl) ?_)))))
 refine Oc (dd rfl rfl) (ae.ag ⟨[(3,_),(4,_),(5,_),(58,B true)],[(1,_)]⟩ rfl (ab.oh rfl (ab.aa (Oc oa (ae.nil (Fin.aA ?_))))))
 exact Fin.join [3,4,5] [1] () (zaa h11) rfl
 rintro _ hv
 subst v10
 refine ab.aa (Oc om (Oc (aL rfl rfl) (Oc oa (ae.nil (Fin.af ⟨[(3,_),(4,_),(5,I 4)],[(1,_)]⟩ rfl (Fin.round (ab.seq (ab.seq (ab.aa ?_)))))))))
 refine Oc om (Oc om (Oc (ba nB rfl (List.length_map _)) (Oc (bt rfl rfl) (ae.ag ⟨[(3,_),(4,_),(5,_),(40,B false)],[(1,_)]⟩ rfl (ab.wC rfl (ab.exit (Fin.aw (Fin.aw (Fin.aJ ?_)))))))))
 exact Fin.join [3,4] [1] () (zaa h7) rfl
 rintro _ hv
 subst v6
 obtain⟨v12,h13,h⟩:=aH h
 refine ab.bR (v:=v12) (fun (_:Unit)=>⟨[(3,.b (.one (.sl 1 ([[92],[92,92],[34],[92,34]].map eS))))],[(1,.box 159 [.int .u32 0,.int .i32 1,.int .u32 se,.raw .nilIface,.sl 1 ([[92],[92,92],[34],[92,34]].map eS)])]⟩) (fun z=>z) ?_ ?_
 refine ab.seq (ab.aa ?_)
 refine Oc om (ae.ag ⟨[(3,_),(59,B false)],[(1,_)]⟩ rfl (ab.wC rfl (ab.skip ?_)))
 exact Fin.join [3] [1] () (zaa h13) rfl
 rintro _ hv
 subst v12
 refine ab.seq (ab.aa ?_)
 refine Oc om (Oc (ba nB rfl (List.length_map _)) (Oc (fv (show ma .i64 4 2=some 2 from rfl) rfl rfl) (Oc (mn (k:=101) (enc:=eS) dX (show mk? ([]:Str) 0 2=some [] from rfl) (by decide) (.cons .refl .nil) rfl rfl rfl) (Oc (Cd BX rfl rfl) (Oc (aF (k:=102) DJ rfl) (ae.Ez 102 rfl (Oc (vq F3 rfl rfl rfl rfl rfl (zab rfl) rfl) (ae.ag ⟨[(3,.b (.one (.sl 1 ([[92],[92,92],[34],[92,34]].map eS)))),(11,Pt 102 0)],[(1,.box 159 [.int .u32 0,.int .i32 1,.int .u32 se,.raw .nilIface,.sl 1 ([[92],[92,92],[34],[92,34]].map eS)]),(101,.row 9 1 ([].map eS)),(102,.bD 211 (List.replicate 256 (BV.one CP.nil)++[.row 101]))]⟩ rfl ?_))))))))
 obtain⟨v14,h15,h⟩:=aH h
 refine ab.bR (v:=v14) (fun (_:Unit)=>⟨[(11,Pt 102 0)],[(1,.box 159 [.int .u32 0,.int .i32 1,.int .u32 se,.raw .nilIface,.sl 1 ([[92],[92,92],[34],[92,34]].map eS)]),(101,.row 9 1 ([toStr [34],toStr [92]].map eS)),(102,.bD 211 (((List.replicate 256 (BV.one CP.nil)).set 34 (.one (.sl 1 ((ofStr [92,34]).map (eK .u8))))).set 92 (.one (.sl 1 ((ofStr [92,92]).map (eK .u8))))++[.row 101]))]⟩) (fun z=>z) ?_ ?_
 refine ab.seq (ab.aa ?_)
 refine Oc om (Oc (ba nB rfl (List.length_map _)) (Oc (bW rfl rfl) (Oc oa (ae.ag ⟨[(3,_),(11,_),(12,I 2)],[(1,_),(101,_),(102,_)]⟩ rfl (ab.block (ab.loopN 12 (ab.seq (ab.seq (ab.aa ?_)))))))))
 refine Oc om (Oc (gf rfl rfl) (ae.ag ⟨[(3,_),(11,_),(12,_),(100,B true)],[(1,_),(101,_),(102,_)]⟩ rfl (ab.oh rfl (ab.skip (Fin.af ⟨[(3,_),(11,_),(12,_)],[(1,_),(101,_),(102,_)]⟩ rfl (Fin.then ?_))))))
 obtain⟨v16,h17,h15⟩:=aH h15
 refine ab.bR (v:=v16) (fun (_:Unit)=>⟨[(3,.b (.one (.sl 1 ([[92],[92,92],[34],[92,34]].map eS)))),(11,Pt 102 0),(12,I 2)],[(1,.box 159 [.int .u32 0,.int .i32 1,.int .u32 se,.raw .nilIface,.sl 1 ([[92],[92,92],[34],[92,34]].map eS)]),(101,.row 9 1 ([toStr [34]].map eS)),(102,.bD 211 ((List.replicate 256 (BV.one CP.nil)).set 34 (.one (.sl 1 ((ofStr [92,34]).map (eK .u8))))++[.row 101]))]⟩) (fun z=>z) ?_ ?_
 refine ab.block (ab.seq (ab.aa ?_))
 refine Oc om (Oc om (Oc (bm dX (aR (show aS [[92],[92,92],[34],[92,34]] 2=some [34] from rfl)) (cu (e:=eS) (show aS [[92],[92,92],[34],[92,34]] 2=some [34] from rfl)) rfl rfl) (Oc (bg b7 rfl rfl) (Oc (aV cb rfl rfl (aR (show aS ([34]:Str) 0=some 34 from rfl)) (cF (show aS ([34]:Str) 0=some 34 from rfl))) (Oc oa (ae.ag ⟨[(3,_),(11,_),(12,_),(13,.b (.one (.int .u8 34)))],[(1,_),(101,_),(102,_)]⟩ rfl (ab.seq (ab.aa ?_))))))))
 refine Oc om (Oc om (Oc (aL rfl rfl) (Oc (bm dX (aR (show aS [[92],[92,92],[34],[92,34]] 3=some [92,34] from rfl)) (cu (e:=eS) (show aS [[92],[92,92],[34],[92,34]] 3=some [92,34] from rfl)) rfl rfl) (Oc (bg b7 rfl rfl) (Oc oa (ae.ag ⟨[(3,_),(11,_),(12,_),(13,_),(14,.b (.one (.str [92,34])))],[(1,_),(101,_),(102,_)]⟩ rfl ?_))))))
 obtain⟨v18,h19,h17⟩:=aH h17
 refine ab.bR (v:=v18) (fun (_:Unit)=>⟨[(3,.b (.one (.sl 1 ([[92],[92,92],[34],[92,34]].map eS)))),(11,Pt 102 0),(12,I 2),(13,.b (.one (.int .u8 34))),(14,.b (.one (.str [92,34])))],[(1,.box 159 [.int .u32 0,.int .i32 1,.int .u32 se,.raw .nilIface,.sl 1 ([[92],[92,92],[34],[92,34]].map eS)]),(101,.row 9 1 ([toStr [34]].map eS)),(102,.bD 211 (List.replicate 256 (BV.one CP.nil)++[.row 101]))]⟩) (fun z=>z) ?_ ?_
 refine ab.seq (ab.aa ?_)
 refine Oc om (Oc (aj hC rfl rfl) (Oc (aK kE (by decide) (by decide) rfl rfl rfl) (Oc (dE mb rfl rfl rfl) (Oc (xp kS rfl) (ae.ag ⟨[(3,_),(11,_),(12,_),(13,_),(14,_),(117,B true)],[(1,_),(101,_),(102,_)]⟩ rfl (ab.oh rfl (ab.aa (Oc (aj k8 rfl rfl) (Oc (dE nG rfl rfl rfl) (Oc om (Oc (aX (k:=103) (es:=[34].map (eK .u8)) mF rfl rfl (cg fun _=>rfl) rfl (by decide) (by decide) rfl) (ae.c5 103 rfl (ae.af ⟨[(3,.b (.one (.sl 1 ([[92],[92,92],[34],[92,34]].map eS)))),(11,Pt 102 0),(12,I 2),(13,.b (.one (.int .u8 34))),(14,.b (.one (.str [92,34]))),(119,.b (.row 101)),(121,.b (.one (.sl 1 ([34].map (eK .u8)))))],[(1,.box 159 [.int .u32 0,.int .i32 1,.int .u32 se,.raw .nilIface,.sl 1 ([[92],[92,92],[34],[92,34]].map eS)]),(101,.row 9 1 ([].map eS)),(102,.bD 211 (List.replicate 256 (BV.one CP.nil)++[.row 101]))]⟩ rfl (Oc (jK kS oe cb rfl) (Oc (aX (k:=104) (es:=[toStr [34]].map eS) dX rfl rfl (cg fun _=>rfl) rfl (by decide) (by decide) rfl) (ae.forget 102 256 rfl (Oc (eV dX (oo (show gU [] [toStr [34]]=some [toStr [34]] from rfl)) (oi (show gU [] [toStr [34]]=some [toStr [34]] from rfl)) rfl rfl rfl rfl (jj (show gU [] [toStr [34]]=some [toStr [34]] from rfl)) rfl) (Oc (aj k8 rfl rfl) (Oc (fD nG rfl rfl rfl rfl (zab rfl) rfl) (ae.nil ?_))))))))))))))))))))
 exact Fin.join [3,11,12,13,14] [1,101,102] () (zaa h19) rfl
 rintro _ hv
 subst v18
 refine ab.aa (Oc om (Oc om (Oc (nQ cb kS oe rfl) (Oc (aj hC rfl rfl) (Oc (aK kE (by decide) (by decide) rfl rfl rfl) (Oc (fD mb rfl rfl rfl rfl (zab rfl) rfl) (ae.nil (Fin.aA ?_))))))))
 exact Fin.join [3,11,12] [1,101,102] () (zaa h17) rfl
 rintro _ hv
 subst v16
 refine ab.aa (Oc om (Oc (bW rfl rfl) (Oc oa (ae.nil (Fin.af ⟨[(3,_),(11,_),(12,I 0)],[(1,_),(101,_),(102,_)]⟩ rfl (Fin.round (ab.seq (ab.seq (ab.aa ?_)))))))))
 refine Oc om (Oc (gf rfl rfl) (ae.ag ⟨[(3,_),(11,_),(12,_),(100,B true)],[(1,_),(101,_),(102,_)]⟩ rfl (ab.oh rfl (ab.skip (Fin.af ⟨[(3,_),(11,_),(12,_)],[(1,_),(101,_),(102,_)]⟩ rfl (Fin.then ?_))))))
 obtain⟨v20,h21,h15⟩:=aH h15
 refine ab.bR (v:=v20) (fun (_:Unit)=>⟨[(3,.b (.one (.sl 1 ([[92],[92,92],[34],[92,34]].map eS)))),(11,Pt 102 0),(12,I 0)],[(1,.box 159 [.int .u32 0,.int .i32 1,.int .u32 se,.raw .nilIface,.sl 1 ([[92],[92,92],[34],[92,34]].map eS)]),(101,.row 9 1 ([toStr [34],toStr [92]].map eS)),(102,.bD 211 (((List.replicate 256 (BV.one CP.nil)).set 34 (.one (.sl 1 ((ofStr [92,34]).map (eK .u8))))).set 92 (.one (.sl 1 ((ofStr [92,92]).map (eK .u8))))++[.row 101]))]⟩) (fun z=>z) ?_ ?_
 refine ab.block (ab.seq (ab.aa ?_))
 refine Oc om (Oc om (Oc (bm dX (aR (show aS [[92],[92,92],[34],[92,34]] 0=some [92] from rfl)) (cu (e:=eS) (show aS [[92],[92,92],[34],[92,34]] 0=some [92] from rfl)) rfl rfl) (Oc (bg b7 rfl rfl) (Oc (aV cb rfl rfl (aR (show aS ([92]:Str) 0=some 92 from rfl)) (cF (show aS ([92]:Str) 0=some 92 from rfl))) (Oc oa (ae.ag ⟨[(3,_),(11,_),(12,_),(13,.b (.one (.int .u8 92)))],[(1,_),(101,_),(102,_)]⟩ rfl (ab.seq (ab.aa ?_))))))))
 refine Oc om (Oc om (Oc (aL rfl rfl) (Oc (bm dX (aR (show aS [[92],[92,92],[34],[92,34]] 1=some [92,92] from rfl)) (cu (e:=eS) (show aS [[92],[92,92],[34],[92,34]] 1=some [92,92] from rfl)) rfl rfl) (Oc (bg b7 rfl rfl) (Oc oa (ae.ag ⟨[(3,_),(11,_),(12,_),(13,_),(14,.b (.one (.str [92,92])))],[(1,_),(101,_),(102,_)]⟩ rfl ?_))))))
 obtain⟨v22,h23,h21⟩:=aH h21
 refine ab.bR (v:=v22) (fun (_:Unit)=>⟨[(3,.b (.one (.sl 1 ([[92],[92,92],[34],[92,34]].map eS)))),(11,Pt 102 0),(12,I 0),(13,.b (.one (.int .u8 92))),(14,.b (.one (.str [92,92])))],[(1,.box 159 [.int .u32 0,.int .i32 1,.int .u32 se,.raw .nilIface,.sl 1 ([[92],[92,92],[34],[92,34]].map eS)]),(101,.row 9 1 ([toStr [34],toStr [92]].map eS)),(102,.bD 211 ((List.replicate 256 (BV.one CP.nil)).set 34 (.one (.sl 1 ((ofStr [92,34]).map (eK .u8))))++[.row 101]))]⟩) (fun z=>z) ?_ ?_
 refine ab.seq (ab.aa ?_)
 refine Oc om (Oc (aj hC rfl rfl) (Oc (aK kE (by decide) (by decide) rfl rfl rfl) (Oc (dE mb rfl rfl rfl) (Oc (xp kS rfl) (ae.ag ⟨[(3,_),(11,_),(12,_),(13,_),(14,_),(117,B true)],[(1,_),(101,_),(102,_)]⟩ rfl (ab.oh rfl (ab.aa (Oc (aj k8 rfl rfl) (Oc (dE nG rfl rfl rfl) (Oc om (Oc (aX (k:=105) (es:=[92].map (eK .u8)) mF rfl rfl (cg fun _=>rfl) rfl (by decide) (by decide) rfl) (ae.c5 105 rfl (ae.af ⟨[(3,.b (.one (.sl 1 ([[92],[92,92],[34],[92,34]].map eS)))),(11,Pt 102 0),(12,I 0),(13,.b (.one (.int .u8 92))),(14,.b (.one (.str [92,92]))),(119,.b (.row 101)),(121,.b (.one (.sl 1 ([92].map (eK .u8)))))],[(1,.box 159 [.int .u32 0,.int .i32 1,.int .u32 se,.raw .nilIface,.sl 1 ([[92],[92,92],[34],[92,34]].map eS)]),(101,.row 9 1 ([toStr [34]].map eS)),(102,.bD 211 ((List.replicate 256 (BV.one CP.nil)).set 34 (.one (.sl 1 ((ofStr [92,34]).map (eK .u8))))++[.row 101]))]⟩ rfl (Oc (jK kS oe cb rfl) (Oc (aX (k:=106) (es:=[toStr [92]].map eS) dX rfl rfl (cg fun _=>rfl) rfl (by decide) (by decide) rfl) (ae.forget 102 256 rfl (Oc (eV dX (oo (show gU [toStr [34]] [toStr [92]]=some [toStr [34],toStr [92]] from rfl)) (oi (show gU [toStr [34]] [toStr [92]]=some [toStr [34],toStr [92]] from rfl)) rfl rfl rfl rfl (jj (show gU [toStr [34]] [toStr [92]]=some [toStr [34],toStr [92]] from rfl)) rfl) (Oc (aj k8 rfl rfl) (Oc (fD nG rfl rfl rfl rfl (zab rfl) rfl) (ae.nil ?_))))))))))))))))))))
 exact Fin.join [3,11,12,13,14] [1,101,102] () (zaa h23) rfl
 rintro _ hv
 subst v22
 refine ab.aa (Oc om (Oc om (Oc (nQ cb kS oe rfl) (Oc (aj hC rfl rfl) (Oc (aK kE (by decide) (by decide) rfl rfl rfl) (Oc (fD mb rfl rfl rfl rfl (zab rfl) rfl) (ae.nil (Fin.aA ?_))))))))
 exact Fin.join [3,11,12] [1,101,102] () (zaa h21) rfl
 rintro _ hv
 subst v20
 refine ab.aa (Oc om (Oc (bW rfl rfl) (Oc oa (ae.nil (Fin.af ⟨[(3,_),(11,_),(12,I (-2))],[(1,_),(101,_),(102,_)]⟩ rfl (Fin.round (ab.seq (ab.seq (ab.aa ?_)))))))))
 refine Oc om (Oc (gf rfl rfl) (ae.ag ⟨[(3,_),(11,_),(12,_),(100,B false)],[(1,_),(101,_),(102,_)]⟩ rfl (ab.wC rfl (ab.exit (Fin.aw (Fin.aw (Fin.aJ ?_)))))))
 exact Fin.join [11] [1,101,102] () (zaa h15) rfl
 rintro _ hv
 subst v14
 refine ab.seq (ab.aa (ae.c5 101 rfl (ae.Cq 102 rfl rfl (ae.mS 102 rfl (Oc ((Cc conc212 rfl).weak (fun _ _ _ h=>tab_rel h)) (Oc oa (ae.ag ⟨[(2,.b (.one (.yA 212 (fY c6 [.sl 1 ([toStr [34],toStr [92]].map eS)]))))],[(1,.box 159 [.int .u32 0,.int .i32 1,.int .u32 se,.raw .nilIface,.sl 1 ([[92],[92,92],[34],[92,34]].map eS)])]⟩ rfl (ab.ret ?_))))))))
 obtain rfl:=zaa h
 refine Fin.af ⟨[(2,_)],[(1,_)]⟩ rfl ?_
 exact Fin.result [.one (.yA 212 (fY c6 [.sl 1 ([toStr [34],toStr [92]].map eS)]))] (.inl rfl) rfl (.cons (.tmp rfl) .nil) ⟨rfl,rfl⟩
def jb (F:Nat) (se:Int):Option Unit :=
 (lr F se).bind fun a=>some ()
theorem oX {F:Nat} {se:Int} {r:Unit} (h:jb F se=some r):ax prog (bd mx) 118 [(1,.box 159 [.int .u32 0,.int .i32 1,.int .u32 se,.raw .nilIface,.sl 1 ([[92],[92,92],[34],[92,34]].map eS)])] [.ptr 1 0] (Is [(1,.box 159 [.int .u32 0,.int .i32 1,.int .u32 se,.yA 212 (fY c6 [.sl 1 ([toStr [34],toStr [92]].map eS)]),.sl 1 ([].map eS)])] (.gS [])):=by
 unfold jb at h
 refine ax.intro 10 Tryz.func118 Tryz.ntmps118 rfl (by simp) fun E=>(ab.seq (ab.aa ?_))
 refine Oc om (Oc om ?_)
 obtain⟨a,e1,h⟩:=aH h
 refine Oc (cK (own_a:=[(1,_)]) (sd e1) goes152 rfl ⟨rfl,trivial⟩ rfl rfl) (Oc (aB rfl) (Oc (aj xh rfl rfl) (Oc (bF zR rfl rfl rfl (zab rfl) rfl) (ae.ag ⟨[(0,Pt 1 0)],[(1,.box 159 [.int .u32 0,.int .i32 1,.int .u32 se,.yA 212 (fY c6 [.sl 1 ([toStr [34],toStr [92]].map eS)]),.sl 1 ([[92],[92,92],[34],[92,34]].map eS)])]⟩ rfl (ab.aa (Oc om (Oc (aB rfl) (Oc (aj xg rfl rfl) (Oc (bF nG rfl rfl rfl (zab rfl) rfl) (ae.nil ?_))))))))))
 obtain rfl:=zaa h
 refine Fin.af ⟨[],[(1,.box 159 [.int .u32 0,.int .i32 1,.int .u32 se,.yA 212 (fY c6 [.sl 1 ([toStr [34],toStr [92]].map eS)]),.nil])]⟩ rfl (Fin.ku 1 4 1 rfl rfl (by decide) (Fin.af ⟨[],[(1,.box 159 [.int .u32 0,.int .i32 1,.int .u32 se,.yA 212 (fY c6 [.sl 1 ([toStr [34],toStr [92]].map eS)]),.sl 1 ([].map eS)])]⟩ rfl ?_))
 exact Fin.result [] (.inr rfl) rfl (.nil) ⟨rfl,rfl⟩
def n5 (F:Nat) (se:Int):Option Unit :=
 (qW F 0 se (.raw .nilIface) (.sl 1 ([[92],[92,92],[34],[92,34]].map eS))).bind fun a=>(lE F 1 se (.raw .nilIface) (.sl 1 ([[92],[92,92],[34],[92,34]].map eS))).bind fun c=>(jb F se).bind fun d=>some ()
theorem u5 {F:Nat} {se:Int} {r:Unit} (h:n5 F se=some r):ax prog (bd mx) 151 [(1,.box 159 [.int .u32 0,.int .i32 0,.int .u32 se,.raw .nilIface,.sl 1 ([[92],[92,92],[34],[92,34]].map eS)])] [.ptr 1 0,.ek 118 [.ptr 1 0] []] (Is [(1,.box 159 [.int .u32 1,.int .i32 0,.int .u32 se,.yA 212 (fY c6 [.sl 1 ([toStr [34],toStr [92]].map eS)]),.sl 1 ([].map eS)])] (.gS [])):=by
 unfold n5 at h
 refine ax.E8 21 Tryz.func151 Tryz.ntmps151 rfl (by simp) fun E=>(ab.seq (ab.aa ?_))
 refine Oc om (Oc (aB rfl) (Oc (aj xi rfl rfl) ?_))
 obtain⟨a,e1,h⟩:=aH h
 refine Oc (cK (own_a:=[(1,_)]) (xC e1) goes172 rfl ⟨rfl,trivial⟩ rfl rfl) (ae.ag ⟨[(0,Pt 1 0),(1,.b (.ek 118 [.ptr 1 0] []))],[(1,.box 159 [.int .u32 0,.int .i32 1,.int .u32 se,.raw .nilIface,.sl 1 ([[92],[92,92],[34],[92,34]].map eS)])]⟩ rfl (ab.seq (ab.aa ?_)))
 refine Oc om (Oc (aB rfl) (Oc (aj xi rfl rfl) (ae.FO (das:=[.ptr 1 1]) rfl rfl (ae.ag ⟨[(0,_),(1,_)],[(1,_)]⟩ rfl (ab.seq (ab.aa ?_))))))
 refine Oc om (Oc (aB rfl) (Oc (aj sT rfl rfl) ?_))
 obtain⟨c,e2,h⟩:=aH h
 refine Oc (cK (own_a:=[(1,_)]) (oO e2) Da rfl ⟨rfl,trivial⟩ rfl rfl) (Oc (cc rfl) (ae.ag ⟨[(0,_),(1,_),(15,B true)],[(1,_)]⟩ rfl (ab.oh rfl (ab.seq (ab.aa ?_)))))
 refine Oc om (Oc (aB rfl) (Oc (aj sT rfl rfl) (ae.FO (das:=[.ptr 1 0,.bool true]) rfl rfl (ae.ag ⟨[(1,_)],[(1,_)]⟩ rfl (ab.aa (Oc om ?_))))))
 obtain⟨d,e3,h⟩:=aH h
 refine Oc (oA (own_a:=[(1,_)]) (oX e3) goes118 rfl rfl rfl ⟨rfl,trivial⟩ rfl rfl) (ae.nil (Fin.runD (own_a:=[(1,_)]) (.inr rfl) (s6 (F:=0) (r:=()) rfl) goes174 rfl ⟨rfl,trivial⟩ rfl rfl (Fin.runD (own_a:=[(1,_)]) (.inl rfl) (uj (F:=0) (r:=()) rfl) goes173 rfl ⟨rfl,trivial⟩ rfl rfl (Fin.retD (.inl rfl) rfl ?_))))
 obtain rfl:=zaa h
 refine Fin.af ⟨[],[(1,.box 159 [.int .u32 1,.int .i32 0,.int .u32 se,.yA 212 (fY c6 [.sl 1 ([toStr [34],toStr [92]].map eS)]),.sl 1 ([].map eS)])]⟩ rfl ?_
 exact Fin.result [] (.inl rfl) rfl (.nil) ⟨rfl,rfl⟩
def r6 (F:Nat) (se:Int):Option Unit :=
 (lE F 0 se (.raw .nilIface) (.sl 1 ([[92],[92,92],[34],[92,34]].map eS))).bind fun a=>(n5 F se).bind fun c=>some ()
theorem zw {F:Nat} {se:Int} {r:Unit} (h:r6 F se=some r):ax prog (bd mx) 117 [(1,.box 159 [.int .u32 0,.int .i32 0,.int .u32 se,.raw .nilIface,.sl 1 ([[92],[92,92],[34],[92,34]].map eS)])] [.ptr 1 0,.ek 118 [.ptr 1 0] []] (Is [(1,.box 159 [.int .u32 1,.int .i32 0,.int .u32 se,.yA 212 (fY c6 [.sl 1 ([toStr [34],toStr [92]].map eS)]),.sl 1 ([].map eS)])] (.gS [])):=by
 unfold r6 at h
 refine ax.intro 12 Tryz.func117 Tryz.ntmps117 rfl (by simp) fun E=>(ab.seq (ab.aa ?_))
 refine Oc om (Oc (aB rfl) (Oc (aj sT rfl rfl) ?_))
 obtain⟨a,e1,h⟩:=aH h
 refine Oc (cK (own_a:=[(1,_)]) (oO e1) Da rfl ⟨rfl,trivial⟩ rfl rfl) (Oc (cc rfl) (ae.ag ⟨[(0,Pt 1 0),(1,.b (.ek 118 [.ptr 1 0] [])),(8,B true)],[(1,.box 159 [.int .u32 0,.int .i32 0,.int .u32 se,.raw .nilIface,.sl 1 ([[92],[92,92],[34],[92,34]].map eS)])]⟩ rfl (ab.oh rfl (ab.aa (Oc om (Oc om ?_))))))
 obtain⟨c,e2,h⟩:=aH h
 refine Oc (cK (own_a:=[(1,_)]) (u5 e2) goes151 rfl ⟨rfl,trivial⟩ rfl rfl) (ae.nil ?_)
 obtain rfl:=zaa h
 refine Fin.af ⟨[],[(1,.box 159 [.int .u32 1,.int .i32 0,.int .u32 se,.yA 212 (fY c6 [.sl 1 ([toStr [34],toStr [92]].map eS)]),.sl 1 ([].map eS)])]⟩ rfl ?_
 exact Fin.result [] (.inr rfl) rfl (.nil) ⟨rfl,rfl⟩
def gC (F:Nat) (s0:Str):Option Str :=
 Option.bind (bA (i64.wrap (([[34],[92]].length:Int)*8)) fun be=>if (decide (be<=(s0.length:Int)))=true then (iter F (iJ fun e d ac=>if (decide (ac<([[34],[92]].length:Int)))=true then (Option.bind ((aS [[34],[92]] ac).bind fun x=>(gj F s0 x).bind fun y=>if (decide (y≠0))=true then ((aS x 0).bind fun ad=>some (i64.wrap (e+(i64.wrap (y*(i64.wrap (((c6 ((ad.toNat:Int):Int).toNat).length:Int)-1))))),true)) else (some (e,d))) (bQ fun q g=>some (.inl (q,g,i64.wrap (ac+1))))) else (some (.inr (e,d)))) ((s0.length:Int),false,0)) else (iter F (iJ fun a c t=>if (decide (t<(s0.length:Int)))=true then (Option.bind ((aS s0 t).bind fun z=>if (decide (c6 ((z.toNat:Int):Int).toNat≠[]))=true then (bA ((c6 ((z.toNat:Int):Int).toNat).length:Int) fun ai=>bA (i64.wrap (a+(i64.wrap (ai-1)))) fun ak=>some (ak,true)) else (some (a,c))) (bQ fun m h=>some (.inl (m,h,i64.wrap (t+1))))) else (some (.inr (a,c)))) ((s0.length:Int),false,0))) (bQ fun j k=>if (!k)=true then (some s0) else (Option.bind (mk? (0:Int) j j) (fun al=>Option.bind (iter F (iJ fun f o u=>if (decide (u<(s0.length:Int)))=true then (Option.bind ((aS s0 u).bind fun r=>if (decide (c6 ((r.toNat:Int):Int).toNat≠[]))=true then (Option.bind (xM f (c6 ((r.toNat:Int):Int).toNat) o) (fun am=>some (am,i64.wrap (o+((c6 ((r.toNat:Int):Int).toNat).length:Int))))) else ((aS f o).bind fun bi=>some (f.set (o:Int).toNat (r.toNat:Int),i64.wrap (o+1)))) (bQ fun v ap=>some (.inl (v,ap,i64.wrap (u+1))))) else (some (.inr f))) (al,0,0)) (fun w=>some (toStr w)))))
theorem u4 {F:Nat} {s0 r:Str} (h:gC F s0=some r):ax prog (bd mx) 230 [] [.dc (fY c6 [.sl 1 ([[34],[92]].map eS)]),.one (.str s0)] (Is [] (.b (.one (.str r)))):=by
 unfold gC at h
 refine ax.intro 122 Tryz.func230 Tryz.ntmps230 rfl (by simp) fun E=>(ab.seq (ab.aa ?_))
 refine Oc oa (ae.ag ⟨[(0,.b (.dc (fY c6 [.sl 1 ([[34],[92]].map eS)]))),(1,.b (.one (.str s0)))],[]⟩ rfl (ab.seq (ab.aa ?_)))
 refine Oc om (Oc (bh cb rfl) (Oc oa (ae.ag ⟨[(0,_),(1,_),(5,I (s0.length:Int))],[]⟩ rfl (ab.seq (ab.aa ?_)))))
 refine Oc oa (ae.ag ⟨[(0,_),(1,_),(5,_),(6,B false)],[]⟩ rfl ?_)
 obtain⟨v1,h2,h⟩:=aH h
 refine ab.bR (v:=v1) (bQ fun (ai:Int) (u:Bool)=>⟨[(0,.b (.dc (fY c6 [.sl 1 ([[34],[92]].map eS)]))),(1,.b (.one (.str s0))),(5,I ai),(6,B u)],[]⟩) (fun z=>z) ?_ ?_
 refine ab.seq (ab.aa ?_)
 refine Oc om (Oc (gA rfl) (Oc (fk k8 rfl x9) (Oc (bg nG rfl rfl) (Oc (ba nB rfl (List.length_map _)) ?_))))
 refine ae.cJ .i64 h2 rfl (kU rfl rfl) (fun bs h2=>(ae.af ⟨[(0,_),(1,_),(5,_),(6,_),(23,I bs)],[]⟩ rfl (Oc om (Oc (bh cb rfl) (Oc (nY rfl rfl) (ae.ag ⟨[(0,_),(1,_),(5,_),(6,_),(26,B (decide (bs<=(s0.length:Int))))],[]⟩ rfl (ab.ite h2 rfl (fun _ h2=>?_) (fun _ h2=>?_))))))))
 refine ab.seq (ab.aa ?_)
 refine Oc om (Oc (gA rfl) (Oc (fk k8 rfl x9) (Oc (bg nG rfl rfl) (Oc (ba nB rfl (List.length_map _)) (Oc om (ae.ag ⟨[(0,_),(1,_),(5,_),(6,_),(30,.b (.one (.sl 1 ([[34],[92]].map eS)))),(31,I ([[34],[92]].length:Int)),(32,I 0)],[]⟩ rfl (ab.block (ab.cx h2 (iJ fun (c:Int) (j:Bool) (be:Int)=>⟨[(0,.b (.dc (fY c6 [.sl 1 ([[34],[92]].map eS)]))),(1,.b (.one (.str s0))),(5,I c),(6,B j),(30,.b (.one (.sl 1 ([[34],[92]].map eS)))),(31,I ([[34],[92]].length:Int)),(32,I be)],[]⟩) [0,1,5,6,30,31,32] [] rfl ?_))))))))
 rintro⟨c,j,be⟩ o3 h4 hy5
 refine ab.seq (ab.aa ?_)
 refine Oc (bt rfl rfl) (ae.ag ⟨[(0,_),(1,_),(5,_),(6,_),(30,_),(31,_),(32,_),(33,B (decide (be<([[34],[92]].length:Int))))],[]⟩ rfl (ab.seq (ab.ite h4 rfl (fun _ h4=>?_) (fun _ h4=>?_))))
 refine ab.skip (Fin.af ⟨[(0,_),(1,_),(5,_),(6,_),(30,_),(31,_),(32,_)],[]⟩ rfl (Fin.then ?_))
 obtain⟨v6,h7,h4⟩:=aH h4
 refine ab.bR (v:=v6) (bQ fun (x:Int) (o:Bool)=>⟨[(0,.b (.dc (fY c6 [.sl 1 ([[34],[92]].map eS)]))),(1,.b (.one (.str s0))),(5,I x),(6,B o),(30,.b (.one (.sl 1 ([[34],[92]].map eS)))),(31,I ([[34],[92]].length:Int)),(32,I be)],[]⟩) (fun z=>z) ?_ ?_
 refine ab.block (ab.seq (ab.aa ?_))
 obtain⟨bl,e8,h7⟩:=aH h7
 refine Oc (bm dX (aR e8) (cu (e:=eS) e8) rfl rfl) (Oc (bg b7 rfl rfl) (Oc oa (ae.ag ⟨[(0,_),(1,_),(5,_),(6,_),(8,.b (.one (.str bl))),(30,_),(31,_),(32,_)],[]⟩ rfl (ab.seq (ab.aa ?_)))))
 refine Oc om (Oc om ?_)
 obtain⟨ak,e9,h7⟩:=aH h7
 refine Oc (ah (mZ e9) Fj rfl rfl) (Oc oa (ae.ag ⟨[(0,_),(1,_),(5,_),(6,_),(8,_),(9,I ak),(30,_),(31,_),(32,_)],[]⟩ rfl (ab.seq (ab.aa ?_))))
 refine Oc om (Oc (dd rfl rfl) (ae.ag ⟨[(0,_),(1,_),(5,_),(6,_),(8,_),(9,_),(30,_),(31,_),(32,_),(40,B (decide (ak≠0)))],[]⟩ rfl (ab.ite h7 rfl (fun _ h7=>?_) (fun _ h7=>?_))))
 refine ab.seq (ab.af ⟨[(0,_),(1,_),(5,_),(8,_),(9,_),(30,_),(31,_),(32,_)],[]⟩ rfl ?_)
 obtain⟨y,e10,h7⟩:=aH h7
 refine ab.bN mixed 13 [I c,I ak,.b (.dc (fY c6 [.sl 1 ([[34],[92]].map eS)])),.b (.one (.str bl)),.b (.one (.int .u8 (y.toNat:Int))),.b (.dc (fY c6 [.sl 1 ([[34],[92]].map eS)])),.b (.dc (fY c6 [.sl 1 ([[34],[92]].map eS)])),.b (.dc [.slb (c6 ((y.toNat:Int):Int).toNat)]),.b (.one (.sl 1 ((c6 ((y.toNat:Int):Int).toNat).map (eK .u8)))),I ((c6 ((y.toNat:Int):Int).toNat).length:Int),I (i64.wrap (((c6 ((y.toNat:Int):Int).toNat).length:Int)-1)),I (i64.wrap (ak*(i64.wrap (((c6 ((y.toNat:Int):Int).toNat).length:Int)-1)))),I (i64.wrap (c+(i64.wrap (ak*(i64.wrap (((c6 ((y.toNat:Int):Int).toNat).length:Int)-1))))))] [0,1,5,30,31,32] [] (s':=⟨[(0,_),(1,_),(5,I (i64.wrap (c+(i64.wrap (ak*(i64.wrap (((c6 ((y.toNat:Int):Int).toNat).length:Int)-1))))))),(30,_),(31,_),(32,_)],[]⟩) rfl ⟨fun _=>.p om,fun _=>.p om,fun _=>.p om,fun _=>.p om,fun _=>.p (aV cb rfl rfl (aR e10) (cF e10)),fun _=>.p (gA rfl),fun _=>by exact .p (fk hC rfl rfl),fun _=>.p (wG kE rfl rfl),fun _=>.p ((bg mb rfl rfl).weak (fun _ _ _ h=>Bl h)),fun _=>.p (ba kS rfl (List.length_map _)),fun _=>.p (bW rfl rfl),fun _=>.p (kU rfl rfl),fun _=>.p (aL rfl rfl),trivial⟩ ⟨_,by exact .p oa,rfl⟩ rfl (ab.aa (Oc oa (ae.nil (Fin.aA ?_))))
 exact Fin.join [0,1,5,6,30,31,32] [] (i64.wrap (c+(i64.wrap (ak*(i64.wrap (((c6 ((y.toNat:Int):Int).toNat).length:Int)-1))))),true) (zaa h7) rfl
 refine ab.skip (Fin.aA ?_)
 exact Fin.join [0,1,5,6,30,31,32] [] (c,j) (zaa h7) rfl
 rintro⟨x,o⟩ hv
 subst v6
 refine ab.aa (Oc (aL rfl rfl) (Oc om (ae.nil ?_)))
 exact Fin.bB [0,1,5,6,30,31,32] [] (x,o,i64.wrap (be+1)) (zaa h4) rfl
 refine ab.exit (Fin.aw ?_)
 obtain rfl:=hy5 _ (zaa h4).symm
 refine Fin.aw (Fin.aJ ?_)
 exact Fin.join [0,1,5,6] [] (c,j) rfl rfl
 refine ab.seq (ab.aa ?_)
 refine Oc oa (ae.ag ⟨[(0,_),(1,_),(5,_),(6,_),(10,I 0)],[]⟩ rfl (ab.block (ab.cx h2 (iJ fun (m:Int) (g:Bool) (am:Int)=>⟨[(0,.b (.dc (fY c6 [.sl 1 ([[34],[92]].map eS)]))),(1,.b (.one (.str s0))),(5,I m),(6,B g),(10,I am)],[]⟩) [0,1,5,6,10] [] rfl ?_)))
 rintro⟨m,g,am⟩ o11 h12 hy13
 refine ab.seq (ab.seq (ab.aa ?_))
 refine Oc om (Oc om (Oc (bh cb rfl) (Oc (bt rfl rfl) (ae.ag ⟨[(0,_),(1,_),(5,_),(6,_),(10,_),(58,B (decide (am<(s0.length:Int))))],[]⟩ rfl (ab.ite h12 rfl (fun _ h12=>?_) (fun _ h12=>?_))))))
 refine ab.skip (Fin.af ⟨[(0,_),(1,_),(5,_),(6,_),(10,_)],[]⟩ rfl (Fin.then ?_))
 obtain⟨v14,h15,h12⟩:=aH h12
 refine ab.bR (v:=v14) (bQ fun (w:Int) (q:Bool)=>⟨[(0,.b (.dc (fY c6 [.sl 1 ([[34],[92]].map eS)]))),(1,.b (.one (.str s0))),(5,I w),(6,B q),(10,I am)],[]⟩) (fun z=>z) ?_ ?_
 refine ab.block (ab.seq (ab.aa ?_))
 refine Oc om (Oc om ?_)
 obtain⟨bi,e16,h15⟩:=aH h15
 refine Oc (aV cb rfl rfl (aR e16) (cF e16)) (Oc oa (ae.ag ⟨[(0,_),(1,_),(5,_),(6,_),(10,_),(11,.b (.one (.int .u8 (bi.toNat:Int))))],[]⟩ rfl (ab.seq (ab.aa ?_))))
 refine Oc om (Oc om (Oc (gA rfl) (Oc (fk hC rfl rfl) (Oc (wG kE rfl rfl) (Oc (bg mb rfl rfl) ?_)))))
 refine Oc (xo kS rfl) (ae.ag ⟨[(0,_),(1,_),(5,_),(6,_),(10,_),(11,_),(70,B (decide (c6 ((bi.toNat:Int):Int).toNat≠[])))],[]⟩ rfl (ab.ite h15 rfl (fun _ h15=>?_) (fun _ h15=>?_)))
 refine ab.seq (ab.aa ?_)
 refine Oc om (Oc om (Oc om (Oc (gA rfl) (Oc (fk hC rfl rfl) (Oc (wG kE rfl rfl) ?_)))))
 refine Oc ((bg mb rfl rfl).weak (fun _ _ _ h=>Bl h)) (ae.af ⟨[(0,_),(1,_),(5,_),(10,_),(71,I m),(77,.b (.one (.sl 1 ((c6 ((bi.toNat:Int):Int).toNat).map (eK .u8)))))],[]⟩ rfl (ae.cJ .i64 h15 rfl (ba kS rfl (List.length_map _)) (fun b0 h15=>?_)))
 refine Oc (bW rfl rfl) (ae.cJ .i64 h15 rfl (aL rfl rfl) (fun bo h15=>?_))
 refine Oc oa (ae.ag ⟨[(0,_),(1,_),(5,I bo),(10,_)],[]⟩ rfl (ab.aa (Oc oa (ae.nil (Fin.aA ?_)))))
 exact Fin.join [0,1,5,6,10] [] (bo,true) (zaa h15) rfl
 refine ab.skip (Fin.aA ?_)
 exact Fin.join [0,1,5,6,10] [] (m,g) (zaa h15) rfl
 rintro⟨w,q⟩ hv
 subst v14
 refine ab.aa (Oc om (Oc (aL rfl rfl) (Oc oa (ae.nil ?_))))
 exact Fin.bB [0,1,5,6,10] [] (w,q,i64.wrap (am+1)) (zaa h12) rfl
 refine ab.exit (Fin.aw ?_)
 obtain rfl:=hy13 _ (zaa h12).symm
 refine Fin.aw (Fin.aJ ?_)
 exact Fin.join [0,1,5,6] [] (m,g) rfl rfl
 rintro⟨ai,u⟩ hv
 subst v1
 refine ab.seq (ab.seq (ab.aa ?_))
 refine Oc om (Oc (cc rfl) (ae.ag ⟨[(0,_),(1,_),(5,_),(82,B (!u))],[]⟩ rfl (ab.ite h rfl (fun _ h=>?_) (fun _ h=>?_))))
 refine ab.seq (ab.aa ?_)
 refine Oc om (Oc oa (ae.ag ⟨[(4,.b (.one (.str s0)))],[]⟩ rfl (ab.ret (Fin.ay ?_))))
 obtain rfl:=zaa h
 refine Fin.af ⟨[(4,_)],[]⟩ rfl (Fin.au [.one (.str s0)] (.inl rfl) rfl (.cons (.tmp rfl) .nil) ⟨rfl,rfl⟩)
 refine ab.skip (Fin.af ⟨[(0,_),(1,_),(5,_)],[]⟩ rfl (Fin.then (ab.seq (ab.aa ?_))))
 refine Oc om ?_
 obtain⟨bw,e17,h⟩:=aH h
 refine Oc (mn (k:=101) (enc:=(eK .u8)) mF e17 (by decide) (.cons .refl .nil) rfl rfl rfl) (Oc oa (ae.ag ⟨[(0,_),(1,_),(12,.b (.row 101))],[(101,.row 5 1 (bw.map (eK .u8)))]⟩ rfl (ab.seq (ab.aa ?_))))
 refine Oc oa (ae.ag ⟨[(0,_),(1,_),(12,_),(13,I 0)],[(101,_)]⟩ rfl ?_)
 obtain⟨v18,h19,h⟩:=aH h
 refine ab.bR (v:=v18) (fun (ad:List Int)=>⟨[(12,.b (.row 101))],[(101,.row 5 1 (ad.map (eK .u8)))]⟩) (fun z=>z) ?_ ?_
 refine ab.seq (ab.aa ?_)
 refine Oc oa (ae.ag ⟨[(0,_),(1,_),(12,_),(13,_),(14,I 0)],[(101,_)]⟩ rfl (ab.block (ab.cx h19 (iJ fun (a:List Int) (d:Int) (ac:Int)=>⟨[(0,.b (.dc (fY c6 [.sl 1 ([[34],[92]].map eS)]))),(1,.b (.one (.str s0))),(12,.b (.row 101)),(13,I d),(14,I ac)],[(101,.row 5 1 (a.map (eK .u8)))]⟩) [0,1,12,13,14] [101] rfl ?_)))
 rintro⟨a,d,ac⟩ o20 h21 hy22
 refine ab.seq (ab.seq (ab.aa ?_))
 refine Oc om (Oc om (Oc (bh cb rfl) (Oc (bt rfl rfl) (ae.ag ⟨[(0,_),(1,_),(12,_),(13,_),(14,_),(89,B (decide (ac<(s0.length:Int))))],[(101,_)]⟩ rfl (ab.ite h21 rfl (fun _ h21=>?_) (fun _ h21=>?_))))))
 refine ab.skip (Fin.af ⟨[(0,_),(1,_),(12,_),(13,_),(14,_)],[(101,_)]⟩ rfl (Fin.then ?_))
 obtain⟨v23,h24,h21⟩:=aH h21
 refine ab.bR (v:=v23) (bQ fun (al:List Int) (bk:Int)=>⟨[(0,.b (.dc (fY c6 [.sl 1 ([[34],[92]].map eS)]))),(1,.b (.one (.str s0))),(12,.b (.row 101)),(13,I bk),(14,I ac)],[(101,.row 5 1 (al.map (eK .u8)))]⟩) (fun z=>z) ?_ ?_
 refine ab.block (ab.seq (ab.aa ?_))
 refine Oc om (Oc om ?_)
 obtain⟨f,e25,h24⟩:=aH h24
 refine Oc (aV cb rfl rfl (aR e25) (cF e25)) (Oc oa (ae.ag ⟨[(0,_),(1,_),(12,_),(13,_),(14,_),(15,.b (.one (.int .u8 (f.toNat:Int))))],[(101,_)]⟩ rfl (ab.seq (ab.aa ?_))))
 refine Oc om (Oc om (Oc (gA rfl) (Oc (fk hC rfl rfl) (Oc (wG kE rfl rfl) (Oc (bg mb rfl rfl) ?_)))))
 refine Oc (xo kS rfl) (ae.ag ⟨[(0,_),(1,_),(12,_),(13,_),(14,_),(15,_),(101,B (decide (c6 ((f.toNat:Int):Int).toNat≠[])))],[(101,_)]⟩ rfl (ab.ite h24 rfl (fun _ h24=>?_) (fun _ h24=>?_)))
 refine ab.af ⟨[(0,_),(1,_),(12,_),(13,_),(14,_),(15,_)],[(101,_)]⟩ rfl ?_
 obtain⟨ap,e26,h24⟩:=aH h24
 refine ab.iC 101 rfl (cpy_pos e26) (fun t hc27 _=>?_)
 refine ab.af ⟨[(0,_),(1,_),(12,.b (.part 101 1 0 ((a.map (eK .u8)).length) t)),(13,_),(14,_),(15,_)],[(101,_)]⟩ rfl (ab.tM mixed [false,false,false,false,false,false,false,false,false,false,true,false,true] [I d,.b (.part 101 1 0 ((a.map (eK .u8)).length) t),I d,.b (.part 101 1 (0+(d:Int).toNat) ((a.map (eK .u8)).length-(d:Int).toNat) t),.b (.dc (fY c6 [.sl 1 ([[34],[92]].map eS)])),.b (.one (.int .u8 (f.toNat:Int))),.b (.dc (fY c6 [.sl 1 ([[34],[92]].map eS)])),.b (.dc (fY c6 [.sl 1 ([[34],[92]].map eS)])),.b (.dc [.slb (c6 ((f.toNat:Int):Int).toNat)]),.b (.one (.sl 1 ((c6 ((f.toNat:Int):Int).toNat).map (eK .u8)))),I ((c6 ((f.toNat:Int):Int).toNat).length:Int),I (i64.wrap (d+((c6 ((f.toNat:Int):Int).toNat).length:Int))),I (i64.wrap (d+((c6 ((f.toNat:Int):Int).toNat).length:Int)))] [⟨[false,false,false,false,false,false,false,false,false,false,false,false,false],[(0,.b (.dc (fY c6 [.sl 1 ([[34],[92]].map eS)]))),(1,.b (.one (.str s0))),(12,.b (.part 101 1 0 ((a.map (eK .u8)).length) t)),(13,I d),(14,I ac),(15,.b (.one (.int .u8 (f.toNat:Int))))],[(101,.row 5 1 (a.map (eK .u8)))],[true,true,true,true,true,true,true,true,true,true,true,true,true],[],[11,12]⟩,⟨[false,false,false,false,false,false,false,false,false,false,true,false,false],[(0,.b (.dc (fY c6 [.sl 1 ([[34],[92]].map eS)]))),(1,.b (.one (.str s0))),(12,.b (.part 101 1 0 ((a.map (eK .u8)).length) t)),(13,I d),(14,I ac),(15,.b (.one (.int .u8 (f.toNat:Int))))],[(101,.row 5 1 (ap.map (eK .u8)))],[true,true,true,true,true,true,true,true,true,true,true,true,true],[1,2,3,4,5,6,7,8,9,10],[]⟩,⟨[false,false,false,false,false,false,false,false,false,false,true,false,true],[(0,.b (.dc (fY c6 [.sl 1 ([[34],[92]].map eS)]))),(1,.b (.one (.str s0))),(12,.b (.part 101 1 0 ((a.map (eK .u8)).length) t)),(14,I ac),(15,.b (.one (.int .u8 (f.toNat:Int))))],[(101,.row 5 1 (ap.map (eK .u8)))],[true,true,true,true,true,true,true,true,true,true,true,true,true],[0,1,2,3,4,5,6,7,8,9,10,11,12],[]⟩] rfl (⟨by kernel_rfl,⟨⟨I d,fun _=>rfl,fun _=>.p (by exact ey rfl)⟩,⟨.b (.part 101 1 0 ((a.map (eK .u8)).length) t),fun _=>rfl,fun _=>.p (by exact ey rfl)⟩,⟨I d,fun _=>rfl,fun _=>.p (by exact ey rfl)⟩,⟨.b (.part 101 1 (0+(d:Int).toNat) ((a.map (eK .u8)).length-(d:Int).toNat) t),fun _=>rfl,fun _=>.p (by exact zn mF e26 hc27 rfl rfl)⟩,⟨.b (.dc (fY c6 [.sl 1 ([[34],[92]].map eS)])),fun _=>rfl,fun _=>.p (by exact ey rfl)⟩,⟨.b (.one (.int .u8 (f.toNat:Int))),fun _=>rfl,fun _=>.p (by exact ey rfl)⟩,⟨.b (.dc (fY c6 [.sl 1 ([[34],[92]].map eS)])),fun _=>rfl,fun _=>.p (by exact gA rfl)⟩,⟨.b (.dc (fY c6 [.sl 1 ([[34],[92]].map eS)])),fun _=>rfl,fun _=>.p (by exact fk hC rfl rfl)⟩,⟨.b (.dc [.slb (c6 ((f.toNat:Int):Int).toNat)]),fun _=>rfl,fun _=>.p (by exact wG kE rfl rfl)⟩,⟨.b (.one (.sl 1 ((c6 ((f.toNat:Int):Int).toNat).map (eK .u8)))),fun _=>rfl,fun _=>.p (by exact (bg mb rfl rfl).weak (fun _ _ _ h=>Bl h))⟩,⟨_,[],I ((c6 ((f.toNat:Int):Int).toNat).length:Int),rfl,fun _=>rfl,rfl,rfl,fun _=>.wg [101] (by exact .p (by exact op_cpy mF e26 hc27 rfl rfl rfl rfl)) (by exact rfl)⟩,trivial,trivial,trivial⟩,⟨by kernel_rfl,⟨⟨I d,fun _=>rfl,fun _=>.p (by exact ey rfl)⟩,trivial,trivial,trivial,trivial,trivial,trivial,trivial,trivial,trivial,trivial,⟨I (i64.wrap (d+((c6 ((f.toNat:Int):Int).toNat).length:Int))),fun _=>rfl,fun _=>.p (by exact aL rfl rfl)⟩,⟨_,[],I (i64.wrap (d+((c6 ((f.toNat:Int):Int).toNat).length:Int))),rfl,fun _=>rfl,rfl,rfl,fun _=>.wg [101] (by exact .p (by exact uK rfl)) (by exact rfl)⟩,trivial⟩,⟨by kernel_rfl,⟨trivial,trivial,trivial,trivial,trivial,trivial,trivial,trivial,trivial,trivial,trivial,trivial,trivial,trivial⟩,trivial⟩⟩⟩) rfl rfl rfl [0,1,12,13,14] [101] (s':=⟨[(0,_),(1,_),(12,_),(13,I (i64.wrap (d+((c6 ((f.toNat:Int):Int).toNat).length:Int)))),(14,_)],[(101,.row 5 1 (ap.map (eK .u8)))]⟩) rfl ?_)
 refine Fin.px 12 101 rfl rfl (Dv e26) (Fin.aA ?_)
 exact Fin.join [0,1,12,13,14] [101] (ap,i64.wrap (d+((c6 ((f.toNat:Int):Int).toNat).length:Int))) (zaa h24) rfl
 refine ab.seq (ab.aa ?_)
 refine Oc om (Oc om (Oc om ?_))
 obtain⟨b1,e28,h24⟩:=aH h24
 refine Oc (fO mF (aR e28) (mK e28) rfl rfl rfl rfl) (Oc (nO (i:=(d:Int).toNat) Bh rfl rfl rfl rfl (CC e28) (map_set _ _ _ _)) (ae.ag ⟨[(0,_),(1,_),(12,_),(13,_),(14,_)],[(101,.row 5 1 ((a.set (d:Int).toNat (f.toNat:Int)).map (eK .u8)))]⟩ rfl (ab.aa (Oc om (Oc (aL rfl rfl) (Oc oa (ae.nil (Fin.aA ?_))))))))
 exact Fin.join [0,1,12,13,14] [101] (a.set (d:Int).toNat (f.toNat:Int),i64.wrap (d+1)) (zaa h24) rfl
 rintro⟨al,bk⟩ hv
 subst v23
 refine ab.aa (Oc om (Oc (aL rfl rfl) (Oc oa (ae.nil ?_))))
 exact Fin.bB [0,1,12,13,14] [101] (al,bk,i64.wrap (ac+1)) (zaa h21) rfl
 refine ab.exit (Fin.aw ?_)
 obtain rfl:=hy22 _ (zaa h21).symm
 refine Fin.aw (Fin.aJ ?_)
 exact Fin.join [12] [101] a rfl rfl
 rintro ad hv
 subst v18
 refine ab.seq (ab.aa ?_)
 refine Oc om (ae.c5 101 rfl (Oc (jK kS oe cb rfl) (Oc oa (ae.ag ⟨[(4,.b (.one (.str (toStr ad))))],[]⟩ rfl (ab.ret ?_)))))
 obtain rfl:=zaa h
 refine Fin.af ⟨[(4,_)],[]⟩ rfl (Fin.au [.one (.str (toStr ad))] (.inl rfl) rfl (.cons (.tmp rfl) .nil) ⟨rfl,rfl⟩)
def lF (F:Nat):Option Unit :=
 Option.bind (if (decide ((Int.tmod 4 2)=1))=true then (none) else (some ())) (fun _=>some ())
theorem u6 {F:Nat} {r:Unit} (h:lF F=some r):ax prog (bd mx) 57 [] [.one (.sl 1 ([[92],[92,92],[34],[92,34]].map eS))] (Is [(60,.box 159 [.int .u32 0,.int .i32 0,.int .u32 0,.raw .nilIface,.sl 1 ([[92],[92,92],[34],[92,34]].map eS)])] (.b (.ptr 60 0))):=by
 unfold lF at h
 refine ax.intro 12 Tryz.func57 Tryz.ntmps57 rfl (by simp) fun E=>(ab.seq (ab.aa ?_))
 refine Oc oa (ae.ag ⟨[(0,.b (.one (.sl 1 ([[92],[92,92],[34],[92,34]].map eS))))],[]⟩ rfl ?_)
 obtain⟨v1,h2,h⟩:=aH h
 refine ab.bR (v:=v1) (fun (_:Unit)=>⟨[(0,.b (.one (.sl 1 ([[92],[92,92],[34],[92,34]].map eS))))],[]⟩) (fun z=>z) ?_ ?_
 refine ab.seq (ab.aa ?_)
 refine Oc om (Oc (ba nB rfl (List.length_map _)) (Oc (lY (by decide) rfl rfl) (Oc (b8 rfl rfl) (ae.ag ⟨[(0,_),(6,B (decide ((Int.tmod 4 2)=1)))],[]⟩ rfl (ab.ite h2 rfl (fun _ h2=>?_) (fun _ h2=>?_))))))
 cases h2
 refine ab.skip ?_
 exact Fin.join [0] [] () (zaa h2) rfl
 rintro _ hv
 subst v1
 refine ab.seq (ab.aa ?_)
 refine Oc om (Oc (AN (k:=101) dX (by decide) (by decide) (by decide) rfl rfl) (ae.c5 101 rfl (Oc (Ce Au rfl rfl) (Oc (bE (k:=102) rfl rfl) (Oc oa (ae.ag ⟨[(2,Pt 102 0)],[(102,.box 159 [.int .u32 0,.int .i32 0,.int .u32 0,.raw .nilIface,.sl 1 ([[92],[92,92],[34],[92,34]].map eS)])]⟩ rfl (ab.ret ?_)))))))
 obtain rfl:=zaa h
 refine Fin.af ⟨[(2,Pt 102 0)],[(102,.box 159 [.int .u32 0,.int .i32 0,.int .u32 0,.raw .nilIface,.sl 1 ([[92],[92,92],[34],[92,34]].map eS)])]⟩ rfl (Fin.rename 102 60 rfl (by decide) rfl (Fin.af ⟨[(2,Pt 60 0)],[(60,.box 159 [.int .u32 0,.int .i32 0,.int .u32 0,.raw .nilIface,.sl 1 ([[92],[92,92],[34],[92,34]].map eS)])]⟩ rfl ?_))
 exact Fin.result [.ptr 60 0] (.inl rfl) rfl (.cons (.tmp rfl) .nil) ⟨rfl,rfl⟩
def fS (F:Nat) (s0:Str) (se:Int):Option Str :=
 (r6 F se).bind fun c=>(gC F s0).bind fun a=>some a
theorem qj {F:Nat} {s0:Str} {se:Int} {r:Str} (h:fS F s0 se=some r):ax prog (bd mx) 58 [(1,.box 159 [.int .u32 0,.int .i32 0,.int .u32 se,.raw .nilIface,.sl 1 ([[92],[92,92],[34],[92,34]].map eS)])] [.ptr 1 0,.one (.str s0)] (Is [(1,.box 159 [.int .u32 1,.int .i32 0,.int .u32 se,.yA 212 (fY c6 [.sl 1 ([toStr [34],toStr [92]].map eS)]),.sl 1 ([].map eS)])] (.b (.one (.str r)))):=by
 unfold fS at h
 refine ax.intro 17 Tryz.func58 Tryz.ntmps58 rfl (by simp) fun E=>(ab.seq (ab.aa ?_))
 refine Oc oa (ae.ag ⟨[(0,Pt 1 0),(1,.b (.one (.str s0)))],[(1,.box 159 [.int .u32 0,.int .i32 0,.int .u32 se,.raw .nilIface,.sl 1 ([[92],[92,92],[34],[92,34]].map eS)])]⟩ rfl (ab.seq (ab.aa ?_)))
 refine Oc om (Oc (aB rfl) (Oc (aj BU rfl rfl) (Oc om (Oc (iY rfl rfl) ?_))))
 obtain⟨c,e1,h⟩:=aH h
 refine Oc (cK (own_a:=[(1,_)]) (zw e1) goes117 rfl ⟨rfl,trivial⟩ rfl rfl) (ae.ag ⟨[(0,_),(1,_)],[(1,.box 159 [.int .u32 1,.int .i32 0,.int .u32 se,.yA 212 (fY c6 [.sl 1 ([toStr [34],toStr [92]].map eS)]),.sl 1 ([].map eS)])]⟩ rfl (ab.seq (ab.aa ?_)))
 refine Oc om (Oc (aB rfl) (Oc (aj xh rfl rfl) (Oc (ao zR rfl rfl rfl) (Oc om ?_))))
 obtain⟨a,e2,h⟩:=aH h
 refine Oc (Gr (own_a:=[]) (u4 e2) vI rfl rfl trivial rfl rfl) (Oc oa (ae.ag ⟨[(4,.b (.one (.str a)))],[(1,_)]⟩ rfl (ab.ret ?_)))
 obtain rfl:=zaa h
 refine Fin.af ⟨[(4,_)],[(1,_)]⟩ rfl ?_
 exact Fin.result [.one (.str a)] (.inl rfl) rfl (.cons (.tmp rfl) .nil) ⟨rfl,rfl⟩
def eX (F:Nat) (b0:Int):Option Bool :=
 bA ((decide (97<=(lx .u8 b0 32)))&&(decide ((lx .u8 b0 32)<=122))) fun a=>some (a&&(decide (b0<128)))
theorem kP {F:Nat} {b0:Int} {r:Bool} (h:eX F b0=some r):ax prog (bd mx) 91 [] [.one (.int .u8 b0)] (Is [] (.b (.one (.bool r)))):=by
 unfold eX at h
 refine ax.intro 15 Tryz.func91 Tryz.ntmps91 rfl (by simp) fun E=>(ab.seq (ab.aa ?_))
 refine Oc oa (ae.ag ⟨[(0,.b (.one (.int .u8 b0)))],[]⟩ rfl (ab.seq (ab.aa ?_)))
 refine Oc om (Oc (sg rfl rfl) (Oc (gf rfl rfl) (Oc om ?_)))
 refine cH (decide (97<=(lx .u8 b0 32))) [] (fun g1=>trivial) (fun g1=>om) (cH (decide (97<=(lx .u8 b0 32))) [7] (fun g2=>by exact⟨g2,trivial⟩) (fun g2=>sg rfl rfl) (cH (decide (97<=(lx .u8 b0 32))) [8] (fun g3=>by exact⟨g3,trivial⟩) (fun g3=>nY rfl rfl) (ae.af ⟨[(0,_),(6,B (decide (97<=(lx .u8 b0 32)))),(9,.opt (decide (97<=(lx .u8 b0 32))) (.one (.bool (decide ((lx .u8 b0 32)<=122)))))],[]⟩ rfl (ae.il h rfl (aD (fun e=>e) rfl rfl rfl rfl) (fun a h=>?_)))))
 refine Oc om (cH a [] (fun g4=>by exact trivial) (fun g4=>om) (cH a [12] (fun g5=>by exact⟨g5,trivial⟩) (fun g5=>bt rfl rfl) (Oc (aD (fun e=>e) rfl rfl rfl rfl) (Oc oa (ae.ag ⟨[(2,B (a&&(decide (b0<128))))],[]⟩ rfl (ab.ret ?_))))))
 obtain rfl:=zaa h
 refine Fin.af ⟨[(2,_)],[]⟩ rfl (Fin.au [.one (.bool (a&&(decide (b0<128))))] (.inl rfl) rfl (.cons (.tmp rfl) .nil) ⟨rfl,rfl⟩)
def gB (F:Nat) (b0:Int):Option Bool :=
 some ((decide (48<=b0))&&(decide (b0<=57)))
theorem lq {F:Nat} {b0:Int} {r:Bool} (h:gB F b0=some r):ax prog (bd mx) 95 [] [.one (.int .u8 b0)] (Is [] (.b (.one (.bool r)))):=by
 unfold gB at h
 refine ax.intro 9 Tryz.func95 Tryz.ntmps95 rfl (by simp) fun E=>(ab.seq (ab.aa ?_))
 refine Oc oa (ae.ag ⟨[(0,.b (.one (.int .u8 b0)))],[]⟩ rfl (ab.seq (ab.aa ?_)))
 refine Oc om (Oc (gf rfl rfl) (Oc om ?_))
 refine cH (decide (48<=b0)) [] (fun g1=>trivial) (fun g1=>om) (cH (decide (48<=b0)) [6] (fun g2=>by exact⟨g2,trivial⟩) (fun g2=>nY rfl rfl) (Oc (aD (fun e=>e) rfl rfl rfl rfl) (Oc oa (ae.ag ⟨[(2,B ((decide (48<=b0))&&(decide (b0<=57))))],[]⟩ rfl (ab.ret ?_)))))
 obtain rfl:=zaa h
 refine Fin.af ⟨[(2,_)],[]⟩ rfl (Fin.au [.one (.bool ((decide (48<=b0))&&(decide (b0<=57))))] (.inl rfl) rfl (.cons (.tmp rfl) .nil) ⟨rfl,rfl⟩)
def fC (F:Nat) (b0:Int):Option Bool :=
 (eX F b0).bind fun a=>(aT (!a) (gB F b0)).bind fun c=>some ((a||c)||(decide (b0=95)))
theorem nv {F:Nat} {b0:Int} {r:Bool} (h:fC F b0=some r):ax prog (bd mx) 94 [] [.one (.int .u8 b0)] (Is [] (.b (.one (.bool r)))):=by
 unfold fC at h
 refine ax.intro 13 Tryz.func94 Tryz.ntmps94 rfl (by simp) fun E=>(ab.seq (ab.aa ?_))
 refine Oc oa (ae.ag ⟨[(0,.b (.one (.int .u8 b0)))],[]⟩ rfl (ab.seq (ab.aa ?_)))
 refine Oc om ?_
 obtain⟨a,e1,h⟩:=aH h
 refine Oc (ah (kP e1) Bt rfl rfl) (Oc om ?_)
 refine dD (!a) [] (fun g2=>trivial) (fun g2=>om) (ae.af ⟨[(0,_),(5,B a),(6,.opt (!a) (.one (.int .u8 b0)))],[]⟩ rfl ?_)
 obtain⟨c,e4,h⟩:=aH h
 refine dD (!a) [6] (fun g3=>⟨g3,trivial⟩) (fun g3=>ah (lq (gc e4 g3)) Br rfl rfl) (Oc (aW (fun e=>by first|(rw[e];rfl)|(simp only at e;rw[e];rfl)) rfl rfl rfl rfl) (Oc om ?_))
 refine dD (!(a||c)) [] (fun g5=>trivial) (fun g5=>om) (dD (!(a||c)) [10] (fun g6=>by exact⟨g6,trivial⟩) (fun g6=>b8 rfl rfl) (Oc (aW (fun e=>by first|(rw[e];rfl)|(simp only at e;rw[e];rfl)) rfl rfl rfl rfl) (Oc oa (ae.ag ⟨[(2,B ((a||c)||(decide (b0=95))))],[]⟩ rfl (ab.ret ?_)))))
 obtain rfl:=zaa h
 refine Fin.af ⟨[(2,_)],[]⟩ rfl (Fin.au [.one (.bool ((a||c)||(decide (b0=95))))] (.inl rfl) rfl (.cons (.tmp rfl) .nil) ⟨rfl,rfl⟩)
def gF (F:Nat) (s0:Str) (c0:Int):Option Int :=
 (ll F s0 c0).bind fun a=>some a
theorem pY {F:Nat} {s0:Str} {c0 r:Int} (h:gF F s0 c0=some r):ax prog (bd mx) 100 [] [.one (.str s0),.one (.int .u8 c0)] (Is [] (.b (.one (.i r)))):=by
 unfold gF at h
 refine ax.intro 8 Tryz.func100 Tryz.ntmps100 rfl (by simp) fun E=>(ab.seq (ab.aa ?_))
 refine Oc oa (ae.ag ⟨[(0,.b (.one (.str s0))),(1,.b (.one (.int .u8 c0)))],[]⟩ rfl (ab.seq (ab.aa ?_)))
 refine Oc om (Oc om ?_)
 obtain⟨a,e1,h⟩:=aH h
 refine Oc (ah (r8 e1) goes138 rfl rfl) (Oc oa (ae.ag ⟨[(4,I a)],[]⟩ rfl (ab.ret ?_)))
 obtain rfl:=zaa h
 refine Fin.af ⟨[(4,_)],[]⟩ rfl (Fin.au [.one (.i a)] (.inl rfl) rfl (.cons (.tmp rfl) .nil) ⟨rfl,rfl⟩)
def fB (F:Nat) (b0:Int):Option Bool :=
 (gF F [32,9,10,13] b0).bind fun a=>some (decide (0<=a))
theorem nq {F:Nat} {b0:Int} {r:Bool} (h:fB F b0=some r):ax prog (bd mx) 99 [] [.one (.int .u8 b0)] (Is [] (.b (.one (.bool r)))):=by
 unfold fB at h
 refine ax.intro 6 Tryz.func99 Tryz.ntmps99 rfl (by simp) fun E=>(ab.seq (ab.aa ?_))
 refine Oc oa (ae.ag ⟨[(0,.b (.one (.int .u8 b0)))],[]⟩ rfl (ab.seq (ab.aa ?_)))
 refine Oc om ?_
 obtain⟨a,e1,h⟩:=aH h
 refine Oc (ah (pY e1) goes100 rfl rfl) (Oc (gf rfl rfl) (Oc oa (ae.ag ⟨[(2,B (decide (0<=a)))],[]⟩ rfl (ab.ret ?_))))
 obtain rfl:=zaa h
 refine Fin.af ⟨[(2,_)],[]⟩ rfl (Fin.au [.one (.bool (decide (0<=a)))] (.inl rfl) rfl (.cons (.tmp rfl) .nil) ⟨rfl,rfl⟩)
def fA (F:Nat) (b0:Int):Option Bool :=
 some (decide (b0≠10))
theorem np {F:Nat} {b0:Int} {r:Bool} (h:fA F b0=some r):ax prog (bd mx) 101 [] [.one (.int .u8 b0)] (Is [] (.b (.one (.bool r)))):=by
 unfold fA at h
 refine ax.intro 5 Tryz.func101 Tryz.ntmps101 rfl (by simp) fun E=>(ab.seq (ab.aa ?_))
 refine Oc oa (ae.ag ⟨[(0,.b (.one (.int .u8 b0)))],[]⟩ rfl (ab.seq (ab.aa ?_)))
 refine Oc om (Oc (dd rfl rfl) (Oc oa (ae.ag ⟨[(2,B (decide (b0≠10)))],[]⟩ rfl (ab.ret ?_))))
 obtain rfl:=zaa h
 refine Fin.af ⟨[(2,_)],[]⟩ rfl (Fin.au [.one (.bool (decide (b0≠10)))] (.inl rfl) rfl (.cons (.tmp rfl) .nil) ⟨rfl,rfl⟩)
def gq (F:Nat) (fn0:Nat) (b0:Int):Option Bool :=
 if fn0=94 then fC F b0 else if fn0=95 then gB F b0 else if fn0=99 then fB F b0 else if fn0=101 then fA F b0 else none
theorem AV {F fn0:Nat} {b0:Int} {r:Bool} (h:gq F fn0 b0=some r):ax prog (bd mx) fn0 [] [.one (.int .u8 b0)] (Is [] (.b (.one (.bool r)))):=by
 unfold gq at h
 split at h
 next e=>subst e;exact nv h
 next=>
  split at h
  next e=>subst e;exact lq h
  next=>
   split at h
   next e=>subst e;exact nq h
   next=>
    split at h
    next e=>subst e;exact np h
    next=>
     simp at h
theorem AW {F fn0:Nat} {b0:Int} {r:Bool} (h:gq F fn0 b0=some r):bq prog fn0:=by
 unfold gq at h
 split at h
 next e=>subst e;exact goes94
 next=>
  split at h
  next e=>subst e;exact Br
  next=>
   split at h
   next e=>subst e;exact goes99
   next=>
    split at h
    next e=>subst e;exact goes101
    next=>
     simp at h
def bx (F:Nat) (c:Str) (a:Int):Option Int :=
 if (decide (a=(c.length:Int)))=true then (some 0) else ((aS c a).bind fun d=>some (d.toNat:Int))
theorem bS {F:Nat} {c:Str} {a r:Int} (h:bx F c a=some r):ax prog (bd mx) 92 [(1,.box 77 [.str c,.i a])] [.ptr 1 0] (Is [(1,.box 77 [.str c,.i a])] (.b (.one (.int .u8 r)))):=by
 unfold bx at h
 refine ax.intro 22 Tryz.func92 Tryz.ntmps92 rfl (by simp) fun E=>(ab.seq (ab.aa ?_))
 refine Oc oa (ae.ag ⟨[(0,Pt 1 0)],[(1,.box 77 [.str c,.i a])]⟩ rfl (ab.seq (ab.seq ?_)))
 refine ab.af ⟨[(0,_)],[(1,_)]⟩ rfl (ab.bN mixed 10 [Pt 1 0,Pt 1 0,Pt 1 1,I a,Pt 1 0,Pt 1 0,Pt 1 0,.b (.one (.str c)),I (c.length:Int),B (decide (a=(c.length:Int)))] [0,12] [1] (s':=⟨[(0,_),(12,B (decide (a=(c.length:Int))))],[(1,_)]⟩) rfl ⟨fun _=>.p om,fun _=>.p (aB rfl),fun _=>.p (aj bL rfl rfl),fun _=>.p (ao bI rfl rfl rfl),fun _=>.p om,fun _=>.p (aB rfl),fun _=>.p (aj gO rfl rfl),fun _=>.p (ao b7 rfl rfl rfl),fun _=>.p (bh cb rfl),fun _=>.p (b8 rfl rfl),trivial⟩ rfl rfl (ab.ite h rfl (fun _ h=>?_) (fun _ h=>?_)))
 refine ab.seq (ab.aa ?_)
 refine Oc oa (ae.ag ⟨[(2,.b (.one (.int .u8 0)))],[(1,_)]⟩ rfl (ab.ret (Fin.ay ?_)))
 obtain rfl:=zaa h
 refine Fin.af ⟨[(2,_)],[(1,_)]⟩ rfl ?_
 exact Fin.result [.one (.int .u8 0)] (.inl rfl) rfl (.cons (.tmp rfl) .nil) ⟨rfl,rfl⟩
 refine ab.skip (Fin.af ⟨[(0,_)],[(1,_)]⟩ rfl (Fin.then (ab.seq (ab.af ⟨[(0,_)],[(1,_)]⟩ rfl ?_))))
 obtain⟨d,e1,h⟩:=aH h
 refine ab.bN mixed 10 [Pt 1 0,Pt 1 0,Pt 1 0,.b (.one (.str c)),Pt 1 0,Pt 1 0,Pt 1 1,I a,.b (.one (.int .u8 (d.toNat:Int))),.b (.one (.int .u8 (d.toNat:Int)))] [2] [1] (s':=⟨[(2,.b (.one (.int .u8 (d.toNat:Int))))],[(1,_)]⟩) rfl ⟨fun _=>.p om,fun _=>.p (aB rfl),fun _=>.p (aj gO rfl rfl),fun _=>.p (ao b7 rfl rfl rfl),fun _=>.p om,fun _=>.p (aB rfl),fun _=>.p (aj bL rfl rfl),fun _=>.p (ao bI rfl rfl rfl),fun _=>.p (aV cb rfl rfl (aR e1) (cF e1)),fun _=>.p oa,trivial⟩ rfl rfl (ab.ret ?_)
 obtain rfl:=zaa h
 refine Fin.af ⟨[(2,_)],[(1,_)]⟩ rfl ?_
 exact Fin.result [.one (.int .u8 (d.toNat:Int))] (.inl rfl) rfl (.cons (.tmp rfl) .nil) ⟨rfl,rfl⟩
def cG (F:Nat) (is0:Nat) (g:Str) (c:Int):Option (Int×Str×Int) :=
 Option.bind (iter F (fun a=>(aT (decide (a.pos<(a.s.length:Int))) (aS a.s a.pos)).bind fun e=>(aT (decide (a.pos<(a.s.length:Int))) (gq F is0 (e.toNat:Int))).bind fun f=>if ((decide (a.pos<(a.s.length:Int)))&&f)=true then (some (.inl (⟨a.s,i64.wrap (a.pos+1)⟩:Scan))) else (some (.inr a))) (⟨g,c⟩:Scan)) (fun d=>some (i64.wrap (d.pos-c),d.s,d.pos))
theorem eh {F is0:Nat} {f:Str} {c:Int} {r:Int×Str×Int} (h:cG F is0 f c=some r):ax prog (bd mx) 93 [(1,.box 77 [.str f,.i c])] [.ptr 1 0,.one (.raw (.func (.func is0) #[] #[]))] (Is [(1,.box 77 [.str r.2.1,.i r.2.2])] (.b (.one (.i r.1)))):=by
 unfold cG at h
 refine ax.intro 46 Tryz.func93 Tryz.ntmps93 rfl (by simp) fun E=>(ab.seq (ab.aa ?_))
 refine Oc oa (ae.ag ⟨[(0,Pt 1 0),(1,.b (.one (.raw (.func (.func is0) #[] #[]))))],[(1,.box 77 [.str f,.i c])]⟩ rfl (ab.seq (ab.aa ?_)))
 refine Oc om (Oc (aB rfl) (Oc (aj bL rfl rfl) (Oc (ao bI rfl rfl rfl) (Oc oa (ae.ag ⟨[(0,_),(1,_),(5,I c)],[(1,_)]⟩ rfl ?_)))))
 obtain⟨v1,h2,h⟩:=aH h
 refine ab.bR (v:=v1) (fun (d:Scan)=>⟨[(0,Pt 1 0),(5,I c)],[(1,.box 77 (jG d))]⟩) (fun z=>z) ?_ ?_
 refine ab.block (ab.cx h2 (fun (a:Scan)=>⟨[(0,Pt 1 0),(1,.b (.one (.raw (.func (.func is0) #[] #[])))),(5,I c)],[(1,.box 77 (jG a))]⟩) [0,1,5] [1] rfl ?_)
 rintro a o3 h4 hy5
 refine ab.seq (ab.seq (ab.af ⟨[(0,_),(1,_),(5,_)],[(1,_)]⟩ rfl ?_))
 obtain⟨j,e16,h4⟩:=aH h4
 obtain⟨g,e18,h4⟩:=aH h4
 refine ab.bN mixed 23 ((fun z_=>[Pt 1 0,Pt 1 0,Pt 1 1,I a.pos,Pt 1 0,Pt 1 0,Pt 1 0,.b (.one (.str a.s)),I (a.s.length:Int),B (decide (a.pos<(a.s.length:Int))),B (decide (a.pos<(a.s.length:Int))),.opt z_ (.one (.raw (.func (.func is0) #[] #[]))),.opt z_ (.ptr 1 0),.opt z_ (.ptr 1 0),.opt z_ (.ptr 1 0),.opt z_ (.one (.str a.s)),.opt z_ (.ptr 1 0),.opt z_ (.ptr 1 0),.opt z_ (.ptr 1 1),.opt z_ (.one (.i a.pos)),.opt z_ (.one (.int .u8 (j.toNat:Int))),.opt z_ (.one (.bool g)),B ((decide (a.pos<(a.s.length:Int)))&&g)]) (decide (a.pos<(a.s.length:Int)))) [0,1,5,32] [1] (s':=⟨[(0,_),(1,_),(5,_),(32,B ((decide (a.pos<(a.s.length:Int)))&&g))],[(1,_)]⟩) rfl ⟨fun _=>.p om,fun _=>.p (aB rfl),fun _=>.p (aj bL rfl rfl),fun _=>.p (ao bI rfl rfl rfl),fun _=>.p om,fun _=>.p (aB rfl),fun _=>.p (aj gO rfl rfl),fun _=>.p (ao b7 rfl rfl rfl),fun _=>.p (bh cb rfl),fun _=>.p (bt rfl rfl),fun _=>.p om,fun _=>by exact .guard (decide (a.pos<(a.s.length:Int))) 1 [] (.plain rfl) (cy _) rfl rfl (fun g6=>trivial) (fun g6=>om),fun _=>by exact .guard (decide (a.pos<(a.s.length:Int))) 1 [] (.plain rfl) (cy _) rfl rfl (fun g7=>trivial) (fun g7=>om),fun _=>by exact .guard (decide (a.pos<(a.s.length:Int))) 2 [22] (.plain rfl) (cy _) rfl rfl (fun g8=>⟨g8,trivial⟩) (fun g8=>aB rfl),fun _=>by exact .guard (decide (a.pos<(a.s.length:Int))) 2 [23] (.plain rfl) (cy _) rfl rfl (fun g9=>⟨g9,trivial⟩) (fun g9=>aj gO rfl rfl),fun _=>by exact .guard (decide (a.pos<(a.s.length:Int))) 2 [24] (.plain rfl) (cy _) rfl rfl (fun g10=>⟨g10,trivial⟩) (fun g10=>ao b7 rfl rfl rfl),fun _=>by exact .guard (decide (a.pos<(a.s.length:Int))) 1 [] (.plain rfl) (cy _) rfl rfl (fun g11=>trivial) (fun g11=>om),fun _=>by exact .guard (decide (a.pos<(a.s.length:Int))) 2 [26] (.plain rfl) (cy _) rfl rfl (fun g12=>⟨g12,trivial⟩) (fun g12=>aB rfl),fun _=>by exact .guard (decide (a.pos<(a.s.length:Int))) 2 [27] (.plain rfl) (cy _) rfl rfl (fun g13=>⟨g13,trivial⟩) (fun g13=>aj bL rfl rfl),fun _=>by exact .guard (decide (a.pos<(a.s.length:Int))) 2 [28] (.plain rfl) (cy _) rfl rfl (fun g14=>⟨g14,trivial⟩) (fun g14=>ao bI rfl rfl rfl),fun _=>by exact .guard (decide (a.pos<(a.s.length:Int))) 3 [25,29] (.plain rfl) (cy _) rfl rfl (fun g15=>⟨g15,g15,trivial⟩) (fun g15=>aV cb rfl rfl (aR (gc e16 g15)) (cF (gc e16 g15))),fun _=>by exact .guard (decide (a.pos<(a.s.length:Int))) 4 [21,30] (.plain rfl) (cy _) rfl rfl (fun g17=>⟨g17,g17,trivial⟩) (fun g17=>D9 (AV (gc e18 g17)) (AW (gc e18 g17)) rfl rfl rfl),fun _=>.p (aD (fun e=>e) rfl rfl rfl rfl),trivial⟩ rfl rfl ?_
 refine ab.ite h4 rfl (fun _ h4=>?_) (fun _ h4=>?_)
 refine ab.skip (Fin.af ⟨[(0,_),(1,_),(5,_)],[(1,_)]⟩ rfl (Fin.then (ab.block (ab.aa ?_))))
 refine Oc om (Oc (aB rfl) (Oc (aj bL rfl rfl) (Oc (ao bI rfl rfl rfl) (Oc (aL rfl rfl) (Oc (aB rfl) ?_)))))
 refine Oc (aj bL rfl rfl) (Oc (bF bI rfl rfl rfl (zab rfl) rfl) (ae.nil (Fin.aA ?_)))
 exact Fin.bB [0,1,5] [1] (⟨a.s,i64.wrap (a.pos+1)⟩:Scan) (zaa h4) rfl
 refine ab.exit (Fin.aw ?_)
 obtain rfl:=hy5 _ (zaa h4).symm
 refine Fin.aw (Fin.aJ ?_)
 exact Fin.join [0,5] [1] a rfl rfl
 rintro d hv
 subst v1
 refine ab.seq (ab.aa ?_)
 refine Oc om (Oc (aB rfl) (Oc (aj bL rfl rfl) (Oc (ao bI rfl rfl rfl) (Oc om (Oc (bW rfl rfl) ?_)))))
 refine Oc oa (ae.ag ⟨[(4,I (i64.wrap (d.pos-c)))],[(1,_)]⟩ rfl (ab.ret ?_))
 obtain rfl:=zaa h
 refine Fin.af ⟨[(4,_)],[(1,_)]⟩ rfl ?_
 exact Fin.result [.one (.i (i64.wrap (d.pos-c)))] (.inl rfl) rfl (.cons (.tmp rfl) .nil) ⟨rfl,rfl⟩
def bz (F:Nat) (at0:Int) (e0:Int) (c:Str) (a:Int):Option Problem :=
 some (⟨at0,e0⟩:Problem)
theorem cU {F:Nat} {at0 e0:Int} {c:Str} {a:Int} {r:Problem} (h:bz F at0 e0 c a=some r):kB prog (bd mx) 96 [(1,.box 77 [.str c,.i a])] [.ptr 1 0,.one (.i at0),.one (.i e0)] ((fun p:Problem=>.iface 46 (.agg #[.int .i64 p.At,.int .i64 p.E])) r) ((fun p:Problem=>lG .i64 p.At/\lG .i64 p.E) r):=by
 unfold bz at h
 refine fM.intro 10 Tryz.func96 Tryz.ntmps96 rfl (by simp) fun E=>(ab.aa (Oc om (Oc om (Oc (aU gP rfl rfl) (Oc (zp conc46 rfl) (ae.panic2 rfl (fun hok=>?_)))))))
 obtain rfl:=zaa h
 exact Fin.qw ⟨rfl,hok⟩
def lT (F:Nat) (x0:Str):Option Bool :=
 some (decide (x0≠x0))
theorem rk {F:Nat} {x0:Str} {r:Bool} (h:lT F x0=some r):ax prog (bd mx) 149 [] [.one (.str x0)] (Is [] (.b (.one (.bool r)))):=by
 unfold lT at h
 refine ax.intro 6 Tryz.func149 Tryz.ntmps149 rfl (by simp) fun E=>(ab.seq (ab.aa ?_))
 refine Oc oa (ae.ag ⟨[(0,.b (.one (.str x0)))],[]⟩ rfl (ab.seq (ab.aa ?_)))
 refine Oc om (Oc om (Oc (lg rfl rfl) (Oc oa (ae.ag ⟨[(2,B (decide (x0≠x0)))],[]⟩ rfl (ab.ret ?_)))))
 obtain rfl:=zaa h
 refine Fin.af ⟨[(2,_)],[]⟩ rfl (Fin.au [.one (.bool (decide (x0≠x0)))] (.inl rfl) rfl (.cons (.tmp rfl) .nil) ⟨rfl,rfl⟩)
def pM (F:Nat) (x0:Str) (y0:Str):Option Bool :=
 (lT F x0).bind fun a=>(aT a (lT F y0)).bind fun c=>some ((a&&(!c))||(Op.bytesLess x0 y0))
theorem xQ {F:Nat} {x0 y0:Str} {r:Bool} (h:pM F x0 y0=some r):ax prog (bd mx) 115 [] [.one (.str x0),.one (.str y0)] (Is [] (.b (.one (.bool r)))):=by
 unfold pM at h
 refine ax.intro 17 Tryz.func115 Tryz.ntmps115 rfl (by simp) fun E=>(ab.seq (ab.aa ?_))
 refine Oc oa (ae.ag ⟨[(0,.b (.one (.str x0))),(1,.b (.one (.str y0)))],[]⟩ rfl (ab.seq (ab.aa ?_)))
 refine Oc om ?_
 obtain⟨a,e1,h⟩:=aH h
 refine Oc (ah (rk e1) Db rfl rfl) (Oc om ?_)
 refine cH a [] (fun g2=>trivial) (fun g2=>om) (ae.af ⟨[(0,_),(1,_),(7,B a),(8,.opt a (.one (.str y0)))],[]⟩ rfl ?_)
 obtain⟨c,e4,h⟩:=aH h
 refine cH a [8] (fun g3=>⟨g3,trivial⟩) (fun g3=>ah (rk (gc e4 g3)) Db rfl rfl) (cH a [9] (fun g5=>⟨g5,trivial⟩) (fun g5=>cc rfl) (Oc (aD (fun e=>e) rfl rfl rfl rfl) (Oc om ?_)))
 refine dD (!(a&&(!c))) [] (fun g6=>trivial) (fun g6=>om) (dD (!(a&&(!c))) [] (fun g7=>by exact trivial) (fun g7=>om) (dD (!(a&&(!c))) [13,14] (fun g8=>by exact⟨g8,g8,trivial⟩) (fun g8=>Ca rfl rfl) (Oc (aW (fun e=>by first|(rw[e];rfl)|(simp only at e;rw[e];rfl)) rfl rfl rfl rfl) (Oc oa (ae.ag ⟨[(4,B ((a&&(!c))||(Op.bytesLess x0 y0)))],[]⟩ rfl (ab.ret ?_))))))
 obtain rfl:=zaa h
 refine Fin.af ⟨[(4,_)],[]⟩ rfl (Fin.au [.one (.bool ((a&&(!c))||(Op.bytesLess x0 y0)))] (.inl rfl) rfl (.cons (.tmp rfl) .nil) ⟨rfl,rfl⟩)
def iZ (F:Nat) (x0:Str):Option Bool :=
 some (decide (x0≠x0))
theorem nT {F:Nat} {x0:Str} {r:Bool} (h:iZ F x0=some r):ax prog (bd mx) 116 [] [.one (.str x0)] (Is [] (.b (.one (.bool r)))):=by
 unfold iZ at h
 refine ax.intro 6 Tryz.func116 Tryz.ntmps116 rfl (by simp) fun E=>(ab.seq (ab.aa ?_))
 refine Oc oa (ae.ag ⟨[(0,.b (.one (.str x0)))],[]⟩ rfl (ab.seq (ab.aa ?_)))
 refine Oc om (Oc om (Oc (lg rfl rfl) (Oc oa (ae.ag ⟨[(2,B (decide (x0≠x0)))],[]⟩ rfl (ab.ret ?_)))))
 obtain rfl:=zaa h
 refine Fin.af ⟨[(2,_)],[]⟩ rfl (Fin.au [.one (.bool (decide (x0≠x0)))] (.inl rfl) rfl (.cons (.tmp rfl) .nil) ⟨rfl,rfl⟩)
def fT (F:Nat) (x0:List Str) (target0:Str):Option (Int×Bool) :=
 Option.bind (iter F (bQ fun c f=>if (decide (c<f))=true then (bA (u64.wrap (i64.wrap (c+f))) fun g=>(aS x0 (i64.wrap (g/2))).bind fun m=>(pM F m target0).bind fun o=>if o=true then (bA (i64.wrap ((i64.wrap (g/2))+1)) fun q=>some (.inl (q,f))) else (some (.inl (c,i64.wrap (g/2))))) else (some (.inr c))) (0,(x0.length:Int))) (fun a=>(aT (decide (a<(x0.length:Int))) (aS x0 a)).bind fun d=>(aT ((decide (a<(x0.length:Int))) && !(decide (d=target0))) (aS x0 a)).bind fun h=>(aT ((decide (a<(x0.length:Int))) && !(decide (d=target0))) (iZ F h)).bind fun e=>(aT (((decide (a<(x0.length:Int))) && !(decide (d=target0)))&&e) (iZ F target0)).bind fun j=>bA ((decide (a<(x0.length:Int)))&&((decide (d=target0))||(e&&j))) fun k=>some (a,k))
theorem n6 {F:Nat} {x0:List Str} {target0:Str} {r:Int×Bool} (h:fT F x0 target0=some r):ax prog (bd mx) 56 [] [.one (.sl 1 (x0.map eS)),.one (.str target0)] (Is [] (.gS [.one (.i r.1),.one (.bool r.2)])):=by
 unfold fT at h
 refine ax.intro 54 Tryz.func56 Tryz.ntmps56 rfl (by simp) fun E=>(ab.seq (ab.aa ?_))
 refine Oc oa (Oc oa (ae.ag ⟨[(0,.b (.one (.sl 1 (x0.map eS)))),(1,.b (.one (.str target0)))],[]⟩ rfl (ab.seq (ab.aa ?_))))
 refine Oc om (Oc (ba nB rfl (List.length_map _)) (Oc oa (ae.ag ⟨[(0,_),(1,_),(6,I (x0.length:Int))],[]⟩ rfl (ab.seq (ab.aa ?_)))))
 refine Oc om (Oc oa (Oc oa (ae.ag ⟨[(0,_),(1,_),(6,_),(7,I 0),(8,I (x0.length:Int))],[]⟩ rfl ?_)))
 obtain⟨v1,h2,h⟩:=aH h
 refine ab.bR (v:=v1) (fun (a:Int)=>⟨[(0,.b (.one (.sl 1 (x0.map eS)))),(1,.b (.one (.str target0))),(6,I (x0.length:Int)),(7,I a)],[]⟩) (fun z=>z) ?_ ?_
 refine ab.block (ab.cx h2 (bQ fun (f:Int) (g:Int)=>⟨[(0,.b (.one (.sl 1 (x0.map eS)))),(1,.b (.one (.str target0))),(6,I (x0.length:Int)),(7,I f),(8,I g)],[]⟩) [0,1,6,7,8] [] rfl ?_)
 rintro⟨f,g⟩ o3 h4 hy5
 refine ab.seq (ab.seq (ab.aa ?_))
 refine Oc om (Oc om (Oc (bt rfl rfl) (ae.ag ⟨[(0,_),(1,_),(6,_),(7,_),(8,_),(15,B (decide (f<g)))],[]⟩ rfl (ab.ite h4 rfl (fun _ h4=>?_) (fun _ h4=>?_)))))
 refine ab.skip (Fin.af ⟨[(0,_),(1,_),(6,_),(7,_),(8,_)],[]⟩ rfl (Fin.then (ab.block (ab.seq (ab.aa ?_)))))
 refine Oc om (Oc om (Oc (aL rfl rfl) ?_))
 refine ae.cJ .u64 h4 rfl (aE nA ES rfl) (fun k h4=>?_)
 refine Oc (jh (m:=1) (by decide) rfl rfl rfl) (Oc (aE ES nA rfl) (Oc oa (ae.ag ⟨[(0,_),(1,_),(6,_),(7,_),(8,_),(9,I (i64.wrap (k/2)))],[]⟩ rfl (ab.seq (ab.aa ?_)))))
 refine Oc om (Oc om ?_)
 obtain⟨w,e6,h4⟩:=aH h4
 refine Oc (bm dX (aR e6) (cu (e:=eS) e6) rfl rfl) (Oc (bg b7 rfl rfl) (Oc om ?_))
 obtain⟨q,e7,h4⟩:=aH h4
 refine Oc (ah (xQ e7) goes115 rfl rfl) (ae.ag ⟨[(0,_),(1,_),(6,_),(7,_),(8,_),(9,_),(27,B q)],[]⟩ rfl (ab.ite h4 rfl (fun _ h4=>?_) (fun _ h4=>?_)))
 refine ab.aa (Oc om (ae.cJ .i64 h4 rfl (aL rfl rfl) (fun t h4=>?_)))
 refine Oc oa (ae.nil (Fin.aA ?_))
 exact Fin.bB [0,1,6,7,8] [] (t,g) (zaa h4) rfl
 refine ab.aa (Oc om (Oc oa (ae.nil (Fin.aA ?_))))
 exact Fin.bB [0,1,6,7,8] [] (f,i64.wrap (k/2)) (zaa h4) rfl
 refine ab.exit (Fin.aw ?_)
 obtain rfl:=hy5 _ (zaa h4).symm
 refine Fin.aw (Fin.aJ ?_)
 exact Fin.join [0,1,6,7] [] f rfl rfl
 rintro a hv
 subst v1
 refine ab.seq (ab.aa ?_)
 refine Oc om (Oc om (Oc om (Oc (bt rfl rfl) (Oc om ?_))))
 refine cH (decide (a<(x0.length:Int))) [] (fun g8=>trivial) (fun g8=>om) (cH (decide (a<(x0.length:Int))) [] (fun g9=>by exact trivial) (fun g9=>om) (ae.af ⟨[(0,_),(1,_),(7,_),(31,I a),(35,B (decide (a<(x0.length:Int)))),(36,.opt (decide (a<(x0.length:Int))) (.one (.sl 1 (x0.map eS)))),(37,.opt (decide (a<(x0.length:Int))) (.one (.i a)))],[]⟩ rfl ?_))
 obtain⟨c,e11,h⟩:=aH h
 refine cH (decide (a<(x0.length:Int))) [36,37] (fun g10=>⟨g10,g10,trivial⟩) (fun g10=>bm dX (aR (gc e11 g10)) (cu (e:=eS) (gc e11 g10)) rfl rfl) (cH (decide (a<(x0.length:Int))) [38] (fun g12=>⟨g12,trivial⟩) (fun g12=>bg b7 rfl rfl) (cH (decide (a<(x0.length:Int))) [] (fun g13=>trivial) (fun g13=>om) (cH (decide (a<(x0.length:Int))) [39,40] (fun g14=>by exact⟨g14,g14,trivial⟩) (fun g14=>iU rfl rfl) (cH (decide (a<(x0.length:Int))) [41] (fun g15=>by exact⟨g15,trivial⟩) (fun g15=>om) (ae.dQ ((decide (a<(x0.length:Int))) && !(decide (c=target0))) 99 [] (.under rfl) (ec _ _) rfl rfl (fun g16=>by exact trivial) (fun g16=>om) ?_)))))
 refine ae.dQ ((decide (a<(x0.length:Int))) && !(decide (c=target0))) 99 [] (.under rfl) (ec _ _) rfl rfl (fun g17=>trivial) (fun g17=>om) ?_
 obtain⟨o,e19,h⟩:=aH h
 refine ae.dQ ((decide (a<(x0.length:Int))) && !(decide (c=target0))) 99 [43,44] (.under rfl) (ec _ _) rfl rfl (fun g18=>⟨g18,g18,trivial⟩) (fun g18=>bm dX (aR (gc e19 g18)) (cu (e:=eS) (gc e19 g18)) rfl rfl) (ae.af ⟨[(1,_),(31,_),(35,_),(42,.opt (decide (a<(x0.length:Int))) (.one (.bool (decide (c=target0))))),(45,.opt ((decide (a<(x0.length:Int))) && !(decide (c=target0))) (.dc [.str o]))],[]⟩ rfl (ae.dQ ((decide (a<(x0.length:Int))) && !(decide (c=target0))) 99 [45] (.under rfl) (ec _ _) rfl rfl (fun g20=>⟨g20,trivial⟩) (fun g20=>bg b7 rfl rfl) ?_))
 obtain⟨d,e22,h⟩:=aH h
 refine ae.dQ ((decide (a<(x0.length:Int))) && !(decide (c=target0))) 99 [46] (.under rfl) (ec _ _) rfl rfl (fun g21=>⟨g21,trivial⟩) (fun g21=>ah (nT (gc e22 g21)) Dh rfl rfl) (ae.dQ ((decide (a<(x0.length:Int))) && !(decide (c=target0))) 99 [47] (.under rfl) (ec _ _) rfl rfl (fun g23=>⟨g23,trivial⟩) (fun g23=>om) (ae.dQ (((decide (a<(x0.length:Int))) && !(decide (c=target0)))&&d) 99 [] (.under rfl) (j4 _ _) rfl rfl (fun g24=>trivial) (fun g24=>om) (ae.af ⟨[(31,_),(35,_),(42,_),(48,.opt ((decide (a<(x0.length:Int))) && !(decide (c=target0))) (.one (.bool d))),(49,.opt (((decide (a<(x0.length:Int))) && !(decide (c=target0)))&&d) (.one (.str target0)))],[]⟩ rfl ?_)))
 obtain⟨u,e26,h⟩:=aH h
 refine ae.dQ (((decide (a<(x0.length:Int))) && !(decide (c=target0)))&&d) 99 [49] (.under rfl) (j4 _ _) rfl rfl (fun g25=>⟨g25,trivial⟩) (fun g25=>ah (nT (gc e26 g25)) Dh rfl rfl) (ae.dQ ((decide (a<(x0.length:Int))) && !(decide (c=target0))) 99 [48] (.under rfl) (ec _ _) rfl rfl (fun g27=>⟨g27,trivial⟩) (fun g27=>aD (fun e=>by rw[g27,e];rfl) rfl rfl rfl rfl) (cH (decide (a<(x0.length:Int))) [42] (fun g28=>⟨g28,trivial⟩) (fun g28=>aW (fun e=>by rw[g28,e];rfl) rfl rfl rfl rfl) (ae.il h rfl (aD (fun e=>e) rfl rfl rfl rfl) (fun j h=>?_))))
 refine Oc oa (Oc oa (ae.ag ⟨[(4,I a),(5,B j)],[]⟩ rfl (ab.ret ?_)))
 obtain rfl:=zaa h
 refine Fin.af ⟨[(4,_),(5,_)],[]⟩ rfl (Fin.au [.one (.i a),.one (.bool j)] (.inl rfl) rfl (.cons (.tmp rfl) (.cons (.tmp rfl) .nil)) ⟨rfl,rfl⟩)
def fw (F:Nat) (s0:Str):Option Bool :=
 Option.bind (fT F fJ s0) (bQ fun c a=>some a)
theorem l5 {F:Nat} {s0:Str} {r:Bool} (h:fw F s0=some r):ax prog (bd mx) 25 [] [.one (.str s0)] (Is [] (.b (.one (.bool r)))):=by
 unfold fw at h
 refine ax.intro 12 Tryz.func25 Tryz.ntmps25 rfl (by simp) fun E=>(ab.seq (ab.aa ?_))
 refine Oc oa (ae.ag ⟨[(0,.b (.one (.str s0)))],[]⟩ rfl (ab.seq (ab.aa ?_)))
 refine Oc (xm (xs:=fJ) (enc:=eS) DH DG tyArr88 rfl rfl (fun _=>rfl) (by rw[dn];decide)) (Oc om ?_)
 obtain⟨⟨c,a⟩,e1,h⟩:=aH h
 refine Oc (ah (n6 e1) goes56 rfl rfl) (Oc om (Oc (aG rfl rfl) (ae.af ⟨[(5,.gS [.one (.i c),.one (.bool a)]),(9,I c)],[]⟩ rfl (Oc (aG rfl rfl) (Oc oa (Oc oa (ae.ag ⟨[(4,B a)],[]⟩ rfl (ab.seq (ab.aa ?_)))))))))
 refine Oc om (Oc oa (ae.ag ⟨[(2,B a)],[]⟩ rfl (ab.ret ?_)))
 obtain rfl:=zaa h
 refine Fin.af ⟨[(2,_)],[]⟩ rfl (Fin.au [.one (.bool a)] (.inl rfl) rfl (.cons (.tmp rfl) .nil) ⟨rfl,rfl⟩)
def cC (F:Nat) (e:Str) (a:Int):Option ((Token×Bool×Str×Int)⊕Problem) :=
 (bx F e a).bind fun j=>(eX F j).bind fun k=>if (!k)=true then (some (.inl ((⟨0,0,[]⟩:Token),false,e,a))) else (Option.bind (Option.bind (cG F 94 e a) (iJ fun m f g=>if (decide (32<m))=true then ((bz F a 2 f g).bind fun o=>some (.inr (.inr o))) else (some (.inl (⟨f,g⟩:Scan))))) (cW (fun c=>Option.bind (vF c.s a c.pos) (fun d=>Option.bind ((fw F d).bind fun h=>if h=true then (some (⟨1,a,d⟩:Token)) else (some (⟨2,a,d⟩:Token))) (fun q=>some (.inl (q,true,c.s,c.pos))))) (fun y=>some y)))
theorem jO {F:Nat} {g:Str} {a:Int} {r:(Token×Bool×Str×Int)⊕Problem} (h:cC F g a=some r):fM prog (bd mx) 41 [(1,.box 77 [.str g,.i a])] [.ptr 1 0] (IsP r (fun (r:Token×Bool×Str×Int)=>[(1,.box 77 [.str r.2.2.1,.i r.2.2.2])]) (fun (r:Token×Bool×Str×Int)=>.gS [.agg (aC r.1),.one (.bool r.2.1)])) (DF r (fun p:Problem=>.iface 46 (.agg #[.int .i64 p.At,.int .i64 p.E])) (fun p:Problem=>lG .i64 p.At/\lG .i64 p.E)):=by
 unfold cC at h
 refine fM.intro 38 Tryz.func41 Tryz.ntmps41 rfl (by simp) fun E=>(ab.seq (ab.aa ?_))
 refine Oc (aF (k:=101) im rfl) (Oc oa (ae.ag ⟨[(0,Pt 1 0),(2,Pt 101 0)],[(1,.box 77 [.str g,.i a]),(101,.box 31 [.i 0,.i 0,.str []])]⟩ rfl (ab.seq (ab.aa ?_))))
 refine Oc om (Oc (aB rfl) (Oc (aj bL rfl rfl) (Oc (ao bI rfl rfl rfl) (Oc oa (ae.ag ⟨[(0,_),(2,_),(4,I a)],[(1,_),(101,_)]⟩ rfl (ab.seq (ab.seq (ab.aa ?_))))))))
 refine Oc om ?_
 obtain⟨u,e1,h⟩:=aH h
 refine Oc (cK (own_a:=[(1,_)]) (bS e1) n2 rfl ⟨rfl,trivial⟩ rfl rfl) ?_
 obtain⟨q,e2,h⟩:=aH h
 refine Oc (ah (kP e2) Bt rfl rfl) (Oc (cc rfl) (ae.ag ⟨[(0,_),(2,_),(4,_),(13,B (!q))],[(1,_),(101,_)]⟩ rfl (ab.ite h rfl (fun _ h=>?_) (fun _ h=>?_))))
 refine ab.seq (ab.aa ?_)
 refine Oc (aU cz rfl rfl) (Oc (an bK rfl rfl rfl rfl (zab rfl) rfl) (Oc oa (ae.ag ⟨[(2,_),(3,B false)],[(1,_),(101,_)]⟩ rfl (ab.ret (Fin.ay ?_)))))
 obtain rfl:=zaa h
 refine Fin.af ⟨[(2,_),(3,_)],[(1,_),(101,_)]⟩ rfl (Fin.Bc (.inl rfl) ?_)
 exact Fin.pr [1] [.agg [.i 0,.i 0,.str []],.one (.bool false)] (.inl rfl) rfl (.cons (.zx (.agg bK rfl rfl rfl rfl)) (.cons (.zx (.tmp rfl)) .nil)) ⟨_,rfl,rfl,rfl⟩
 refine ab.skip (Fin.af ⟨[(0,_),(2,_),(4,_)],[(1,_),(101,_)]⟩ rfl (Fin.then ?_))
 obtain⟨v3,h4,h⟩:=aH h
 refine ab.bR (v:=v3) (fun (c:Scan)=>⟨[(0,Pt 1 0),(2,Pt 101 0),(4,I a)],[(1,.box 77 (jG c)),(101,.box 31 [.i 0,.i 0,.str []])]⟩) (fun z=>.inl z) ?_ ?_
 refine ab.seq (ab.aa ?_)
 refine Oc om ?_
 obtain⟨⟨t,j,m⟩,e5,h4⟩:=aH h4
 refine Oc (cK (own_a:=[(1,_)]) (eh e5) wM rfl ⟨rfl,trivial⟩ rfl rfl) (Oc (dy rfl rfl) (ae.ag ⟨[(0,_),(2,_),(4,_),(17,B (decide (32<t)))],[(1,.box 77 [.str j,.i m]),(101,_)]⟩ rfl (ab.ite h4 rfl (fun _ h4=>?_) (fun _ h4=>?_))))
 refine ab.aa (Oc om (Oc om ?_))
 obtain⟨w,e6,h4⟩:=aH h4
 refine ae.rP (own_a:=[(1,_)]) (cU e6) sN rfl ⟨rfl,trivial⟩ (fun hok=>?_)
 obtain rfl:=zaa h4
 refine Fin.bU ?_
 obtain rfl:=zaa h
 exact Fin.qw ⟨_,rfl,rfl,hok⟩
 refine ab.skip ?_
 exact Fin.join [0,2,4] [1,101] (⟨j,m⟩:Scan) (zaa h4) rfl
 rintro c hv
 subst v3
 refine ab.seq (ab.af ⟨[(0,_),(2,_),(4,_)],[(1,_),(101,_)]⟩ rfl ?_)
 obtain⟨d,e7,h⟩:=aH h
 refine ab.pw mixed [false,false,false,false,false,false,false,false,false,false,false,false,true,true] [I a,Pt 1 0,Pt 1 0,Pt 1 0,.b (.one (.str c.s)),I a,Pt 1 0,Pt 1 0,Pt 1 1,I c.pos,.b (.one (.str d)),.b (.agg [.i 2,.i a,.str d]),Pt 102 0,B true] [⟨[false,false,false,false,false,false,false,false,false,false,false,false,false,false],[(0,Pt 1 0),(2,Pt 101 0),(4,I a)],[(1,.box 77 (jG c)),(101,.box 31 [.i 0,.i 0,.str []])],[true,true,true,true,true,true,true,true,true,true,true,true,true,true],[],[13]⟩,⟨[false,false,false,false,false,false,false,false,false,false,false,false,true,false],[(0,Pt 1 0),(2,Pt 101 0),(4,I a)],[(1,.box 77 (jG c)),(101,.box 31 [.i 0,.i 0,.str []]),(102,.box 31 [.i 0,.i 0,.str []])],[true,true,true,true,true,true,true,true,true,true,true,true,true,true],[12],[]⟩,⟨[false,false,false,false,false,false,false,false,false,false,false,false,true,true],[(0,Pt 1 0),(2,Pt 101 0),(4,I a)],[(1,.box 77 (jG c)),(101,.box 31 [.i 0,.i 0,.str []]),(102,.box 31 [.i 2,.i a,.str d])],[true,true,true,true,true,true,true,true,true,true,true,true,true,true],[0,1,2,3,4,5,6,7,8,9,10,11,12,13],[]⟩] rfl (⟨by kernel_rfl,⟨⟨I a,fun _=>rfl,fun _=>.p (by exact ey rfl)⟩,⟨Pt 1 0,fun _=>rfl,fun _=>.p (by exact ey rfl)⟩,⟨Pt 1 0,fun _=>rfl,fun _=>.p (by exact aB rfl)⟩,⟨Pt 1 0,fun _=>rfl,fun _=>.p (by exact aj gO rfl rfl)⟩,⟨.b (.one (.str c.s)),fun _=>rfl,fun _=>.p (by exact ao b7 rfl rfl rfl)⟩,⟨I a,fun _=>rfl,fun _=>.p (by exact ey rfl)⟩,⟨Pt 1 0,fun _=>rfl,fun _=>.p (by exact ey rfl)⟩,⟨Pt 1 0,fun _=>rfl,fun _=>.p (by exact aB rfl)⟩,⟨Pt 1 1,fun _=>rfl,fun _=>.p (by exact aj bL rfl rfl)⟩,⟨I c.pos,fun _=>rfl,fun _=>.p (by exact ao bI rfl rfl rfl)⟩,⟨.b (.one (.str d)),fun _=>rfl,fun _=>.p (by exact gx cb e7 rfl rfl rfl)⟩,⟨.b (.agg [.i 2,.i a,.str d]),fun _=>rfl,fun _=>.p (by exact aU cz rfl rfl)⟩,⟨_,[102],Pt 102 0,rfl,fun _=>rfl,rfl,rfl,fun _=>.wg [1,101,102] (by exact .p (by exact aF (k:=102) im rfl)) (by exact rfl)⟩,trivial,trivial⟩,⟨by kernel_rfl,⟨⟨I a,fun _=>rfl,fun _=>.p (by exact ey rfl)⟩,⟨Pt 1 0,fun _=>rfl,fun _=>.p (by exact ey rfl)⟩,⟨Pt 1 0,fun _=>rfl,fun _=>.p (by exact aB rfl)⟩,⟨Pt 1 0,fun _=>rfl,fun _=>.p (by exact aj gO rfl rfl)⟩,⟨.b (.one (.str c.s)),fun _=>rfl,fun _=>.p (by exact ao b7 rfl rfl rfl)⟩,⟨I a,fun _=>rfl,fun _=>.p (by exact ey rfl)⟩,⟨Pt 1 0,fun _=>rfl,fun _=>.p (by exact ey rfl)⟩,⟨Pt 1 0,fun _=>rfl,fun _=>.p (by exact aB rfl)⟩,⟨Pt 1 1,fun _=>rfl,fun _=>.p (by exact aj bL rfl rfl)⟩,⟨I c.pos,fun _=>rfl,fun _=>.p (by exact ao bI rfl rfl rfl)⟩,⟨.b (.one (.str d)),fun _=>rfl,fun _=>.p (by exact gx cb e7 rfl rfl rfl)⟩,⟨.b (.agg [.i 2,.i a,.str d]),fun _=>rfl,fun _=>.p (by exact aU cz rfl rfl)⟩,trivial,⟨_,[],.b (.one .any),rfl,(fun e=>by simp at e),rfl,rfl,fun _=>.wg [1,101,102] (by exact .p (by exact an bK rfl rfl rfl rfl (zab rfl) rfl)) (by exact rfl)⟩,trivial⟩,⟨by kernel_rfl,⟨trivial,trivial,trivial,trivial,trivial,trivial,trivial,trivial,trivial,trivial,trivial,trivial,trivial,trivial,trivial⟩,trivial⟩⟩⟩) rfl rfl rfl [2,5] [1,101,102] (s':=⟨[(2,_),(5,Pt 102 0)],[(1,_),(101,_),(102,.box 31 [.i 2,.i a,.str d])]⟩) rfl ?_
 obtain⟨v8,h9,h⟩:=aH h
 refine ab.bR (v:=v8) (fun (f:Token)=>⟨[(2,Pt 101 0),(5,Pt 102 0)],[(1,.box 77 (jG c)),(101,.box 31 [.i 0,.i 0,.str []]),(102,.box 31 (aC f))]⟩) (fun z=>z) ?_ ?_
 refine ab.seq (ab.aa ?_)
 refine Oc (aj dS rfl rfl) (Oc (ao b7 rfl rfl rfl) ?_)
 obtain⟨o,e10,h9⟩:=aH h9
 refine Oc (ah (l5 e10) Bx rfl rfl) (ae.ag ⟨[(2,_),(5,_),(35,B o)],[(1,_),(101,_),(102,_)]⟩ rfl (ab.ite h9 rfl (fun _ h9=>?_) (fun _ h9=>?_)))
 refine ab.aa (Oc (aj j7 rfl rfl) (Oc (bF bI rfl rfl rfl (zab rfl) rfl) (ae.nil ?_)))
 exact Fin.join [2,5] [1,101,102] (⟨1,a,d⟩:Token) (zaa h9) rfl
 refine ab.skip ?_
 exact Fin.join [2,5] [1,101,102] (⟨2,a,d⟩:Token) (zaa h9) rfl
 rintro f hv
 subst v8
 refine ab.seq (ab.aa ?_)
 refine Oc (lp bK) (Oc (an bK rfl rfl rfl rfl (zab rfl) rfl) (Oc oa (ae.ag ⟨[(2,_),(3,B true)],[(1,_),(101,.box 31 (aC f))]⟩ rfl (ab.ret ?_))))
 obtain rfl:=zaa h
 refine Fin.af ⟨[(2,_),(3,_)],[(1,_),(101,_)]⟩ rfl (Fin.Bc (.inl rfl) ?_)
 exact Fin.pr [1] [.agg (aC f),.one (.bool true)] (.inl rfl) rfl (.cons (.zx (.agg bK rfl rfl rfl rfl)) (.cons (.zx (.tmp rfl)) .nil)) ⟨_,rfl,rfl,rfl⟩
theorem oW {F:Nat} {c:Str} {a:Int} {r:Token×Bool×Str×Int} (h:cC F c a=some (.inl r)):ax prog (bd mx) 41 [(1,.box 77 [.str c,.i a])] [.ptr 1 0] (Is [(1,.box 77 [.str r.2.2.1,.i r.2.2.2])] (.gS [.agg (aC r.1),.one (.bool r.2.1)])):=(jO h).spec
theorem p7 {F:Nat} {c:Str} {a:Int} {p:Problem} (h:cC F c a=some (.inr p)):kB prog (bd mx) 41 [(1,.box 77 [.str c,.i a])] [.ptr 1 0] ((fun p:Problem=>.iface 46 (.agg #[.int .i64 p.At,.int .i64 p.E])) p) ((fun p:Problem=>lG .i64 p.At/\lG .i64 p.E) p):=(jO h).Cw
def cf (F:Nat) (ad:Str) (c:Int):Option ((Token×Bool×Str×Int)⊕Problem) :=
 Option.bind (cG F 95 ad c) (iJ fun f d e=>if (decide (f=0))=true then (some (.inl ((⟨0,0,[]⟩:Token),false,d,e))) else (Option.bind ((bx F d e).bind fun k=>(aT ((decide (k=46))&&(decide ((i64.wrap (e+1))<(d.length:Int)))) (aS d (i64.wrap (e+1)))).bind fun x=>(aT ((decide (k=46))&&(decide ((i64.wrap (e+1))<(d.length:Int)))) (gB F (x.toNat:Int))).bind fun z=>if (((decide (k=46))&&(decide ((i64.wrap (e+1))<(d.length:Int))))&&z)=true then (Option.bind (cG F 95 d (i64.wrap (e+1))) (iJ fun ac m o=>some ((⟨m,o⟩:Scan),ac))) else (some ((⟨d,e⟩:Scan),0))) (bQ fun a h=>Option.bind (if (decide (40<(i64.wrap (f+h))))=true then ((bz F c 2 a.s a.pos).bind fun q=>some (.inr (.inr q))) else ((aT (decide (1<f)) (aS a.s c)).bind fun g=>(aT (!((decide (1<f))&&(decide ((g.toNat:Int)=48)))) (bx F a.s a.pos)).bind fun r=>(aT (!((decide (1<f))&&(decide ((g.toNat:Int)=48)))) (eX F r)).bind fun t=>bA (((decide (1<f))&&(decide ((g.toNat:Int)=48)))||t) fun j=>(aT (!j) (bx F a.s a.pos)).bind fun u=>if (j||(decide (u=95)))=true then ((bz F c 281 a.s a.pos).bind fun v=>some (.inr (.inr v))) else (some (.inl ())))) (cW (fun _=>Option.bind (vF a.s c a.pos) (fun w=>some (.inl ((⟨3,c,w⟩:Token),true,a.s,a.pos)))) (fun y=>some y)))))
theorem jd {F:Nat} {w:Str} {f:Int} {r:(Token×Bool×Str×Int)⊕Problem} (h:cf F w f=some r):fM prog (bd mx) 42 [(1,.box 77 [.str w,.i f])] [.ptr 1 0] (IsP r (fun (r:Token×Bool×Str×Int)=>[(1,.box 77 [.str r.2.2.1,.i r.2.2.2])]) (fun (r:Token×Bool×Str×Int)=>.gS [.agg (aC r.1),.one (.bool r.2.1)])) (DF r (fun p:Problem=>.iface 46 (.agg #[.int .i64 p.At,.int .i64 p.E])) (fun p:Problem=>lG .i64 p.At/\lG .i64 p.E)):=by
 unfold cf at h
 refine fM.intro 99 Tryz.func42 Tryz.ntmps42 rfl (by simp) fun E=>(ab.seq (ab.aa ?_))
 refine Oc (aF (k:=101) im rfl) (Oc oa (ae.ag ⟨[(0,Pt 1 0),(2,Pt 101 0)],[(1,.box 77 [.str w,.i f]),(101,.box 31 [.i 0,.i 0,.str []])]⟩ rfl (ab.seq (ab.aa ?_))))
 refine Oc om (Oc (aB rfl) (Oc (aj bL rfl rfl) (Oc (ao bI rfl rfl rfl) (Oc oa (ae.ag ⟨[(0,_),(2,_),(4,I f)],[(1,_),(101,_)]⟩ rfl (ab.seq (ab.aa ?_)))))))
 refine Oc om ?_
 obtain⟨⟨g,d,c⟩,e1,h⟩:=aH h
 refine Oc (cK (own_a:=[(1,_)]) (eh e1) wM rfl ⟨rfl,trivial⟩ rfl rfl) (Oc oa (ae.ag ⟨[(0,_),(2,_),(4,_),(5,I g)],[(1,.box 77 [.str d,.i c]),(101,_)]⟩ rfl (ab.seq (ab.seq (ab.aa ?_)))))
 refine Oc om (Oc (b8 rfl rfl) (ae.ag ⟨[(0,_),(2,_),(4,_),(5,_),(14,B (decide (g=0)))],[(1,_),(101,_)]⟩ rfl (ab.ite h rfl (fun _ h=>?_) (fun _ h=>?_))))
 refine ab.seq (ab.aa ?_)
 refine Oc (aU cz rfl rfl) (Oc (an bK rfl rfl rfl rfl (zab rfl) rfl) (Oc oa (ae.ag ⟨[(2,_),(3,B false)],[(1,_),(101,_)]⟩ rfl (ab.ret (Fin.ay ?_)))))
 obtain rfl:=zaa h
 refine Fin.af ⟨[(2,_),(3,_)],[(1,_),(101,_)]⟩ rfl (Fin.Bc (.inl rfl) ?_)
 exact Fin.pr [1] [.agg [.i 0,.i 0,.str []],.one (.bool false)] (.inl rfl) rfl (.cons (.zx (.agg bK rfl rfl rfl rfl)) (.cons (.zx (.tmp rfl)) .nil)) ⟨_,rfl,rfl,rfl⟩
 refine ab.skip (Fin.af ⟨[(0,_),(2,_),(4,_),(5,_)],[(1,_),(101,_)]⟩ rfl (Fin.then (ab.seq (ab.aa ?_))))
 refine Oc oa (ae.ag ⟨[(0,_),(2,_),(4,_),(5,_),(6,I 0)],[(1,_),(101,_)]⟩ rfl ?_)
 obtain⟨v2,h3,h⟩:=aH h
 refine ab.bR (v:=v2) (bQ fun (t:Scan) (m:Int)=>⟨[(0,Pt 1 0),(2,Pt 101 0),(4,I f),(5,I g),(6,I m)],[(1,.box 77 (jG t)),(101,.box 31 [.i 0,.i 0,.str []])]⟩) (fun z=>z) ?_ ?_
 refine ab.seq (ab.af ⟨[(0,_),(2,_),(4,_),(5,_),(6,_)],[(1,_),(101,_)]⟩ rfl ?_)
 obtain⟨a,e4,h3⟩:=aH h3
 obtain⟨x,e5,h3⟩:=aH h3
 obtain⟨u,e6,h3⟩:=aH h3
 refine ab.pw mixed [false,true,false,false,false,false,false,false,false,false,false,false,false,false,false,false,false,false,false,false,false,false,false,false,false,false,false,false,false] [Pt 1 0,.b (.one (.int .u8 a)),B (decide (a=46)),B (decide (a=46)),.opt (decide (a=46)) (.ptr 1 0),.opt (decide (a=46)) (.ptr 1 0),.opt (decide (a=46)) (.ptr 1 1),.opt (decide (a=46)) (.one (.i c)),.opt (decide (a=46)) (.one (.i (i64.wrap (c+1)))),.opt (decide (a=46)) (.ptr 1 0),.opt (decide (a=46)) (.ptr 1 0),.opt (decide (a=46)) (.ptr 1 0),.opt (decide (a=46)) (.one (.str d)),.opt (decide (a=46)) (.one (.i (d.length:Int))),.opt (decide (a=46)) (.one (.bool (decide ((i64.wrap (c+1))<(d.length:Int))))),B ((decide (a=46))&&(decide ((i64.wrap (c+1))<(d.length:Int)))),B ((decide (a=46))&&(decide ((i64.wrap (c+1))<(d.length:Int)))),.opt ((decide (a=46))&&(decide ((i64.wrap (c+1))<(d.length:Int)))) (.ptr 1 0),.opt ((decide (a=46))&&(decide ((i64.wrap (c+1))<(d.length:Int)))) (.ptr 1 0),.opt ((decide (a=46))&&(decide ((i64.wrap (c+1))<(d.length:Int)))) (.ptr 1 0),.opt ((decide (a=46))&&(decide ((i64.wrap (c+1))<(d.length:Int)))) (.one (.str d)),.opt ((decide (a=46))&&(decide ((i64.wrap (c+1))<(d.length:Int)))) (.ptr 1 0),.opt ((decide (a=46))&&(decide ((i64.wrap (c+1))<(d.length:Int)))) (.ptr 1 0),.opt ((decide (a=46))&&(decide ((i64.wrap (c+1))<(d.length:Int)))) (.ptr 1 1),.opt ((decide (a=46))&&(decide ((i64.wrap (c+1))<(d.length:Int)))) (.one (.i c)),.opt ((decide (a=46))&&(decide ((i64.wrap (c+1))<(d.length:Int)))) (.one (.i (i64.wrap (c+1)))),.opt ((decide (a=46))&&(decide ((i64.wrap (c+1))<(d.length:Int)))) (.one (.int .u8 (x.toNat:Int))),.opt ((decide (a=46))&&(decide ((i64.wrap (c+1))<(d.length:Int)))) (.one (.bool u)),B (((decide (a=46))&&(decide ((i64.wrap (c+1))<(d.length:Int))))&&u)] [⟨[false,false,false,false,false,false,false,false,false,false,false,false,false,false,false,false,false,false,false,false,false,false,false,false,false,false,false,false,false],[(0,Pt 1 0),(2,Pt 101 0),(4,I f),(5,I g),(6,I 0)],[(1,.box 77 [.str d,.i c]),(101,.box 31 [.i 0,.i 0,.str []])],[true,true,true,true,true,true,true,true,true,true,true,true,true,true,true,true,true,true,true,true,true,true,true,true,true,true,true,true,true],[],[2,3,4,5,6,7,8,9,10,11,12,13,14,15,16,17,18,19,20,21,22,23,24,25,26,27,28]⟩,⟨[false,true,false,false,false,false,false,false,false,false,false,false,false,false,false,false,false,false,false,false,false,false,false,false,false,false,false,false,false],[(0,Pt 1 0),(2,Pt 101 0),(4,I f),(5,I g),(6,I 0)],[(1,.box 77 [.str d,.i c]),(101,.box 31 [.i 0,.i 0,.str []])],[true,true,true,true,true,true,true,true,true,true,true,true,true,true,true,true,true,true,true,true,true,true,true,true,true,true,true,true,true],[0,1],[]⟩] rfl (⟨by kernel_rfl,⟨⟨Pt 1 0,fun _=>rfl,fun _=>.p (by exact ey rfl)⟩,⟨_,[],.b (.one (.int .u8 a)),rfl,fun _=>rfl,rfl,rfl,fun _=>.wg [1,101] (by exact .p (by exact cK (own_a:=[(1,_)]) (bS e4) n2 rfl ⟨rfl,trivial⟩ rfl rfl)) (by exact rfl)⟩,trivial,trivial,trivial,trivial,trivial,trivial,trivial,trivial,trivial,trivial,trivial,trivial,trivial,trivial,trivial,trivial,trivial,trivial,trivial,trivial,trivial,trivial,trivial,trivial,trivial,trivial,trivial,trivial⟩,⟨by kernel_rfl,⟨trivial,trivial,⟨B (decide (a=46)),fun _=>rfl,fun _=>.p (by exact b8 rfl rfl)⟩,⟨B (decide (a=46)),fun _=>rfl,fun _=>.p (by exact ey rfl)⟩,⟨.opt (decide (a=46)) (.ptr 1 0),fun _=>rfl,fun _=>by exact .guard (decide (a=46)) 1 [] (.plain rfl) (cy _) rfl rfl (fun gg4=>trivial) (fun gg4=>om)⟩,⟨.opt (decide (a=46)) (.ptr 1 0),fun _=>rfl,fun _=>by exact .guard (decide (a=46)) 2 [20] (.plain rfl) (cy _) rfl rfl (fun gg5=>⟨gg5,trivial⟩) (fun gg5=>aB rfl)⟩,⟨.opt (decide (a=46)) (.ptr 1 1),fun _=>rfl,fun _=>by exact .guard (decide (a=46)) 2 [21] (.plain rfl) (cy _) rfl rfl (fun gg6=>⟨gg6,trivial⟩) (fun gg6=>aj bL rfl rfl)⟩,⟨.opt (decide (a=46)) (.one (.i c)),fun _=>rfl,fun _=>by exact .guard (decide (a=46)) 2 [22] (.plain rfl) (cy _) rfl rfl (fun gg7=>⟨gg7,trivial⟩) (fun gg7=>ao bI rfl rfl rfl)⟩,⟨.opt (decide (a=46)) (.one (.i (i64.wrap (c+1)))),fun _=>rfl,fun _=>by exact .guard (decide (a=46)) 2 [23] (.plain rfl) (cy _) rfl rfl (fun gg8=>⟨gg8,trivial⟩) (fun gg8=>aL rfl rfl)⟩,⟨.opt (decide (a=46)) (.ptr 1 0),fun _=>rfl,fun _=>by exact .guard (decide (a=46)) 1 [] (.plain rfl) (cy _) rfl rfl (fun gg9=>trivial) (fun gg9=>om)⟩,⟨.opt (decide (a=46)) (.ptr 1 0),fun _=>rfl,fun _=>by exact .guard (decide (a=46)) 2 [25] (.plain rfl) (cy _) rfl rfl (fun gg10=>⟨gg10,trivial⟩) (fun gg10=>aB rfl)⟩,⟨.opt (decide (a=46)) (.ptr 1 0),fun _=>rfl,fun _=>by exact .guard (decide (a=46)) 2 [26] (.plain rfl) (cy _) rfl rfl (fun gg11=>⟨gg11,trivial⟩) (fun gg11=>aj gO rfl rfl)⟩,⟨.opt (decide (a=46)) (.one (.str d)),fun _=>rfl,fun _=>by exact .guard (decide (a=46)) 2 [27] (.plain rfl) (cy _) rfl rfl (fun gg12=>⟨gg12,trivial⟩) (fun gg12=>ao b7 rfl rfl rfl)⟩,⟨.opt (decide (a=46)) (.one (.i (d.length:Int))),fun _=>rfl,fun _=>by exact .guard (decide (a=46)) 2 [28] (.plain rfl) (cy _) rfl rfl (fun gg13=>⟨gg13,trivial⟩) (fun gg13=>bh cb rfl)⟩,⟨.opt (decide (a=46)) (.one (.bool (decide ((i64.wrap (c+1))<(d.length:Int))))),fun _=>rfl,fun _=>by exact .guard (decide (a=46)) 3 [24,29] (.plain rfl) (cy _) rfl rfl (fun gg14=>⟨gg14,gg14,trivial⟩) (fun gg14=>bt rfl rfl)⟩,⟨B ((decide (a=46))&&(decide ((i64.wrap (c+1))<(d.length:Int)))),fun _=>rfl,fun _=>.p (by exact aD (fun e=>e) rfl rfl rfl rfl)⟩,⟨B ((decide (a=46))&&(decide ((i64.wrap (c+1))<(d.length:Int)))),fun _=>rfl,fun _=>.p (by exact ey rfl)⟩,⟨.opt ((decide (a=46))&&(decide ((i64.wrap (c+1))<(d.length:Int)))) (.ptr 1 0),fun _=>rfl,fun _=>by exact .guard ((decide (a=46))&&(decide ((i64.wrap (c+1))<(d.length:Int)))) 1 [] (.plain rfl) (cy _) rfl rfl (fun gg17=>trivial) (fun gg17=>om)⟩,⟨.opt ((decide (a=46))&&(decide ((i64.wrap (c+1))<(d.length:Int)))) (.ptr 1 0),fun _=>rfl,fun _=>by exact .guard ((decide (a=46))&&(decide ((i64.wrap (c+1))<(d.length:Int)))) 2 [33] (.plain rfl) (cy _) rfl rfl (fun gg18=>⟨gg18,trivial⟩) (fun gg18=>aB rfl)⟩,⟨.opt ((decide (a=46))&&(decide ((i64.wrap (c+1))<(d.length:Int)))) (.ptr 1 0),fun _=>rfl,fun _=>by exact .guard ((decide (a=46))&&(decide ((i64.wrap (c+1))<(d.length:Int)))) 2 [34] (.plain rfl) (cy _) rfl rfl (fun gg19=>⟨gg19,trivial⟩) (fun gg19=>aj gO rfl rfl)⟩,⟨.opt ((decide (a=46))&&(decide ((i64.wrap (c+1))<(d.length:Int)))) (.one (.str d)),fun _=>rfl,fun _=>by exact .guard ((decide (a=46))&&(decide ((i64.wrap (c+1))<(d.length:Int)))) 2 [35] (.plain rfl) (cy _) rfl rfl (fun gg20=>⟨gg20,trivial⟩) (fun gg20=>ao b7 rfl rfl rfl)⟩,⟨.opt ((decide (a=46))&&(decide ((i64.wrap (c+1))<(d.length:Int)))) (.ptr 1 0),fun _=>rfl,fun _=>by exact .guard ((decide (a=46))&&(decide ((i64.wrap (c+1))<(d.length:Int)))) 1 [] (.plain rfl) (cy _) rfl rfl (fun gg21=>trivial) (fun gg21=>om)⟩,⟨.opt ((decide (a=46))&&(decide ((i64.wrap (c+1))<(d.length:Int)))) (.ptr 1 0),fun _=>rfl,fun _=>by exact .guard ((decide (a=46))&&(decide ((i64.wrap (c+1))<(d.length:Int)))) 2 [37] (.plain rfl) (cy _) rfl rfl (fun gg22=>⟨gg22,trivial⟩) (fun gg22=>aB rfl)⟩,⟨.opt ((decide (a=46))&&(decide ((i64.wrap (c+1))<(d.length:Int)))) (.ptr 1 1),fun _=>rfl,fun _=>by exact .guard ((decide (a=46))&&(decide ((i64.wrap (c+1))<(d.length:Int)))) 2 [38] (.plain rfl) (cy _) rfl rfl (fun gg23=>⟨gg23,trivial⟩) (fun gg23=>aj bL rfl rfl)⟩,⟨.opt ((decide (a=46))&&(decide ((i64.wrap (c+1))<(d.length:Int)))) (.one (.i c)),fun _=>rfl,fun _=>by exact .guard ((decide (a=46))&&(decide ((i64.wrap (c+1))<(d.length:Int)))) 2 [39] (.plain rfl) (cy _) rfl rfl (fun gg24=>⟨gg24,trivial⟩) (fun gg24=>ao bI rfl rfl rfl)⟩,⟨.opt ((decide (a=46))&&(decide ((i64.wrap (c+1))<(d.length:Int)))) (.one (.i (i64.wrap (c+1)))),fun _=>rfl,fun _=>by exact .guard ((decide (a=46))&&(decide ((i64.wrap (c+1))<(d.length:Int)))) 2 [40] (.plain rfl) (cy _) rfl rfl (fun gg25=>⟨gg25,trivial⟩) (fun gg25=>aL rfl rfl)⟩,⟨.opt ((decide (a=46))&&(decide ((i64.wrap (c+1))<(d.length:Int)))) (.one (.int .u8 (x.toNat:Int))),fun _=>rfl,fun _=>by exact .guard ((decide (a=46))&&(decide ((i64.wrap (c+1))<(d.length:Int)))) 3 [36,41] (.plain rfl) (cy _) rfl rfl (fun gg26=>⟨gg26,gg26,trivial⟩) (fun gg26=>aV cb rfl rfl (aR (gc e5 gg26)) (cF (gc e5 gg26)))⟩,⟨.opt ((decide (a=46))&&(decide ((i64.wrap (c+1))<(d.length:Int)))) (.one (.bool u)),fun _=>rfl,fun _=>by exact .guard ((decide (a=46))&&(decide ((i64.wrap (c+1))<(d.length:Int)))) 3 [42] (.plain rfl) (cy _) rfl rfl (fun gg27=>⟨gg27,trivial⟩) (fun gg27=>ah (lq (gc e6 gg27)) Br rfl rfl)⟩,⟨B (((decide (a=46))&&(decide ((i64.wrap (c+1))<(d.length:Int))))&&u),fun _=>rfl,fun _=>.p (by exact aD (fun e=>e) rfl rfl rfl rfl)⟩,trivial⟩,trivial⟩⟩) rfl rfl rfl [0,2,4,5,6,44] [1,101] (s':=⟨[(0,_),(2,_),(4,_),(5,_),(6,_),(44,B (((decide (a=46))&&(decide ((i64.wrap (c+1))<(d.length:Int))))&&u))],[(1,_),(101,_)]⟩) rfl ?_
 refine ab.ite h3 rfl (fun _ h3=>?_) (fun _ h3=>?_)
 refine ab.seq (ab.aa ?_)
 refine Oc om (Oc (aB rfl) (Oc (aj bL rfl rfl) (Oc (ao bI rfl rfl rfl) (Oc (aL rfl rfl) (Oc (aB rfl) ?_)))))
 refine Oc (aj bL rfl rfl) (Oc (bF bI rfl rfl rfl (zab rfl) rfl) (ae.ag ⟨[(0,_),(2,_),(4,_),(5,_)],[(1,.box 77 [.str d,.i (i64.wrap (c+1))]),(101,_)]⟩ rfl (ab.aa (Oc om ?_))))
 obtain⟨⟨ai,y,ac⟩,e7,h3⟩:=aH h3
 refine Oc (cK (own_a:=[(1,_)]) (eh e7) wM rfl ⟨rfl,trivial⟩ rfl rfl) (Oc oa (ae.nil ?_))
 exact Fin.join [0,2,4,5,6] [1,101] ((⟨y,ac⟩:Scan),ai) (zaa h3) rfl
 refine ab.skip ?_
 exact Fin.join [0,2,4,5,6] [1,101] ((⟨d,c⟩:Scan),0) (zaa h3) rfl
 rintro⟨t,m⟩ hv
 subst v2
 obtain⟨v8,h9,h⟩:=aH h
 refine ab.bR (v:=v8) (fun (_:Unit)=>⟨[(0,Pt 1 0),(2,Pt 101 0),(4,I f)],[(1,.box 77 (jG t)),(101,.box 31 [.i 0,.i 0,.str []])]⟩) (fun z=>.inl z) ?_ ?_
 refine ab.block (ab.seq (ab.aa ?_))
 refine Oc om (Oc om (Oc (aL rfl rfl) (Oc (dy rfl rfl) (Oc oa (ae.ag ⟨[(0,_),(2,_),(4,_),(5,_),(54,B (decide (40<(i64.wrap (g+m)))))],[(1,_),(101,_)]⟩ rfl (ab.ite h9 rfl (fun _ h9=>?_) (fun _ h9=>?_)))))))
 refine ab.aa (Oc om (Oc om ?_))
 obtain⟨ak,e10,h9⟩:=aH h9
 refine ae.rP (own_a:=[(1,_)]) (cU e10) sN rfl ⟨rfl,trivial⟩ (fun hok=>(Fin.cP ?_))
 obtain rfl:=zaa h9
 refine Fin.bU ?_
 obtain rfl:=zaa h
 exact Fin.qw ⟨_,rfl,rfl,hok⟩
 refine ab.seq (ab.aa ?_)
 refine Oc om (Oc (dy rfl rfl) (Oc om ?_))
 refine cH (decide (1<g)) [] (fun g11=>trivial) (fun g11=>om) (cH (decide (1<g)) [66] (fun g12=>by exact⟨g12,trivial⟩) (fun g12=>aB rfl) (cH (decide (1<g)) [67] (fun g13=>by exact⟨g13,trivial⟩) (fun g13=>aj gO rfl rfl) (cH (decide (1<g)) [68] (fun g14=>by exact⟨g14,trivial⟩) (fun g14=>ao b7 rfl rfl rfl) (ae.af ⟨[(0,_),(2,_),(4,_),(65,B (decide (1<g))),(69,.opt (decide (1<g)) (.one (.str t.s)))],[(1,_),(101,_)]⟩ rfl (cH (decide (1<g)) [] (fun g15=>by exact trivial) (fun g15=>om) ?_)))))
 obtain⟨o,e17,h9⟩:=aH h9
 refine cH (decide (1<g)) [69,70] (fun g16=>⟨g16,g16,trivial⟩) (fun g16=>aV cb rfl rfl (aR (gc e17 g16)) (cF (gc e17 g16))) (cH (decide (1<g)) [71] (fun g18=>⟨g18,trivial⟩) (fun g18=>b8 rfl rfl) (Oc (aD (fun e=>e) rfl rfl rfl rfl) (Oc om ?_)))
 refine dD (!((decide (1<g))&&(decide ((o.toNat:Int)=48)))) [] (fun g19=>trivial) (fun g19=>om) (ae.af ⟨[(0,_),(2,_),(4,_),(74,B ((decide (1<g))&&(decide ((o.toNat:Int)=48)))),(75,.opt (!((decide (1<g))&&(decide ((o.toNat:Int)=48)))) (.ptr 1 0))],[(1,_),(101,_)]⟩ rfl ?_)
 obtain⟨al,e21,h9⟩:=aH h9
 refine dD (!((decide (1<g))&&(decide ((o.toNat:Int)=48)))) [75] (fun g20=>⟨g20,trivial⟩) (fun g20=>wV (own_a:=[(1,_)]) (bS (gc e21 g20)) n2 rfl ⟨rfl,trivial⟩ rfl rfl rfl rfl rfl) ?_
 obtain⟨am,e23,h9⟩:=aH h9
 refine dD (!((decide (1<g))&&(decide ((o.toNat:Int)=48)))) [76] (fun g22=>⟨g22,trivial⟩) (fun g22=>ah (kP (gc e23 g22)) Bt rfl rfl) (ae.il h9 rfl (aW (fun e=>by first|(rw[e];rfl)|(simp only at e;rw[e];rfl)) rfl rfl rfl rfl) (fun j h9=>?_))
 refine Oc om (dD (!j) [] (fun g24=>by exact trivial) (fun g24=>om) (ae.af ⟨[(0,_),(2,_),(4,_),(79,B j),(80,.opt (!j) (.ptr 1 0))],[(1,_),(101,_)]⟩ rfl ?_))
 obtain⟨ad,e26,h9⟩:=aH h9
 refine dD (!j) [80] (fun g25=>⟨g25,trivial⟩) (fun g25=>wV (own_a:=[(1,_)]) (bS (gc e26 g25)) n2 rfl ⟨rfl,trivial⟩ rfl rfl rfl rfl rfl) (dD (!j) [81] (fun g27=>⟨g27,trivial⟩) (fun g27=>b8 rfl rfl) (Oc (aW (fun e=>by first|(rw[e];rfl)|(simp only at e;rw[e];rfl)) rfl rfl rfl rfl) (Oc oa (ae.ag ⟨[(0,_),(2,_),(4,_),(62,B (j||(decide (ad=95))))],[(1,_),(101,_)]⟩ rfl (ab.ite h9 rfl (fun _ h9=>?_) (fun _ h9=>?_))))))
 refine ab.aa (Oc om (Oc om ?_))
 obtain⟨ap,e28,h9⟩:=aH h9
 refine ae.rP (own_a:=[(1,_)]) (cU e28) sN rfl ⟨rfl,trivial⟩ (fun hok=>(Fin.cP ?_))
 obtain rfl:=zaa h9
 refine Fin.bU ?_
 obtain rfl:=zaa h
 exact Fin.qw ⟨_,rfl,rfl,hok⟩
 refine ab.skip (Fin.aA ?_)
 exact Fin.join [0,2,4] [1,101] () (zaa h9) rfl
 rintro _ hv
 subst v8
 refine ab.seq (ab.af ⟨[(0,_),(2,_),(4,_)],[(1,_),(101,_)]⟩ rfl ?_)
 obtain⟨q,e29,h⟩:=aH h
 refine ab.bN mixed 12 [I f,Pt 1 0,Pt 1 0,Pt 1 0,.b (.one (.str t.s)),I f,Pt 1 0,Pt 1 0,Pt 1 1,I t.pos,.b (.one (.str q)),.b (.agg [.i 3,.i f,.str q])] [2,3] [1,101] (s':=⟨[(2,_),(3,B true)],[(1,_),(101,.box 31 [.i 3,.i f,.str q])]⟩) rfl ⟨fun _=>.p om,fun _=>.p om,fun _=>.p (aB rfl),fun _=>.p (aj gO rfl rfl),fun _=>.p (ao b7 rfl rfl rfl),fun _=>.p om,fun _=>.p om,fun _=>.p (aB rfl),fun _=>.p (aj bL rfl rfl),fun _=>.p (ao bI rfl rfl rfl),fun _=>.p (gx cb e29 rfl rfl rfl),fun _=>.p (aU cz rfl rfl),trivial⟩ ⟨_,by exact .p (an bK rfl rfl rfl rfl (zab rfl) rfl),⟨_,by exact .p oa,rfl⟩⟩ rfl (ab.ret ?_)
 obtain rfl:=zaa h
 refine Fin.af ⟨[(2,_),(3,_)],[(1,_),(101,_)]⟩ rfl (Fin.Bc (.inl rfl) ?_)
 exact Fin.pr [1] [.agg [.i 3,.i f,.str q],.one (.bool true)] (.inl rfl) rfl (.cons (.zx (.agg bK rfl rfl rfl rfl)) (.cons (.zx (.tmp rfl)) .nil)) ⟨_,rfl,rfl,rfl⟩
theorem nu {F:Nat} {c:Str} {a:Int} {r:Token×Bool×Str×Int} (h:cf F c a=some (.inl r)):ax prog (bd mx) 42 [(1,.box 77 [.str c,.i a])] [.ptr 1 0] (Is [(1,.box 77 [.str r.2.2.1,.i r.2.2.2])] (.gS [.agg (aC r.1),.one (.bool r.2.1)])):=(jd h).spec
theorem oc {F:Nat} {c:Str} {a:Int} {p:Problem} (h:cf F c a=some (.inr p)):kB prog (bd mx) 42 [(1,.box 77 [.str c,.i a])] [.ptr 1 0] ((fun p:Problem=>.iface 46 (.agg #[.int .i64 p.At,.int .i64 p.E])) p) ((fun p:Problem=>lG .i64 p.At/\lG .i64 p.E) p):=(jd h).Cw
def cB (F:Nat) (o:Str) (c:Int):Option ((Token×Bool×Str×Int)⊕Problem) :=
 (bx F o c).bind fun w=>if (decide (w≠34))=true then (some (.inl ((⟨0,0,[]⟩:Token),false,o,c))) else (Option.bind (iter F (bQ fun a d=>(bx F a.s a.pos).bind fun x=>if (decide (x≠34))=true then (Option.bind ((bx F a.s a.pos).bind fun m=>Option.bind (if (decide (m=92))=true then ((bx F a.s (i64.wrap (a.pos+1))).bind fun e=>if ((decide (e≠34))&&(decide (e≠92)))=true then ((bz F c 280 a.s (i64.wrap (a.pos+1))).bind fun q=>some (.inr (.inr q))) else (some (.inl ((⟨a.s,i64.wrap (a.pos+1)⟩:Scan),e)))) else (some (.inl (a,m)))) (cW (bQ fun f g=>Option.bind (if ((decide (g<32))||(decide (126<g)))=true then ((bz F c 280 f.s f.pos).bind fun r=>some (.inr (.inr r))) else (some (.inl ()))) (cW (fun _=>(gU d [g]).bind fun t=>some (.inl (f,t))) (fun y=>some (.inr y)))) (fun y=>some (.inr y)))) (cW (bQ fun u j=>some (.inl ((⟨u.s,i64.wrap (u.pos+1)⟩:Scan),j))) (fun y=>some (.inr (.inr y))))) else (some (.inr (.inl (a,d))))) ((⟨o,i64.wrap (c+1)⟩:Scan),[])) (cW (bQ fun k h=>Option.bind (if (decide (80<(h.length:Int)))=true then ((bz F c 2 k.s (i64.wrap (k.pos+1))).bind fun v=>some (.inr (.inr v))) else (some (.inl ()))) (cW (fun _=>some (.inl ((⟨4,c,toStr h⟩:Token),true,k.s,i64.wrap (k.pos+1)))) (fun y=>some y))) (fun y=>some y)))
theorem jM {F:Nat} {u:Str} {a:Int} {r:(Token×Bool×Str×Int)⊕Problem} (h:cB F u a=some r):fM prog (bd mx) 43 [(1,.box 77 [.str u,.i a])] [.ptr 1 0] (IsP r (fun (r:Token×Bool×Str×Int)=>[(1,.box 77 [.str r.2.2.1,.i r.2.2.2])]) (fun (r:Token×Bool×Str×Int)=>.gS [.agg (aC r.1),.one (.bool r.2.1)])) (DF r (fun p:Problem=>.iface 46 (.agg #[.int .i64 p.At,.int .i64 p.E])) (fun p:Problem=>lG .i64 p.At/\lG .i64 p.E)):=by
 unfold cB at h
 refine fM.intro 84 Tryz.func43 Tryz.ntmps43 rfl (by simp) fun E=>(ab.seq (ab.aa ?_))
 refine Oc (aF (k:=101) im rfl) (Oc oa (ae.ag ⟨[(0,Pt 1 0),(2,Pt 101 0)],[(1,.box 77 [.str u,.i a]),(101,.box 31 [.i 0,.i 0,.str []])]⟩ rfl (ab.seq (ab.aa ?_))))
 refine Oc om (Oc (aB rfl) (Oc (aj bL rfl rfl) (Oc (ao bI rfl rfl rfl) (Oc oa (ae.ag ⟨[(0,_),(2,_),(4,I a)],[(1,_),(101,_)]⟩ rfl (ab.seq (ab.seq (ab.aa ?_))))))))
 refine Oc om ?_
 obtain⟨y,e1,h⟩:=aH h
 refine Oc (cK (own_a:=[(1,_)]) (bS e1) n2 rfl ⟨rfl,trivial⟩ rfl rfl) (Oc (dd rfl rfl) (ae.ag ⟨[(0,_),(2,_),(4,_),(13,B (decide (y≠34)))],[(1,_),(101,_)]⟩ rfl (ab.ite h rfl (fun _ h=>?_) (fun _ h=>?_))))
 refine ab.seq (ab.aa ?_)
 refine Oc (aU cz rfl rfl) (Oc (an bK rfl rfl rfl rfl (zab rfl) rfl) (Oc oa (ae.ag ⟨[(2,_),(3,B false)],[(1,_),(101,_)]⟩ rfl (ab.ret (Fin.ay ?_)))))
 obtain rfl:=zaa h
 refine Fin.af ⟨[(2,_),(3,_)],[(1,_),(101,_)]⟩ rfl (Fin.Bc (.inl rfl) ?_)
 exact Fin.pr [1] [.agg [.i 0,.i 0,.str []],.one (.bool false)] (.inl rfl) rfl (.cons (.zx (.agg bK rfl rfl rfl rfl)) (.cons (.zx (.tmp rfl)) .nil)) ⟨_,rfl,rfl,rfl⟩
 refine ab.skip (Fin.af ⟨[(0,_),(2,_),(4,_)],[(1,_),(101,_)]⟩ rfl (Fin.then (ab.seq (ab.aa ?_))))
 refine Oc oa (ae.ag ⟨[(0,_),(2,_),(4,_),(5,.b (.one (.nil)))],[(1,_),(101,_)]⟩ rfl ?_)
 obtain⟨v2,h3,h⟩:=aH h
 refine ab.bR (v:=v2) (bQ fun (m:Scan) (c:List Int)=>⟨[(0,Pt 1 0),(2,Pt 101 0),(4,I a),(5,.b (.row 103))],[(1,.box 77 (jG m)),(101,.box 31 [.i 0,.i 0,.str []]),(103,.row 5 1 (c.map (eK .u8)))]⟩) (fun z=>.inl z) ?_ ?_
 refine ab.seq (ab.aa ?_)
 refine Oc om (Oc (aB rfl) (Oc (aj bL rfl rfl) (Oc (ao bI rfl rfl rfl) (Oc (aL rfl rfl) (Oc (aB rfl) ?_)))))
 refine Oc (aj bL rfl rfl) (Oc (bF bI rfl rfl rfl (zab rfl) rfl) (ae.ag ⟨[(0,_),(2,_),(4,_),(5,_)],[(1,.box 77 [.str u,.i (i64.wrap (a+1))]),(101,_)]⟩ rfl (ab.block (ab.kr 5 103 1 5 rfl (by decide) rfl (ab.cx h3 (bQ fun (o:Scan) (f:List Int)=>⟨[(0,Pt 1 0),(2,Pt 101 0),(4,I a),(5,.b (.row 103))],[(1,.box 77 (jG o)),(101,.box 31 [.i 0,.i 0,.str []]),(103,.row 5 1 (f.map (eK .u8)))]⟩) [0,2,4,5] [1,101,103] rfl ?_)))))
 rintro⟨o,f⟩ o4 h5 hy6
 refine ab.seq (ab.seq (ab.aa ?_))
 refine Oc om ?_
 obtain⟨ac,e7,h5⟩:=aH h5
 refine Oc (cK (own_a:=[(1,_)]) (bS e7) n2 rfl ⟨rfl,trivial⟩ rfl rfl) (Oc (dd rfl rfl) (ae.ag ⟨[(0,_),(2,_),(4,_),(5,_),(24,B (decide (ac≠34)))],[(1,_),(101,_),(103,_)]⟩ rfl (ab.ite h5 rfl (fun _ h5=>?_) (fun _ h5=>?_))))
 refine ab.skip (Fin.af ⟨[(0,_),(2,_),(4,_),(5,_)],[(1,_),(101,_),(103,_)]⟩ rfl (Fin.then ?_))
 obtain⟨v8,h9,h5⟩:=aH h5
 refine ab.bR (v:=v8) (bQ fun (w:Scan) (j:List Int)=>⟨[(0,Pt 1 0),(2,Pt 101 0),(4,I a),(5,.b (.row 103))],[(1,.box 77 (jG w)),(101,.box 31 [.i 0,.i 0,.str []]),(103,.row 5 1 (j.map (eK .u8)))]⟩) (fun z=>.inl z) ?_ ?_
 refine ab.block (ab.seq (ab.aa ?_))
 refine Oc om ?_
 obtain⟨t,e10,h9⟩:=aH h9
 refine Oc (cK (own_a:=[(1,_)]) (bS e10) n2 rfl ⟨rfl,trivial⟩ rfl rfl) (Oc oa (ae.ag ⟨[(0,_),(2,_),(4,_),(5,_),(6,.b (.one (.int .u8 t)))],[(1,_),(101,_),(103,_)]⟩ rfl ?_))
 obtain⟨v11,h12,h9⟩:=aH h9
 refine ab.bR (v:=v11) (bQ fun (q:Scan) (d:Int)=>⟨[(0,Pt 1 0),(2,Pt 101 0),(4,I a),(5,.b (.row 103)),(6,.b (.one (.int .u8 d)))],[(1,.box 77 (jG q)),(101,.box 31 [.i 0,.i 0,.str []]),(103,.row 5 1 (f.map (eK .u8)))]⟩) (fun z=>.inl z) ?_ ?_
 refine ab.seq (ab.aa ?_)
 refine Oc om (Oc (b8 rfl rfl) (ae.ag ⟨[(0,_),(2,_),(4,_),(5,_),(6,_),(35,B (decide (t=92)))],[(1,_),(101,_),(103,_)]⟩ rfl (ab.ite h12 rfl (fun _ h12=>?_) (fun _ h12=>?_))))
 refine ab.seq (ab.aa ?_)
 refine Oc om (Oc (aB rfl) (Oc (aj bL rfl rfl) (Oc (ao bI rfl rfl rfl) (Oc (aL rfl rfl) (Oc (aB rfl) ?_)))))
 refine Oc (aj bL rfl rfl) (Oc (bF bI rfl rfl rfl (zab rfl) rfl) (ae.ag ⟨[(0,_),(2,_),(4,_),(5,_)],[(1,.box 77 [.str o.s,.i (i64.wrap (o.pos+1))]),(101,_),(103,_)]⟩ rfl (ab.seq (ab.aa ?_))))
 refine Oc om ?_
 obtain⟨g,e13,h12⟩:=aH h12
 refine Oc (cK (own_a:=[(1,_)]) (bS e13) n2 rfl ⟨rfl,trivial⟩ rfl rfl) (Oc oa (ae.ag ⟨[(0,_),(2,_),(4,_),(5,_),(6,.b (.one (.int .u8 g)))],[(1,_),(101,_),(103,_)]⟩ rfl (ab.seq (ab.aa ?_))))
 refine Oc om (Oc (dd rfl rfl) (Oc om ?_))
 refine cH (decide (g≠34)) [] (fun g14=>trivial) (fun g14=>om) (cH (decide (g≠34)) [48] (fun g15=>by exact⟨g15,trivial⟩) (fun g15=>dd rfl rfl) (Oc (aD (fun e=>e) rfl rfl rfl rfl) (ae.ag ⟨[(0,_),(2,_),(4,_),(5,_),(6,_),(50,B ((decide (g≠34))&&(decide (g≠92))))],[(1,_),(101,_),(103,_)]⟩ rfl (ab.ite h12 rfl (fun _ h12=>?_) (fun _ h12=>?_)))))
 refine ab.aa (Oc om (Oc om ?_))
 obtain⟨ad,e16,h12⟩:=aH h12
 refine ae.rP (own_a:=[(1,_)]) (cU e16) sN rfl ⟨rfl,trivial⟩ (fun hok=>?_)
 obtain rfl:=zaa h12
 refine Fin.bU (Fin.cP ?_)
 obtain rfl:=zaa h9
 refine Fin.bU ?_
 obtain rfl:=hy6 _ (zaa h5).symm
 refine Fin.bU (Fin.cP (Fin.bU ?_))
 obtain rfl:=zaa h
 exact Fin.qw ⟨_,rfl,rfl,hok⟩
 refine ab.skip ?_
 exact Fin.join [0,2,4,5,6] [1,101,103] ((⟨o.s,i64.wrap (o.pos+1)⟩:Scan),g) (zaa h12) rfl
 refine ab.skip ?_
 exact Fin.join [0,2,4,5,6] [1,101,103] (o,t) (zaa h12) rfl
 rintro⟨q,d⟩ hv
 subst v11
 obtain⟨v17,h18,h9⟩:=aH h9
 refine ab.bR (v:=v17) (fun (_:Unit)=>⟨[(0,Pt 1 0),(2,Pt 101 0),(4,I a),(5,.b (.row 103)),(6,.b (.one (.int .u8 d)))],[(1,.box 77 (jG q)),(101,.box 31 [.i 0,.i 0,.str []]),(103,.row 5 1 (f.map (eK .u8)))]⟩) (fun z=>.inl z) ?_ ?_
 refine ab.seq (ab.aa ?_)
 refine Oc om (Oc (bt rfl rfl) (Oc om ?_))
 refine dD (!(decide (d<32))) [] (fun g19=>trivial) (fun g19=>om) (dD (!(decide (d<32))) [57] (fun g20=>by exact⟨g20,trivial⟩) (fun g20=>dy rfl rfl) (Oc (aW (fun e=>by first|(rw[e];rfl)|(simp only at e;rw[e];rfl)) rfl rfl rfl rfl) (ae.ag ⟨[(0,_),(2,_),(4,_),(5,_),(6,_),(59,B ((decide (d<32))||(decide (126<d))))],[(1,_),(101,_),(103,_)]⟩ rfl (ab.ite h18 rfl (fun _ h18=>?_) (fun _ h18=>?_)))))
 refine ab.aa (Oc om (Oc om ?_))
 obtain⟨ai,e21,h18⟩:=aH h18
 refine ae.rP (own_a:=[(1,_)]) (cU e21) sN rfl ⟨rfl,trivial⟩ (fun hok=>?_)
 obtain rfl:=zaa h18
 refine Fin.bU (Fin.cP ?_)
 obtain rfl:=zaa h9
 refine Fin.bU ?_
 obtain rfl:=hy6 _ (zaa h5).symm
 refine Fin.bU (Fin.cP (Fin.bU ?_))
 obtain rfl:=zaa h
 exact Fin.qw ⟨_,rfl,rfl,hok⟩
 refine ab.skip ?_
 exact Fin.join [0,2,4,5,6] [1,101,103] () (zaa h18) rfl
 rintro _ hv
 subst v17
 refine ab.aa (Oc om (Oc om (Oc (aX (k:=104) (es:=[d].map (eK .u8)) mF rfl rfl (cg fun _=>rfl) rfl (by decide) (by decide) rfl) ?_)))
 obtain⟨x,e22,h9⟩:=aH h9
 refine Oc (eV mF (oo e22) (oi e22) rfl rfl rfl rfl (jj e22) rfl) (Oc oa (ae.nil (Fin.aA ?_)))
 exact Fin.join [0,2,4,5] [1,101,103] (q,x) (zaa h9) rfl
 rintro⟨w,j⟩ hv
 subst v8
 refine ab.aa (Oc om (Oc (aB rfl) (Oc (aj bL rfl rfl) (Oc (ao bI rfl rfl rfl) (Oc (aL rfl rfl) (Oc (aB rfl) ?_))))))
 refine Oc (aj bL rfl rfl) (Oc (bF bI rfl rfl rfl (zab rfl) rfl) (ae.nil ?_))
 exact Fin.bB [0,2,4,5] [1,101,103] ((⟨w.s,i64.wrap (w.pos+1)⟩:Scan),j) (zaa h5) rfl
 refine ab.exit (Fin.aw ?_)
 obtain rfl:=hy6 _ (zaa h5).symm
 refine Fin.aw (Fin.aJ ?_)
 exact Fin.join [0,2,4,5] [1,101,103] (o,f) rfl rfl
 rintro⟨m,c⟩ hv
 subst v2
 refine ab.seq (ab.aa ?_)
 refine Oc om (Oc (aB rfl) (Oc (aj bL rfl rfl) (Oc (ao bI rfl rfl rfl) (Oc (aL rfl rfl) (Oc (aB rfl) ?_)))))
 refine Oc (aj bL rfl rfl) (Oc (bF bI rfl rfl rfl (zab rfl) rfl) (ae.ag ⟨[(0,_),(2,_),(4,_),(5,_)],[(1,.box 77 [.str m.s,.i (i64.wrap (m.pos+1))]),(101,_),(103,_)]⟩ rfl ?_))
 obtain⟨v23,h24,h⟩:=aH h
 refine ab.bR (v:=v23) (fun (_:Unit)=>⟨[(2,Pt 101 0),(4,I a),(5,.b (.row 103))],[(1,.box 77 [.str m.s,.i (i64.wrap (m.pos+1))]),(101,.box 31 [.i 0,.i 0,.str []]),(103,.row 5 1 (c.map (eK .u8)))]⟩) (fun z=>.inl z) ?_ ?_
 refine ab.seq (ab.aa ?_)
 refine Oc om (Oc (oJ kS rfl rfl (List.length_map _)) (Oc (dy rfl rfl) (ae.ag ⟨[(0,_),(2,_),(4,_),(5,_),(76,B (decide (80<(c.length:Int))))],[(1,_),(101,_),(103,_)]⟩ rfl (ab.ite h24 rfl (fun _ h24=>?_) (fun _ h24=>?_)))))
 refine ab.aa (Oc om (Oc om ?_))
 obtain⟨ak,e25,h24⟩:=aH h24
 refine ae.rP (own_a:=[(1,_)]) (cU e25) sN rfl ⟨rfl,trivial⟩ (fun hok=>?_)
 obtain rfl:=zaa h24
 refine Fin.bU ?_
 obtain rfl:=zaa h
 exact Fin.qw ⟨_,rfl,rfl,hok⟩
 refine ab.skip ?_
 exact Fin.join [2,4,5] [1,101,103] () (zaa h24) rfl
 rintro _ hv
 subst v23
 refine ab.seq (ab.aa ?_)
 refine Oc om (Oc om (ae.c5 103 rfl (Oc (jK kS oe cb rfl) (Oc (aU cz rfl rfl) (Oc (an bK rfl rfl rfl rfl (zab rfl) rfl) (Oc oa (ae.ag ⟨[(2,Pt 101 0),(3,B true)],[(1,.box 77 [.str m.s,.i (i64.wrap (m.pos+1))]),(101,.box 31 [.i 4,.i a,.str (toStr c)])]⟩ rfl (ab.ret ?_))))))))
 obtain rfl:=zaa h
 refine Fin.af ⟨[(2,_),(3,_)],[(1,_),(101,_)]⟩ rfl (Fin.Bc (.inl rfl) ?_)
 exact Fin.pr [1] [.agg [.i 4,.i a,.str (toStr c)],.one (.bool true)] (.inl rfl) rfl (.cons (.zx (.agg bK rfl rfl rfl rfl)) (.cons (.zx (.tmp rfl)) .nil)) ⟨_,rfl,rfl,rfl⟩
theorem oU {F:Nat} {c:Str} {a:Int} {r:Token×Bool×Str×Int} (h:cB F c a=some (.inl r)):ax prog (bd mx) 43 [(1,.box 77 [.str c,.i a])] [.ptr 1 0] (Is [(1,.box 77 [.str r.2.2.1,.i r.2.2.2])] (.gS [.agg (aC r.1),.one (.bool r.2.1)])):=(jM h).spec
theorem p5 {F:Nat} {c:Str} {a:Int} {p:Problem} (h:cB F c a=some (.inr p)):kB prog (bd mx) 43 [(1,.box 77 [.str c,.i a])] [.ptr 1 0] ((fun p:Problem=>.iface 46 (.agg #[.int .i64 p.At,.int .i64 p.E])) p) ((fun p:Problem=>lG .i64 p.At/\lG .i64 p.E) p):=(jM h).Cw
def eg (F:Nat) (s0:Str) (c:Str) (a:Int):Option Bool :=
 (qt c a).bind fun d=>(gG F d s0).bind fun e=>some e
theorem ns {F:Nat} {s0 c:Str} {a:Int} {r:Bool} (h:eg F s0 c a=some r):ax prog (bd mx) 98 [(1,.bD 75 [.ptr 2 0]),(2,.box 77 [.str c,.i a])] [.one (.str s0),.ptr 1 0] (Is [(1,.bD 75 [.ptr 2 0]),(2,.box 77 [.str c,.i a])] (.b (.one (.bool r)))):=by
 unfold eg at h
 refine ax.intro 15 Tryz.func98 Tryz.ntmps98 rfl (by simp) fun E=>(ab.seq (ab.aa ?_))
 refine Oc oa (ae.ag ⟨[(0,.b (.one (.str s0))),(1,Pt 1 0)],[(1,.bD 75 [.ptr 2 0]),(2,.box 77 [.str c,.i a])]⟩ rfl (ab.seq ?_))
 obtain⟨e,e1,h⟩:=aH h
 obtain⟨d,e2,h⟩:=aH h
 refine ab.bN mixed 12 [Pt 2 0,Pt 2 0,Pt 2 0,.b (.one (.str c)),Pt 2 0,Pt 2 0,Pt 2 1,I a,.b (.one (.str e)),.b (.one (.str s0)),B d,B d] [3] [1,2] (s':=⟨[(3,B d)],[(1,_),(2,_)]⟩) rfl ⟨fun _=>.p (dE pg rfl rfl rfl),fun _=>.p (aB rfl),fun _=>.p (aj gO rfl rfl),fun _=>.p (ao b7 rfl rfl rfl),fun _=>.p (dE pg rfl rfl rfl),fun _=>.p (aB rfl),fun _=>.p (aj bL rfl rfl),fun _=>.p (ao bI rfl rfl rfl),fun _=>.p (mW cb e1 rfl rfl),fun _=>.p om,fun _=>.p (ah (pZ e2) goes71 rfl rfl),fun _=>.p oa,trivial⟩ rfl rfl (ab.ret ?_)
 obtain rfl:=zaa h
 refine Fin.af ⟨[(3,_)],[(1,_),(2,_)]⟩ rfl ?_
 exact Fin.result [.one (.bool d)] (.inl rfl) rfl (.cons (.tmp rfl) .nil) ⟨rfl,rfl⟩
def ig (F:Nat) (s0:List Str) (f0v0s:Str) (f0v0at:Int):Option Int :=
 Option.bind (iter F (fun a=>if (decide (a<(s0.length:Int)))=true then ((aS s0 a).bind fun c=>(eg F c f0v0s f0v0at).bind fun d=>if d=true then (some (.inr (.inr a))) else (some (.inl (i64.wrap (a+1))))) else (some (.inr (.inl ())))) 0) (cW (fun _=>some (-1)) (fun y=>some y))
theorem qi {F:Nat} {s0:List Str} {f0v0s:Str} {f0v0at r:Int} (h:ig F s0 f0v0s f0v0at=some r):ax prog (bd mx) 97 [(1,.bD 75 [.ptr 2 0]),(2,.box 77 [.str f0v0s,.i f0v0at])] [.one (.sl 1 (s0.map eS)),.ek 98 [] [.ptr 1 0]] (Is [(1,.bD 75 [.ptr 2 0]),(2,.box 77 [.str f0v0s,.i f0v0at])] (.b (.one (.i r)))):=by
 unfold ig at h
 refine ax.intro 19 Tryz.func97 Tryz.ntmps97 rfl (by simp) fun E=>(ab.seq (ab.aa ?_))
 refine Oc oa (ae.ag ⟨[(0,.b (.one (.sl 1 (s0.map eS)))),(1,.b (.ek 98 [] [.ptr 1 0]))],[(1,.bD 75 [.ptr 2 0]),(2,.box 77 [.str f0v0s,.i f0v0at])]⟩ rfl ?_)
 obtain⟨v1,h2,h⟩:=aH h
 refine ab.bR (v:=v1) (fun (_:Unit)=>⟨[],[(1,.bD 75 [.ptr 2 0]),(2,.box 77 [.str f0v0s,.i f0v0at])]⟩) (fun z=>.inl z) ?_ ?_
 refine ab.seq (ab.aa ?_)
 refine Oc om (Oc (ba nB rfl (List.length_map _)) (Oc om (ae.ag ⟨[(0,_),(1,_),(7,I (s0.length:Int)),(8,I 0)],[(1,_),(2,_)]⟩ rfl (ab.block (ab.cx h2 (fun (a:Int)=>⟨[(0,.b (.one (.sl 1 (s0.map eS)))),(1,.b (.ek 98 [] [.ptr 1 0])),(7,I (s0.length:Int)),(8,I a)],[(1,.bD 75 [.ptr 2 0]),(2,.box 77 [.str f0v0s,.i f0v0at])]⟩) [0,1,7,8] [1,2] rfl ?_)))))
 rintro a o3 h4 hy5
 refine ab.seq (ab.aa ?_)
 refine Oc (bt rfl rfl) (ae.ag ⟨[(0,_),(1,_),(7,_),(8,_),(9,B (decide (a<(s0.length:Int))))],[(1,_),(2,_)]⟩ rfl (ab.seq (ab.ite h4 rfl (fun _ h4=>?_) (fun _ h4=>?_))))
 refine ab.skip (Fin.af ⟨[(0,_),(1,_),(7,_),(8,_)],[(1,_),(2,_)]⟩ rfl (Fin.then (ab.seq (ab.block (ab.seq (ab.aa ?_))))))
 refine Oc om (Oc oa (ae.ag ⟨[(0,_),(1,_),(5,I a),(7,_),(8,_)],[(1,_),(2,_)]⟩ rfl (ab.seq (ab.aa ?_))))
 refine Oc om (Oc om (Oc om ?_))
 obtain⟨d,e6,h4⟩:=aH h4
 refine Oc (bm dX (aR e6) (cu (e:=eS) e6) rfl rfl) (Oc (bg b7 rfl rfl) ?_)
 obtain⟨c,e7,h4⟩:=aH h4
 refine Oc (oA (own_a:=[(1,_),(2,_)]) (ns e7) goes98 rfl rfl rfl ⟨rfl,rfl,trivial⟩ rfl rfl) (ae.ag ⟨[(0,_),(1,_),(5,_),(7,_),(8,_),(16,B c)],[(1,_),(2,_)]⟩ rfl (ab.ite h4 rfl (fun _ h4=>?_) (fun _ h4=>?_)))
 refine ab.seq (ab.aa ?_)
 refine Oc om (Oc oa (ae.ag ⟨[(4,I a)],[(1,_),(2,_)]⟩ rfl (ab.ret (Fin.bc (Fin.ay ?_)))))
 obtain rfl:=hy5 _ (zaa h4).symm
 refine Fin.ay (Fin.bc (Fin.ay ?_))
 obtain rfl:=zaa h
 refine Fin.af ⟨[(4,_)],[(1,_),(2,_)]⟩ rfl ?_
 exact Fin.result [.one (.i a)] (.inl rfl) rfl (.cons (.tmp rfl) .nil) ⟨rfl,rfl⟩
 refine ab.skip (Fin.aA (Fin.af ⟨[(0,_),(1,_),(7,_),(8,_)],[(1,_),(2,_)]⟩ rfl (Fin.then (ab.aa ?_))))
 refine Oc (aL rfl rfl) (Oc om (ae.nil ?_))
 exact Fin.bB [0,1,7,8] [1,2] (i64.wrap (a+1)) (zaa h4) rfl
 refine ab.exit (Fin.aw ?_)
 obtain rfl:=hy5 _ (zaa h4).symm
 refine Fin.aw (Fin.aJ ?_)
 exact Fin.join [] [1,2] () rfl rfl
 rintro _ hv
 subst v1
 refine ab.seq (ab.aa ?_)
 refine Oc oa (ae.ag ⟨[(4,I (-1))],[(1,_),(2,_)]⟩ rfl (ab.ret ?_))
 obtain rfl:=zaa h
 refine Fin.af ⟨[(4,_)],[(1,_),(2,_)]⟩ rfl ?_
 exact Fin.result [.one (.i (-1))] (.inl rfl) rfl (.cons (.tmp rfl) .nil) ⟨rfl,rfl⟩
def dx (F:Nat) (d:Str) (a:Int):Option ((Token×Bool×Int)⊕Problem) :=
 (ig F dr d a).bind fun c=>Option.bind (if (decide (c<0))=true then ((bz F a 280 d a).bind fun e=>some (.inr (.inr e))) else (some (.inl ()))) (cW (fun _=>(aS dr c).bind fun f=>(aS dr c).bind fun g=>some (.inl ((⟨5,a,f⟩:Token),true,i64.wrap (a+(g.length:Int))))) (fun y=>some y))
theorem jN {F:Nat} {f:Str} {a:Int} {r:(Token×Bool×Int)⊕Problem} (h:dx F f a=some r):fM prog (bd mx) 44 [(1,.box 77 [.str f,.i a])] [.ptr 1 0] (IsP r (fun (r:Token×Bool×Int)=>[(1,.box 77 [.str f,.i r.2.2])]) (fun (r:Token×Bool×Int)=>.gS [.agg (aC r.1),.one (.bool r.2.1)])) (DF r (fun p:Problem=>.iface 46 (.agg #[.int .i64 p.At,.int .i64 p.E])) (fun p:Problem=>lG .i64 p.At/\lG .i64 p.E)):=by
 unfold dx at h
 refine fM.intro 37 Tryz.func44 Tryz.ntmps44 rfl (by simp) fun E=>(ab.seq (ab.aa ?_))
 refine Oc (Ea (k:=101) rfl rfl rfl rfl) (Oc (aF (k:=102) im rfl) (Oc oa (ae.ag ⟨[(1,Pt 101 0),(2,Pt 102 0)],[(1,.box 77 [.str f,.i a]),(101,.bD 75 [.ptr 1 0]),(102,.box 31 [.i 0,.i 0,.str []])]⟩ rfl (ab.seq (ab.aa ?_)))))
 refine Oc (xm (xs:=dr) (enc:=eS) rX rW tJ rfl rfl (fun _=>rfl) (by rw[dn];decide)) (Oc (iY rfl rfl) ?_)
 obtain⟨d,e1,h⟩:=aH h
 refine Oc (cK (own_a:=[(101,_),(1,_)]) (((qi e1).sw 1 101).sw 2 1) goes97 rfl ⟨rfl,rfl,trivial⟩ rfl rfl) (Oc oa (ae.ag ⟨[(1,_),(2,_),(4,I d)],[(1,_),(101,_),(102,_)]⟩ rfl ?_))
 obtain⟨v2,h3,h⟩:=aH h
 refine ab.bR (v:=v2) (fun (_:Unit)=>⟨[(1,Pt 101 0),(2,Pt 102 0),(4,I d)],[(1,.box 77 [.str f,.i a]),(101,.bD 75 [.ptr 1 0]),(102,.box 31 [.i 0,.i 0,.str []])]⟩) (fun z=>.inl z) ?_ ?_
 refine ab.seq (ab.aa ?_)
 refine Oc om (Oc (bt rfl rfl) (ae.ag ⟨[(1,_),(2,_),(4,_),(10,B (decide (d<0)))],[(1,_),(101,_),(102,_)]⟩ rfl (ab.ite h3 rfl (fun _ h3=>?_) (fun _ h3=>?_))))
 refine ab.af ⟨[(1,_),(2,_),(4,_)],[(1,_),(101,_),(102,_)]⟩ rfl ?_
 obtain⟨j,e4,h3⟩:=aH h3
 refine ab.regionP mixed 5 [Pt 1 0,Pt 1 0,Pt 1 0,Pt 1 1,I a] rfl ⟨fun _=>.p (dE pg rfl rfl rfl),fun _=>.p (dE pg rfl rfl rfl),fun _=>.p (aB rfl),fun _=>.p (aj bL rfl rfl),fun _=>.p (ao bI rfl rfl rfl),trivial⟩ ⟨_,.p9 (own_a:=[(1,_)]) (cU e4) sN rfl ⟨rfl,trivial⟩ (fun hok=>?_),rfl⟩
 obtain rfl:=zaa h3
 refine Fin.bU ?_
 obtain rfl:=zaa h
 exact Fin.qw ⟨_,rfl,rfl,hok⟩
 refine ab.skip ?_
 exact Fin.join [1,2,4] [1,101,102] () (zaa h3) rfl
 rintro _ hv
 subst v2
 refine ab.seq (ab.af ⟨[(1,_),(2,_),(4,_)],[(1,_),(101,_),(102,_)]⟩ rfl ?_)
 obtain⟨c,e5,h⟩:=aH h
 refine ab.pw mixed [false,false,false,false,false,false,false,false,true,true] [Pt 1 0,Pt 1 0,Pt 1 1,I a,I d,.b (.dc [.str c]),.b (.one (.str c)),.b (.agg [.i 5,.i a,.str c]),Pt 103 0,B true] [⟨[false,false,false,false,false,false,false,false,false,false],[(1,Pt 101 0),(2,Pt 102 0),(4,I d)],[(1,.box 77 [.str f,.i a]),(101,.bD 75 [.ptr 1 0]),(102,.box 31 [.i 0,.i 0,.str []])],[true,true,true,true,true,true,true,true,true,true],[],[9]⟩,⟨[false,false,false,false,false,false,false,false,true,false],[(1,Pt 101 0),(2,Pt 102 0),(4,I d)],[(1,.box 77 [.str f,.i a]),(101,.bD 75 [.ptr 1 0]),(102,.box 31 [.i 0,.i 0,.str []]),(103,.box 31 [.i 0,.i 0,.str []])],[true,true,true,true,true,true,true,true,true,true],[8],[]⟩,⟨[false,false,false,false,false,false,false,false,true,true],[(1,Pt 101 0),(2,Pt 102 0),(4,I d)],[(1,.box 77 [.str f,.i a]),(101,.bD 75 [.ptr 1 0]),(102,.box 31 [.i 0,.i 0,.str []]),(103,.box 31 [.i 5,.i a,.str c])],[true,true,true,true,true,true,true,true,true,true],[0,1,2,3,4,5,6,7,8,9],[]⟩] rfl (⟨by kernel_rfl,⟨⟨Pt 1 0,fun _=>rfl,fun _=>.p (by exact dE pg rfl rfl rfl)⟩,⟨Pt 1 0,fun _=>rfl,fun _=>.p (by exact aB rfl)⟩,⟨Pt 1 1,fun _=>rfl,fun _=>.p (by exact aj bL rfl rfl)⟩,⟨I a,fun _=>rfl,fun _=>.p (by exact ao bI rfl rfl rfl)⟩,⟨I d,fun _=>rfl,fun _=>.p (by exact ey rfl)⟩,⟨.b (.dc [.str c]),fun _=>rfl,fun _=>.p (by exact q8 rX rW tJ (aR e5) (cD e5) rfl (y7 (e:=eS) (sz:=1) (fun _=>rfl) e5))⟩,⟨.b (.one (.str c)),fun _=>rfl,fun _=>.p (by exact bg b7 rfl rfl)⟩,⟨.b (.agg [.i 5,.i a,.str c]),fun _=>rfl,fun _=>.p (by exact aU cz rfl rfl)⟩,⟨_,[103],Pt 103 0,rfl,fun _=>rfl,rfl,rfl,fun _=>.wg [1,101,102,103] (by exact .p (by exact aF (k:=103) im rfl)) (by exact rfl)⟩,trivial,trivial⟩,⟨by kernel_rfl,⟨⟨Pt 1 0,fun _=>rfl,fun _=>.p (by exact dE pg rfl rfl rfl)⟩,⟨Pt 1 0,fun _=>rfl,fun _=>.p (by exact aB rfl)⟩,⟨Pt 1 1,fun _=>rfl,fun _=>.p (by exact aj bL rfl rfl)⟩,⟨I a,fun _=>rfl,fun _=>.p (by exact ao bI rfl rfl rfl)⟩,⟨I d,fun _=>rfl,fun _=>.p (by exact ey rfl)⟩,⟨.b (.dc [.str c]),fun _=>rfl,fun _=>.p (by exact q8 rX rW tJ (aR e5) (cD e5) rfl (y7 (e:=eS) (sz:=1) (fun _=>rfl) e5))⟩,⟨.b (.one (.str c)),fun _=>rfl,fun _=>.p (by exact bg b7 rfl rfl)⟩,⟨.b (.agg [.i 5,.i a,.str c]),fun _=>rfl,fun _=>.p (by exact aU cz rfl rfl)⟩,trivial,⟨_,[],.b (.one .any),rfl,(fun e=>by simp at e),rfl,rfl,fun _=>.wg [1,101,102,103] (by exact .p (by exact an bK rfl rfl rfl rfl (zab rfl) rfl)) (by exact rfl)⟩,trivial⟩,⟨by kernel_rfl,⟨trivial,trivial,trivial,trivial,trivial,trivial,trivial,trivial,trivial,trivial,trivial⟩,trivial⟩⟩⟩) rfl rfl rfl [1,2,4,5] [1,101,102,103] (s':=⟨[(1,_),(2,_),(4,_),(5,Pt 103 0)],[(1,_),(101,_),(102,_),(103,.box 31 [.i 5,.i a,.str c])]⟩) rfl ?_
 refine ab.seq (ab.af ⟨[(1,_),(2,_),(4,_),(5,_)],[(1,_),(101,_),(102,_),(103,_)]⟩ rfl ?_)
 obtain⟨g,e6,h⟩:=aH h
 refine ab.bN mixed 11 [Pt 1 0,Pt 1 0,Pt 1 1,I a,I d,.b (.dc [.str g]),.b (.one (.str g)),I (g.length:Int),I (i64.wrap (a+(g.length:Int))),Pt 1 0,Pt 1 1] [2,5] [1,102,103] (s':=⟨[(2,_),(5,_)],[(1,.box 77 [.str f,.i (i64.wrap (a+(g.length:Int)))]),(102,_),(103,_)]⟩) rfl ⟨fun _=>.p (dE pg rfl rfl rfl),fun _=>.p (aB rfl),fun _=>.p (aj bL rfl rfl),fun _=>.p (ao bI rfl rfl rfl),fun _=>.p om,fun _=>.p (q8 rX rW tJ (aR e6) (cD e6) rfl (y7 (e:=eS) (sz:=1) (fun _=>rfl) e6)),fun _=>.p (bg b7 rfl rfl),fun _=>.p (bh cb rfl),fun _=>.p (aL rfl rfl),fun _=>.p (aB rfl),fun _=>.p (aj bL rfl rfl),trivial⟩ ⟨_,by exact .p (bF bI rfl rfl rfl (zab rfl) rfl),rfl⟩ rfl (ab.seq (ab.aa ?_))
 refine Oc (lp bK) (Oc (an bK rfl rfl rfl rfl (zab rfl) rfl) (Oc oa (ae.ag ⟨[(2,_),(3,B true)],[(1,_),(102,.box 31 [.i 5,.i a,.str c])]⟩ rfl (ab.ret ?_))))
 obtain rfl:=zaa h
 refine Fin.af ⟨[(2,_),(3,_)],[(1,_),(102,_)]⟩ rfl (Fin.Bc (.inl rfl) ?_)
 exact Fin.pr [1] [.agg [.i 5,.i a,.str c],.one (.bool true)] (.inl rfl) rfl (.cons (.zx (.agg bK rfl rfl rfl rfl)) (.cons (.zx (.tmp rfl)) .nil)) ⟨_,rfl,rfl,rfl⟩
theorem oV {F:Nat} {c:Str} {a:Int} {r:Token×Bool×Int} (h:dx F c a=some (.inl r)):ax prog (bd mx) 44 [(1,.box 77 [.str c,.i a])] [.ptr 1 0] (Is [(1,.box 77 [.str c,.i r.2.2])] (.gS [.agg (aC r.1),.one (.bool r.2.1)])):=(jN h).spec
theorem p6 {F:Nat} {c:Str} {a:Int} {p:Problem} (h:dx F c a=some (.inr p)):kB prog (bd mx) 44 [(1,.box 77 [.str c,.i a])] [.ptr 1 0] ((fun p:Problem=>.iface 46 (.agg #[.int .i64 p.At,.int .i64 p.E])) p) ((fun p:Problem=>lG .i64 p.At/\lG .i64 p.E) p):=(jN h).Cw
def dV (F:Nat) (o:Str) (h:Int):Option (Str×Int) :=
 Option.bind (iter F (fun d=>Option.bind (cG F 99 d.s d.pos) (iJ fun e a c=>(aT (!(decide (0<e))) (bx F a c)).bind fun j=>if ((decide (0<e))||(decide (j=35)))=true then ((bx F a c).bind fun k=>if (decide (k=35))=true then (Option.bind (cG F 101 a c) (iJ fun q m f=>some (.inl (⟨m,f⟩:Scan)))) else (some (.inl (⟨a,c⟩:Scan)))) else (some (.inr (⟨a,c⟩:Scan))))) (⟨o,h⟩:Scan)) (fun g=>some (g.s,g.pos))
theorem kj {F:Nat} {d:Str} {c:Int} {r:Str×Int} (h:dV F d c=some r):ax prog (bd mx) 45 [(1,.box 77 [.str d,.i c])] [.ptr 1 0] (Is [(1,.box 77 [.str r.1,.i r.2])] (.gS [])):=by
 unfold dV at h
 refine ax.intro 15 Tryz.func45 Tryz.ntmps45 rfl (by simp) fun E=>(ab.block ?_)
 obtain⟨v1,h2,h⟩:=aH h
 refine ab.cx h2 (fun (f:Scan)=>⟨[(0,Pt 1 0)],[(1,.box 77 (jG f))]⟩) [0] [1] rfl ?_
 rintro f o3 h4 hy5
 refine ab.seq (ab.seq (ab.aa ?_))
 refine Oc om ?_
 obtain⟨⟨a,g,j⟩,e6,h4⟩:=aH h4
 refine Oc (cK (own_a:=[(1,_)]) (eh e6) wM rfl ⟨rfl,trivial⟩ rfl rfl) (Oc (dy rfl rfl) (Oc om ?_))
 refine dD (!(decide (0<a))) [] (fun g7=>trivial) (fun g7=>om) (ae.af ⟨[(0,_),(5,B (decide (0<a))),(6,.opt (!(decide (0<a))) (.ptr 1 0))],[(1,.box 77 [.str g,.i j])]⟩ rfl ?_)
 obtain⟨m,e9,h4⟩:=aH h4
 refine dD (!(decide (0<a))) [6] (fun g8=>⟨g8,trivial⟩) (fun g8=>wV (own_a:=[(1,_)]) (bS (gc e9 g8)) n2 rfl ⟨rfl,trivial⟩ rfl rfl rfl rfl rfl) (dD (!(decide (0<a))) [7] (fun g10=>⟨g10,trivial⟩) (fun g10=>b8 rfl rfl) (Oc (aW (fun e=>by first|(rw[e];rfl)|(simp only at e;rw[e];rfl)) rfl rfl rfl rfl) (ae.ag ⟨[(0,_),(9,B ((decide (0<a))||(decide (m=35))))],[(1,_)]⟩ rfl (ab.ite h4 rfl (fun _ h4=>?_) (fun _ h4=>?_)))))
 refine ab.skip (Fin.af ⟨[(0,_)],[(1,_)]⟩ rfl (Fin.then (ab.block (ab.seq (ab.aa ?_)))))
 refine Oc om ?_
 obtain⟨o,e11,h4⟩:=aH h4
 refine Oc (cK (own_a:=[(1,_)]) (bS e11) n2 rfl ⟨rfl,trivial⟩ rfl rfl) (Oc (b8 rfl rfl) (ae.ag ⟨[(0,_),(12,B (decide (o=35)))],[(1,_)]⟩ rfl (ab.ite h4 rfl (fun _ h4=>?_) (fun _ h4=>?_))))
 refine ab.aa (Oc om ?_)
 obtain⟨⟨t,q,k⟩,e12,h4⟩:=aH h4
 refine Oc (cK (own_a:=[(1,_)]) (eh e12) wM rfl ⟨rfl,trivial⟩ rfl rfl) (ae.nil (Fin.aA ?_))
 exact Fin.bB [0] [1] (⟨q,k⟩:Scan) (zaa h4) rfl
 refine ab.skip (Fin.aA ?_)
 exact Fin.bB [0] [1] (⟨g,j⟩:Scan) (zaa h4) rfl
 refine ab.exit (Fin.aw ?_)
 obtain rfl:=hy5 _ (zaa h4).symm
 refine Fin.aw (Fin.aJ ?_)
 obtain rfl:=zaa h
 refine Fin.af ⟨[],[(1,_)]⟩ rfl ?_
 exact Fin.result [] (.inr rfl) rfl (.nil) ⟨rfl,rfl⟩
def cI (F:Nat) (s0:Str):Option ((List Token)×Problem) :=
 if (decide (100000<(s0.length:Int)))=true then (some ([],(⟨0,2⟩:Problem))) else (Option.bind (Option.bind (dV F s0 0) (bQ fun b1 b2=>iter F (bQ fun a x=>if (decide (x.pos<(s0.length:Int)))=true then (Option.bind (Option.bind (iter F (bQ fun d c=>if (decide (c<4))=true then (if decide (c=0)=true then (Option.bind (cC F d.s d.pos) (vH (fun h=>some (.inr (.inr ([],(⟨h.At,h.E⟩:Problem))))) (Ba fun z ac j k=>if ac=true then ((gU a [z]).bind fun ad=>some (.inr (.inl (ad,(⟨j,k⟩:Scan))))) else (some (.inl ((⟨j,k⟩:Scan),i64.wrap (c+1))))))) else (if decide (c=1)=true then (Option.bind (cf F d.s d.pos) (vH (fun m=>some (.inr (.inr ([],(⟨m.At,m.E⟩:Problem))))) (Ba fun ai ak o q=>if ak=true then ((gU a [ai]).bind fun al=>some (.inr (.inl (al,(⟨o,q⟩:Scan))))) else (some (.inl ((⟨o,q⟩:Scan),i64.wrap (c+1))))))) else (if decide (c=2)=true then (Option.bind (cB F d.s d.pos) (vH (fun r=>some (.inr (.inr ([],(⟨r.At,r.E⟩:Problem))))) (Ba fun am ap t u=>if ap=true then ((gU a [am]).bind fun be=>some (.inr (.inl (be,(⟨t,u⟩:Scan))))) else (some (.inl ((⟨t,u⟩:Scan),i64.wrap (c+1))))))) else (if decide (c=3)=true then (Option.bind (dx F d.s d.pos) (vH (fun v=>some (.inr (.inr ([],(⟨v.At,v.E⟩:Problem))))) (iJ fun bi bk w=>if bk=true then ((gU a [bi]).bind fun bl=>some (.inr (.inl (bl,(⟨d.s,w⟩:Scan))))) else (some (.inl ((⟨d.s,w⟩:Scan),i64.wrap (c+1))))))) else (none))))) else (some (.inr (.inl (a,d))))) (x,0)) (cW (bQ fun e bo=>some (.inl (e,bo))) (fun y=>some (.inr y)))) (cW (bQ fun f bs=>Option.bind (dV F bs.s bs.pos) (bQ fun bw b0=>some (.inl (f,(⟨bw,b0⟩:Scan))))) (fun y=>some (.inr (.inr y))))) else (some (.inr (.inl a)))) ([],(⟨b1,b2⟩:Scan)))) (cW (fun g=>some (g,(⟨0,0⟩:Problem))) (fun y=>some y)))
theorem r9:zN prog 40 2:=zN.intro Tryz.func40 rfl rfl Tryz.underlying20 (by decide) (by decide) (by decide) (by decide) (by decide)
theorem fW {a102i0 a102i1:Int} {xs107:List Token} {p:Problem} (hok:lG .i64 p.At/\lG .i64 p.E):tI prog (bd mx) 40 [(101,.bD 22 [.row 107]),(102,.box 46 [.i a102i0,.i a102i1]),(107,.row 31 3 (xs107.map aC))] [.ptr 101 0,.ptr 102 0] (.iface 46 (.agg #[.int .i64 p.At,.int .i64 p.E])) [(101,.bD 22 [.one (.nil)]),(102,.box 46 (bP p))]:=by
 refine tI.intro (z:=.one (.AZ 46 (bP p))) 8 Tryz.func40 Tryz.ntmps40 rfl (by decide) (by decide) (by decide) (fun h ρ=>⟨_,rfl,.cons ⟨rfl,hok.1⟩ (.cons ⟨rfl,hok.2⟩ .nil)⟩) fun E=>(ab.seq (ab.aa ?_))
 refine Oc om (Oc (B9 Tryz.underlying20 rfl) ?_)
 refine ae.ag ⟨[(0,Pt 101 0),(1,Pt 102 0),(2,.b (.one (.AZ 46 (bP p)))),(5,B true)],[(101,.bD 22 [.row 107]),(102,.box 46 [.i a102i0,.i a102i1]),(107,.row 31 3 (xs107.map aC))]⟩ rfl (ab.oh rfl (ab.af ⟨[(0,_),(1,_),(2,_)],[(101,_),(102,_),(107,_)]⟩ rfl (ab.tM mixed [false,false,true,true] [.b (.one (.AZ 46 (bP p))),.b (.agg (bP p)),B true,B true] [⟨[false,false,false,false],[(0,Pt 101 0),(1,Pt 102 0),(2,.b (.one (.AZ 46 (bP p))))],[(101,.bD 22 [.row 107]),(102,.box 46 [.i a102i0,.i a102i1]),(107,.row 31 3 (xs107.map aC))],[true,true,true,true],[],[3]⟩,⟨[false,false,true,false],[(0,Pt 101 0),(1,Pt 102 0),(2,.b (.one (.AZ 46 (bP p))))],[(101,.bD 22 [.one (.nil)]),(102,.box 46 [.i a102i0,.i a102i1]),(107,.row 31 3 (xs107.map aC))],[true,true,true,true],[2],[]⟩,⟨[false,false,true,true],[(0,Pt 101 0),(1,Pt 102 0),(2,.b (.one (.AZ 46 (bP p))))],[(101,.bD 22 [.one (.nil)]),(102,.box 46 (bP p)),(107,.row 31 3 (xs107.map aC))],[true,true,true,true],[0,1,2,3],[]⟩] rfl (⟨by kernel_rfl,⟨⟨.b (.one (.AZ 46 (bP p))),fun _=>rfl,fun _=>.p (by exact ey rfl)⟩,⟨.b (.agg (bP p)),fun _=>rfl,fun _=>.p (by exact sA Tryz.underlying46 rfl rfl)⟩,⟨_,[],.b (.one .any),rfl,(fun e=>by simp at e),rfl,rfl,fun _=>.wg [101,102,107] (by exact .p (by exact fD eH rfl rfl rfl rfl (zab rfl) rfl)) (by exact rfl)⟩,trivial,trivial⟩,⟨by kernel_rfl,⟨⟨.b (.one (.AZ 46 (bP p))),fun _=>rfl,fun _=>.p (by exact ey rfl)⟩,⟨.b (.agg (bP p)),fun _=>rfl,fun _=>.p (by exact sA Tryz.underlying46 rfl rfl)⟩,trivial,⟨_,[],.b (.one .any),rfl,(fun e=>by simp at e),rfl,rfl,fun _=>.wg [101,102,107] (by exact .p (by exact an dA rfl rfl rfl rfl (zab rfl) rfl)) (by exact rfl)⟩,trivial⟩,⟨by kernel_rfl,⟨trivial,trivial,trivial,trivial,trivial⟩,trivial⟩⟩⟩) rfl rfl rfl [] [101,102] (s':=⟨[],[(101,.bD 22 [.one (.nil)]),(102,.box 46 (bP p))]⟩) rfl (Fin.af ⟨[],[(101,_),(102,_)]⟩ rfl ?_))))
 exact Fin.result [] (.inr rfl) rfl .nil ⟨rfl,rfl⟩
theorem ed {F:Nat} {s0:Str} {r:(List Token)×Problem} (h:cI F s0=some r):ax prog (bd mx) 13 [] [.one (.str s0)] (Is [] (.gS [.one (.sl 3 (r.1.map aC)),.agg (bP r.2)])):=by
 unfold cI at h
 refine ax.E8 55 Tryz.func13 Tryz.ntmps13 rfl (by simp) fun E=>(ab.seq (ab.aa ?_))
 refine Oc (aF (k:=101) F2 rfl) (Oc (aF (k:=102) lL rfl) (ae.ag ⟨[(0,.b (.one (.str s0))),(2,Pt 101 0),(3,Pt 102 0)],[(101,.box 22 [.nil]),(102,.box 46 [.i 0,.i 0])]⟩ rfl (ab.seq (ab.seq (ab.aa ?_)))))
 refine Oc om (Oc (bh cb rfl) (Oc (dy rfl rfl) (ae.ag ⟨[(0,_),(2,_),(3,_),(12,B (decide (100000<(s0.length:Int))))],[(101,_),(102,_)]⟩ rfl (ab.ite h rfl (fun _ h=>?_) (fun _ h=>?_)))))
 refine ab.seq (ab.aa ?_)
 refine Oc (aU gP rfl rfl) (Oc (bF eH rfl rfl rfl (zab rfl) rfl) (Oc (an dA rfl rfl rfl rfl (zab rfl) rfl) (ae.ag ⟨[(2,_),(3,_)],[(101,_),(102,.box 46 [.i 0,.i 2])]⟩ rfl (ab.ret (Fin.ay ?_)))))
 obtain rfl:=zaa h
 refine Fin.retD (.inl rfl) rfl (Fin.af ⟨[(2,_),(3,_)],[(101,_),(102,_)]⟩ rfl (Fin.ku 101 0 3 rfl rfl (by decide) (Fin.au [.one (.sl 3 ([].map aC)),.agg [.i 0,.i 2]] (.inl rfl) rfl (.cons (.one eH rfl rfl rfl) (.cons (.agg dA rfl rfl rfl rfl) .nil)) ⟨rfl,rfl⟩)))
 refine ab.skip (Fin.af ⟨[(0,_),(2,_),(3,_)],[(101,_),(102,_)]⟩ rfl (Fin.then (ab.seq (ab.aa ?_))))
 refine Oc (iY rfl rfl) (ae.defer rfl rfl rfl (fun E' vals hlink hvals=>(ae.ag ⟨[(0,_),(2,_),(3,_)],[(101,_),(102,_)]⟩ rfl (ab.seq (ab.aa ?_)))))
 refine Oc om (Oc (aU DS rfl rfl) (Oc (bE (k:=103) rfl rfl) (Oc oa (ae.ag ⟨[(0,_),(2,_),(3,_),(4,Pt 103 0)],[(101,_),(102,_),(103,.box 77 [.str s0,.i 0])]⟩ rfl (ab.seq (ab.aa ?_))))))
 refine Oc om (Oc (iY rfl rfl) (Oc om (Oc (iY rfl rfl) (Oc om (Oc (iY rfl rfl) ?_)))))
 refine Oc om (ae.af ⟨[(0,_),(2,_),(3,_),(4,_),(19,.b (.ek 41 [.ptr 103 0] [])),(21,.b (.ek 42 [.ptr 103 0] [])),(23,.b (.ek 43 [.ptr 103 0] [])),(24,Pt 103 0)],[(101,_),(102,_),(103,_)]⟩ rfl (Oc (iY rfl rfl) (Oc (AM DR rfl rfl) (Oc (aF (k:=104) F1 rfl) (ae.Ez 104 rfl (Oc (vq CK rfl rfl rfl rfl rfl (zab rfl) rfl) (ae.ag ⟨[(0,.b (.one (.str s0))),(2,Pt 101 0),(3,Pt 102 0),(4,Pt 103 0),(5,Pt 104 0)],[(101,.box 22 [.nil]),(102,.box 46 [.i 0,.i 0]),(103,.box 77 [.str s0,.i 0]),(104,.bD 79 [.ek 41 [.ptr 103 0] [],.ek 42 [.ptr 103 0] [],.ek 43 [.ptr 103 0] [],.ek 44 [.ptr 103 0] []])]⟩ rfl ?_)))))))
 obtain⟨v1,h2,h⟩:=aH h
 refine ab.bR (v:=v1) (fun (c:List Token)=>⟨[(2,Pt 101 0),(3,Pt 102 0)],[(101,.bD 22 [.row 107]),(102,.box 46 [.i 0,.i 0]),(107,.row 31 3 (c.map aC))]⟩) (fun z=>.inl z) ?_ ?_
 refine ab.seq (ab.aa ?_)
 refine Oc om ?_
 obtain⟨⟨ch,ci⟩,e3,h2⟩:=aH h2
 refine Oc (cK (own_a:=[(103,_)]) ((kj e3).sw 1 103) Fo rfl ⟨rfl,trivial⟩ rfl rfl) (ae.ag ⟨[(0,.b (.one (.str s0))),(2,Pt 101 0),(3,Pt 102 0),(4,Pt 103 0),(5,Pt 104 0)],[(101,.box 22 [.nil]),(102,.box 46 [.i 0,.i 0]),(103,.box 77 [.str ch,.i ci]),(104,.bD 79 [.ek 41 [.ptr 103 0] [],.ek 42 [.ptr 103 0] [],.ek 43 [.ptr 103 0] [],.ek 44 [.ptr 103 0] []])]⟩ rfl (ab.block (ab.Ez 101 rfl (ab.pz 101 0 107 3 31 rfl rfl (by decide) (by decide) rfl (ab.cx h2 (bQ fun (a:List Token) (b4:Scan)=>⟨[(0,.b (.one (.str s0))),(2,Pt 101 0),(3,Pt 102 0),(4,Pt 103 0),(5,Pt 104 0)],[(101,.bD 22 [.row 107]),(102,.box 46 [.i 0,.i 0]),(103,.box 77 (jG b4)),(104,.bD 79 [.ek 41 [.ptr 103 0] [],.ek 42 [.ptr 103 0] [],.ek 43 [.ptr 103 0] [],.ek 44 [.ptr 103 0] []]),(107,.row 31 3 (a.map aC))]⟩) [0,2,3,4,5] [101,102,103,104,107] rfl ?_)))))
 rintro⟨a,b4⟩ o4 h5 hy6
 refine ab.seq (ab.seq (ab.aa ?_))
 refine Oc om (Oc (aB rfl) (Oc (aj bL rfl rfl) (Oc (ao bI rfl rfl rfl) (Oc om (Oc (bh cb rfl) ?_)))))
 refine Oc (bt rfl rfl) (ae.ag ⟨[(0,_),(2,_),(3,_),(4,_),(5,_),(35,B (decide (b4.pos<(s0.length:Int))))],[(101,_),(102,_),(103,_),(104,_),(107,_)]⟩ rfl (ab.ite h5 rfl (fun _ h5=>?_) (fun _ h5=>?_)))
 refine ab.skip (Fin.af ⟨[(0,_),(2,_),(3,_),(4,_),(5,_)],[(101,_),(102,_),(103,_),(104,_),(107,_)]⟩ rfl (Fin.then ?_))
 obtain⟨v7,h8,h5⟩:=aH h5
 refine ab.bR (v:=v7) (bQ fun (f:List Token) (b5:Scan)=>⟨[(0,.b (.one (.str s0))),(2,Pt 101 0),(3,Pt 102 0),(4,Pt 103 0),(5,Pt 104 0)],[(101,.bD 22 [.row 107]),(102,.box 46 [.i 0,.i 0]),(103,.box 77 (jG b5)),(104,.bD 79 [.ek 41 [.ptr 103 0] [],.ek 42 [.ptr 103 0] [],.ek 43 [.ptr 103 0] [],.ek 44 [.ptr 103 0] []]),(107,.row 31 3 (f.map aC))]⟩) (fun z=>.inl z) ?_ ?_
 refine ab.block (ab.seq (ab.aa ?_))
 refine Oc (Cb CK rfl rfl rfl rfl) (Oc om (ae.ag ⟨[(0,_),(2,_),(3,_),(4,_),(5,_),(38,.je [.ek 41 [.ptr 103 0] [],.ek 42 [.ptr 103 0] [],.ek 43 [.ptr 103 0] [],.ek 44 [.ptr 103 0] []]),(39,I 0)],[(101,_),(102,_),(103,_),(104,_),(107,_)]⟩ rfl (ab.block ?_)))
 obtain⟨v9,h10,h8⟩:=aH h8
 refine ab.cx h10 (bQ fun (g:Scan) (d:Int)=>⟨[(0,.b (.one (.str s0))),(2,Pt 101 0),(3,Pt 102 0),(4,Pt 103 0),(5,Pt 104 0),(38,.je [.ek 41 [.ptr 103 0] [],.ek 42 [.ptr 103 0] [],.ek 43 [.ptr 103 0] [],.ek 44 [.ptr 103 0] []]),(39,I d)],[(101,.bD 22 [.row 107]),(102,.box 46 [.i 0,.i 0]),(103,.box 77 (jG g)),(104,.bD 79 [.ek 41 [.ptr 103 0] [],.ek 42 [.ptr 103 0] [],.ek 43 [.ptr 103 0] [],.ek 44 [.ptr 103 0] []]),(107,.row 31 3 (a.map aC))]⟩) [0,2,3,4,5,38,39] [101,102,103,104,107] rfl ?_
 rintro⟨g,d⟩ o11 h12 hy13
 refine ab.seq (ab.aa ?_)
 refine Oc (bt rfl rfl) (ae.ag ⟨[(0,_),(2,_),(3,_),(4,_),(5,_),(38,_),(39,_),(40,B (decide (d<4)))],[(101,_),(102,_),(103,_),(104,_),(107,_)]⟩ rfl (ab.seq (ab.ite h12 rfl (fun _ h12=>?_) (fun _ h12=>?_))))
 refine ab.skip (Fin.af ⟨[(0,_),(2,_),(3,_),(4,_),(5,_),(38,_),(39,_)],[(101,_),(102,_),(103,_),(104,_),(107,_)]⟩ rfl (Fin.then (ab.seq (ab.block (ab.seq ?_)))))
 refine CD h12 (fun hc14 h12=>?_) (fun _ h12=>?_)
 refine ab.aa (Oc (nP vQ vP (show d=0 from of_decide_eq_true hc14) (by decide) rfl rfl rfl) (Oc oa (ae.ag ⟨[(0,_),(2,_),(3,_),(4,_),(5,_),(7,.b (.ek 41 [.ptr 103 0] [])),(38,_),(39,_)],[(101,_),(102,_),(103,_),(104,_),(107,_)]⟩ rfl (ab.seq (ab.aa ?_)))))
 refine Oc om ?_
 obtain⟨bl,e15,h12⟩:=aH h12
 refine CF h12 (fun j hp16 h12=>?p9) (fun z hp16 h12=>?_)
 case p9=>
  subst bl
  refine ae.tV (own_a:=[(103,_)]) ((p7 e15).sw 1 103) Fu rfl rfl rfl ⟨rfl,trivial⟩ (fun hok=>(Fin.bU (Fin.cP (Fin.bU ?_))))
  obtain rfl:=hy13 _ (zaa h12).symm
  refine Fin.bU (Fin.cP (Fin.cP ?_))
  obtain rfl:=zaa h8
  refine Fin.bU ?_
  obtain rfl:=hy6 _ (zaa h5).symm
  refine Fin.bU (Fin.cP (Fin.bU (Fin.we (own_c:=[(101,_),(102,_),(107,_)]) hlink hvals (fW hok) wN rfl rfl ⟨rfl,rfl,rfl,trivial⟩ rfl rfl (wK rfl rfl rfl rfl) ?_)))
  obtain rfl:=zaa h
  refine Fin.af ⟨[(2,Pt 101 0),(3,Pt 102 0)],[(101,.bD 22 [.one (.nil)]),(102,.box 46 [.i j.At,.i j.E])]⟩ rfl (Fin.Cq 101 rfl rfl (Fin.ku 101 0 3 rfl rfl (by decide) (Fin.au [.one (.sl 3 ([].map aC)),.agg [.i j.At,.i j.E]] (.inl rfl) rfl (.cons (.one eH rfl rfl rfl) (.cons (.agg dA rfl rfl rfl rfl) .nil)) ⟨rfl,rfl⟩)))
 subst bl
 obtain⟨ai,ak,m,o⟩:=z
 refine Oc (oA (own_a:=[(103,_)]) ((oW e15).sw 1 103) Fu rfl rfl rfl ⟨rfl,trivial⟩ rfl rfl) (Oc om (Oc (aG rfl rfl) (Oc (aG rfl rfl) (ae.af ⟨[(0,.b (.one (.str s0))),(2,_),(3,_),(4,Pt 103 0),(5,Pt 104 0),(38,.je [.ek 41 [.ptr 103 0] [],.ek 42 [.ptr 103 0] [],.ek 43 [.ptr 103 0] [],.ek 44 [.ptr 103 0] []]),(39,I d),(45,.b (.agg (aC ai))),(46,B ak)],[(101,.bD 22 [.row 107]),(102,.box 46 [.i 0,.i 0]),(103,.box 77 [.str m,.i o]),(104,.bD 79 [.ek 41 [.ptr 103 0] [],.ek 42 [.ptr 103 0] [],.ek 43 [.ptr 103 0] [],.ek 44 [.ptr 103 0] []]),(107,.row 31 3 (a.map aC))]⟩ rfl (Oc (aF (k:=108) im rfl) (Oc (an bK rfl rfl rfl rfl (zab rfl) rfl) (Oc oa (ae.ag ⟨[(0,_),(2,_),(3,_),(4,_),(5,_),(8,Pt 108 0),(9,B ak),(38,_),(39,_)],[(101,_),(102,_),(103,_),(104,_),(107,_),(108,.box 31 (aC ai))]⟩ rfl (ab.seq (ab.aa ?_))))))))))
 refine Oc om (ae.ag ⟨[(0,_),(2,_),(3,_),(4,_),(5,_),(8,_),(38,_),(39,_),(47,B ak)],[(101,_),(102,_),(103,_),(104,_),(107,_),(108,_)]⟩ rfl (ab.ite h12 rfl (fun _ h12=>?_) (fun _ h12=>?_)))
 refine ab.seq (ab.aa ?_)
 refine Oc (dE eH rfl rfl rfl) (Oc (lp bK) (Oc (aX (k:=109) (es:=[ai].map aC) fh rfl rfl (cg fun _=>rfl) rfl (by decide) (by decide) rfl) (ae.forget 101 0 rfl ?_)))
 obtain⟨bo,e17,h12⟩:=aH h12
 refine Oc (eV fh (oo e17) (oi e17) rfl rfl rfl rfl (jj e17) rfl) (Oc (fD eH rfl rfl rfl rfl (zab rfl) rfl) (ae.ag ⟨[(0,.b (.one (.str s0))),(2,Pt 101 0),(3,Pt 102 0),(4,Pt 103 0),(5,Pt 104 0)],[(101,.bD 22 [.row 107]),(102,.box 46 [.i 0,.i 0]),(103,.box 77 [.str m,.i o]),(104,.bD 79 [.ek 41 [.ptr 103 0] [],.ek 42 [.ptr 103 0] [],.ek 43 [.ptr 103 0] [],.ek 44 [.ptr 103 0] []]),(107,.row 31 3 (bo.map aC))]⟩ rfl (ab.exit (Fin.jz (by decide) (Fin.aw ?_)))))
 obtain rfl:=hy13 _ (zaa h12).symm
 refine Fin.aw (Fin.aJ (Fin.aA ?_))
 exact Fin.join [0,2,3,4,5] [101,102,103,104,107] (bo,(⟨m,o⟩:Scan)) (zaa h8) rfl
 refine ab.skip (Fin.aA (Fin.af ⟨[(0,_),(2,_),(3,_),(4,_),(5,_),(38,_),(39,_)],[(101,_),(102,_),(103,_),(104,_),(107,_)]⟩ rfl (Fin.then (ab.aa ?_))))
 refine Oc (aL rfl rfl) (Oc om (ae.nil ?_))
 exact Fin.bB [0,2,3,4,5,38,39] [101,102,103,104,107] ((⟨m,o⟩:Scan),i64.wrap (d+1)) (zaa h12) rfl
 refine CD h12 (fun hc18 h12=>?_) (fun _ h12=>?_)
 refine ab.aa (Oc (nP vQ vP (show d=1 from of_decide_eq_true hc18) (by decide) rfl rfl rfl) (Oc oa (ae.ag ⟨[(0,_),(2,_),(3,_),(4,_),(5,_),(7,.b (.ek 42 [.ptr 103 0] [])),(38,_),(39,_)],[(101,_),(102,_),(103,.box 77 (jG g)),(104,_),(107,_)]⟩ rfl (ab.seq (ab.aa ?_)))))
 refine Oc om ?_
 obtain⟨bs,e19,h12⟩:=aH h12
 refine CF h12 (fun q hp20 h12=>?p9) (fun z hp20 h12=>?_)
 case p9=>
  subst bs
  refine ae.tV (own_a:=[(103,_)]) ((oc e19).sw 1 103) Ft rfl rfl rfl ⟨rfl,trivial⟩ (fun hok=>(Fin.bU (Fin.cP (Fin.bU ?_))))
  obtain rfl:=hy13 _ (zaa h12).symm
  refine Fin.bU (Fin.cP (Fin.cP ?_))
  obtain rfl:=zaa h8
  refine Fin.bU ?_
  obtain rfl:=hy6 _ (zaa h5).symm
  refine Fin.bU (Fin.cP (Fin.bU (Fin.we (own_c:=[(101,_),(102,_),(107,_)]) hlink hvals (fW hok) wN rfl rfl ⟨rfl,rfl,rfl,trivial⟩ rfl rfl (wK rfl rfl rfl rfl) ?_)))
  obtain rfl:=zaa h
  refine Fin.af ⟨[(2,Pt 101 0),(3,Pt 102 0)],[(101,.bD 22 [.one (.nil)]),(102,.box 46 [.i q.At,.i q.E])]⟩ rfl (Fin.Cq 101 rfl rfl (Fin.ku 101 0 3 rfl rfl (by decide) (Fin.au [.one (.sl 3 ([].map aC)),.agg [.i q.At,.i q.E]] (.inl rfl) rfl (.cons (.one eH rfl rfl rfl) (.cons (.agg dA rfl rfl rfl rfl) .nil)) ⟨rfl,rfl⟩)))
 subst bs
 obtain⟨al,am,t,u⟩:=z
 refine Oc (oA (own_a:=[(103,_)]) ((nu e19).sw 1 103) Ft rfl rfl rfl ⟨rfl,trivial⟩ rfl rfl) (Oc om (Oc (aG rfl rfl) (Oc (aG rfl rfl) (ae.af ⟨[(0,.b (.one (.str s0))),(2,_),(3,_),(4,Pt 103 0),(5,Pt 104 0),(38,.je [.ek 41 [.ptr 103 0] [],.ek 42 [.ptr 103 0] [],.ek 43 [.ptr 103 0] [],.ek 44 [.ptr 103 0] []]),(39,I d),(45,.b (.agg (aC al))),(46,B am)],[(101,.bD 22 [.row 107]),(102,.box 46 [.i 0,.i 0]),(103,.box 77 [.str t,.i u]),(104,.bD 79 [.ek 41 [.ptr 103 0] [],.ek 42 [.ptr 103 0] [],.ek 43 [.ptr 103 0] [],.ek 44 [.ptr 103 0] []]),(107,.row 31 3 (a.map aC))]⟩ rfl (Oc (aF (k:=110) im rfl) (Oc (an bK rfl rfl rfl rfl (zab rfl) rfl) (Oc oa (ae.ag ⟨[(0,_),(2,_),(3,_),(4,_),(5,_),(8,Pt 110 0),(9,B am),(38,_),(39,_)],[(101,_),(102,_),(103,_),(104,_),(107,_),(110,.box 31 (aC al))]⟩ rfl (ab.seq (ab.aa ?_))))))))))
 refine Oc om (ae.ag ⟨[(0,_),(2,_),(3,_),(4,_),(5,_),(8,_),(38,_),(39,_),(47,B am)],[(101,_),(102,_),(103,_),(104,_),(107,_),(110,_)]⟩ rfl (ab.ite h12 rfl (fun _ h12=>?_) (fun _ h12=>?_)))
 refine ab.seq (ab.aa ?_)
 refine Oc (dE eH rfl rfl rfl) (Oc (lp bK) (Oc (aX (k:=111) (es:=[al].map aC) fh rfl rfl (cg fun _=>rfl) rfl (by decide) (by decide) rfl) (ae.forget 101 0 rfl ?_)))
 obtain⟨bw,e21,h12⟩:=aH h12
 refine Oc (eV fh (oo e21) (oi e21) rfl rfl rfl rfl (jj e21) rfl) (Oc (fD eH rfl rfl rfl rfl (zab rfl) rfl) (ae.ag ⟨[(0,.b (.one (.str s0))),(2,Pt 101 0),(3,Pt 102 0),(4,Pt 103 0),(5,Pt 104 0)],[(101,.bD 22 [.row 107]),(102,.box 46 [.i 0,.i 0]),(103,.box 77 [.str t,.i u]),(104,.bD 79 [.ek 41 [.ptr 103 0] [],.ek 42 [.ptr 103 0] [],.ek 43 [.ptr 103 0] [],.ek 44 [.ptr 103 0] []]),(107,.row 31 3 (bw.map aC))]⟩ rfl (ab.exit (Fin.jz (by decide) (Fin.aw ?_)))))
 obtain rfl:=hy13 _ (zaa h12).symm
 refine Fin.aw (Fin.aJ (Fin.aA ?_))
 exact Fin.join [0,2,3,4,5] [101,102,103,104,107] (bw,(⟨t,u⟩:Scan)) (zaa h8) rfl
 refine ab.skip (Fin.aA (Fin.af ⟨[(0,_),(2,_),(3,_),(4,_),(5,_),(38,_),(39,_)],[(101,_),(102,_),(103,_),(104,_),(107,_)]⟩ rfl (Fin.then (ab.aa ?_))))
 refine Oc (aL rfl rfl) (Oc om (ae.nil ?_))
 exact Fin.bB [0,2,3,4,5,38,39] [101,102,103,104,107] ((⟨t,u⟩:Scan),i64.wrap (d+1)) (zaa h12) rfl
 refine CD h12 (fun hc22 h12=>?_) (fun _ h12=>?_)
 refine ab.aa (Oc (nP vQ vP (show d=2 from of_decide_eq_true hc22) (by decide) rfl rfl rfl) (Oc oa (ae.ag ⟨[(0,_),(2,_),(3,_),(4,_),(5,_),(7,.b (.ek 43 [.ptr 103 0] [])),(38,_),(39,_)],[(101,_),(102,_),(103,.box 77 (jG g)),(104,_),(107,_)]⟩ rfl (ab.seq (ab.aa ?_)))))
 refine Oc om ?_
 obtain⟨b0,e23,h12⟩:=aH h12
 refine CF h12 (fun w hp24 h12=>?p9) (fun z hp24 h12=>?_)
 case p9=>
  subst b0
  refine ae.tV (own_a:=[(103,_)]) ((p5 e23).sw 1 103) Fq rfl rfl rfl ⟨rfl,trivial⟩ (fun hok=>(Fin.bU (Fin.cP (Fin.bU ?_))))
  obtain rfl:=hy13 _ (zaa h12).symm
  refine Fin.bU (Fin.cP (Fin.cP ?_))
  obtain rfl:=zaa h8
  refine Fin.bU ?_
  obtain rfl:=hy6 _ (zaa h5).symm
  refine Fin.bU (Fin.cP (Fin.bU (Fin.we (own_c:=[(101,_),(102,_),(107,_)]) hlink hvals (fW hok) wN rfl rfl ⟨rfl,rfl,rfl,trivial⟩ rfl rfl (wK rfl rfl rfl rfl) ?_)))
  obtain rfl:=zaa h
  refine Fin.af ⟨[(2,Pt 101 0),(3,Pt 102 0)],[(101,.bD 22 [.one (.nil)]),(102,.box 46 [.i w.At,.i w.E])]⟩ rfl (Fin.Cq 101 rfl rfl (Fin.ku 101 0 3 rfl rfl (by decide) (Fin.au [.one (.sl 3 ([].map aC)),.agg [.i w.At,.i w.E]] (.inl rfl) rfl (.cons (.one eH rfl rfl rfl) (.cons (.agg dA rfl rfl rfl rfl) .nil)) ⟨rfl,rfl⟩)))
 subst b0
 obtain⟨ap,be,x,y⟩:=z
 refine Oc (oA (own_a:=[(103,_)]) ((oU e23).sw 1 103) Fq rfl rfl rfl ⟨rfl,trivial⟩ rfl rfl) (Oc om (Oc (aG rfl rfl) (Oc (aG rfl rfl) (ae.af ⟨[(0,.b (.one (.str s0))),(2,_),(3,_),(4,Pt 103 0),(5,Pt 104 0),(38,.je [.ek 41 [.ptr 103 0] [],.ek 42 [.ptr 103 0] [],.ek 43 [.ptr 103 0] [],.ek 44 [.ptr 103 0] []]),(39,I d),(45,.b (.agg (aC ap))),(46,B be)],[(101,.bD 22 [.row 107]),(102,.box 46 [.i 0,.i 0]),(103,.box 77 [.str x,.i y]),(104,.bD 79 [.ek 41 [.ptr 103 0] [],.ek 42 [.ptr 103 0] [],.ek 43 [.ptr 103 0] [],.ek 44 [.ptr 103 0] []]),(107,.row 31 3 (a.map aC))]⟩ rfl (Oc (aF (k:=112) im rfl) (Oc (an bK rfl rfl rfl rfl (zab rfl) rfl) (Oc oa (ae.ag ⟨[(0,_),(2,_),(3,_),(4,_),(5,_),(8,Pt 112 0),(9,B be),(38,_),(39,_)],[(101,_),(102,_),(103,_),(104,_),(107,_),(112,.box 31 (aC ap))]⟩ rfl (ab.seq (ab.aa ?_))))))))))
 refine Oc om (ae.ag ⟨[(0,_),(2,_),(3,_),(4,_),(5,_),(8,_),(38,_),(39,_),(47,B be)],[(101,_),(102,_),(103,_),(104,_),(107,_),(112,_)]⟩ rfl (ab.ite h12 rfl (fun _ h12=>?_) (fun _ h12=>?_)))
 refine ab.seq (ab.aa ?_)
 refine Oc (dE eH rfl rfl rfl) (Oc (lp bK) (Oc (aX (k:=113) (es:=[ap].map aC) fh rfl rfl (cg fun _=>rfl) rfl (by decide) (by decide) rfl) (ae.forget 101 0 rfl ?_)))
 obtain⟨b1,e25,h12⟩:=aH h12
 refine Oc (eV fh (oo e25) (oi e25) rfl rfl rfl rfl (jj e25) rfl) (Oc (fD eH rfl rfl rfl rfl (zab rfl) rfl) (ae.ag ⟨[(0,.b (.one (.str s0))),(2,Pt 101 0),(3,Pt 102 0),(4,Pt 103 0),(5,Pt 104 0)],[(101,.bD 22 [.row 107]),(102,.box 46 [.i 0,.i 0]),(103,.box 77 [.str x,.i y]),(104,.bD 79 [.ek 41 [.ptr 103 0] [],.ek 42 [.ptr 103 0] [],.ek 43 [.ptr 103 0] [],.ek 44 [.ptr 103 0] []]),(107,.row 31 3 (b1.map aC))]⟩ rfl (ab.exit (Fin.jz (by decide) (Fin.aw ?_)))))
 obtain rfl:=hy13 _ (zaa h12).symm
 refine Fin.aw (Fin.aJ (Fin.aA ?_))
 exact Fin.join [0,2,3,4,5] [101,102,103,104,107] (b1,(⟨x,y⟩:Scan)) (zaa h8) rfl
 refine ab.skip (Fin.aA (Fin.af ⟨[(0,_),(2,_),(3,_),(4,_),(5,_),(38,_),(39,_)],[(101,_),(102,_),(103,_),(104,_),(107,_)]⟩ rfl (Fin.then (ab.aa ?_))))
 refine Oc (aL rfl rfl) (Oc om (ae.nil ?_))
 exact Fin.bB [0,2,3,4,5,38,39] [101,102,103,104,107] ((⟨x,y⟩:Scan),i64.wrap (d+1)) (zaa h12) rfl
 refine CD h12 (fun hc26 h12=>?_) (fun _ h12=>?_)
 refine ab.aa (Oc (nP vQ vP (show d=3 from of_decide_eq_true hc26) (by decide) rfl rfl rfl) (Oc oa (ae.ag ⟨[(0,_),(2,_),(3,_),(4,_),(5,_),(7,.b (.ek 44 [.ptr 103 0] [])),(38,_),(39,_)],[(101,_),(102,_),(103,.box 77 (jG g)),(104,_),(107,_)]⟩ rfl (ab.seq (ab.aa ?_)))))
 refine Oc om ?_
 obtain⟨b2,e27,h12⟩:=aH h12
 refine CF h12 (fun ac hp28 h12=>?p9) (fun z hp28 h12=>?_)
 case p9=>
  subst b2
  refine ae.tV (own_a:=[(103,_)]) ((p6 e27).sw 1 103) Fp rfl rfl rfl ⟨rfl,trivial⟩ (fun hok=>(Fin.bU (Fin.cP (Fin.bU ?_))))
  obtain rfl:=hy13 _ (zaa h12).symm
  refine Fin.bU (Fin.cP (Fin.cP ?_))
  obtain rfl:=zaa h8
  refine Fin.bU ?_
  obtain rfl:=hy6 _ (zaa h5).symm
  refine Fin.bU (Fin.cP (Fin.bU (Fin.we (own_c:=[(101,_),(102,_),(107,_)]) hlink hvals (fW hok) wN rfl rfl ⟨rfl,rfl,rfl,trivial⟩ rfl rfl (wK rfl rfl rfl rfl) ?_)))
  obtain rfl:=zaa h
  refine Fin.af ⟨[(2,Pt 101 0),(3,Pt 102 0)],[(101,.bD 22 [.one (.nil)]),(102,.box 46 [.i ac.At,.i ac.E])]⟩ rfl (Fin.Cq 101 rfl rfl (Fin.ku 101 0 3 rfl rfl (by decide) (Fin.au [.one (.sl 3 ([].map aC)),.agg [.i ac.At,.i ac.E]] (.inl rfl) rfl (.cons (.one eH rfl rfl rfl) (.cons (.agg dA rfl rfl rfl rfl) .nil)) ⟨rfl,rfl⟩)))
 subst b2
 obtain⟨bi,bk,ad⟩:=z
 refine Oc (oA (own_a:=[(103,_)]) ((oV e27).sw 1 103) Fp rfl rfl rfl ⟨rfl,trivial⟩ rfl rfl) (Oc om (Oc (aG rfl rfl) (Oc (aG rfl rfl) (ae.af ⟨[(0,.b (.one (.str s0))),(2,_),(3,_),(4,Pt 103 0),(5,Pt 104 0),(38,.je [.ek 41 [.ptr 103 0] [],.ek 42 [.ptr 103 0] [],.ek 43 [.ptr 103 0] [],.ek 44 [.ptr 103 0] []]),(39,I d),(45,.b (.agg (aC bi))),(46,B bk)],[(101,.bD 22 [.row 107]),(102,.box 46 [.i 0,.i 0]),(103,.box 77 [.str g.s,.i ad]),(104,.bD 79 [.ek 41 [.ptr 103 0] [],.ek 42 [.ptr 103 0] [],.ek 43 [.ptr 103 0] [],.ek 44 [.ptr 103 0] []]),(107,.row 31 3 (a.map aC))]⟩ rfl (Oc (aF (k:=114) im rfl) (Oc (an bK rfl rfl rfl rfl (zab rfl) rfl) (Oc oa (ae.ag ⟨[(0,_),(2,_),(3,_),(4,_),(5,_),(8,Pt 114 0),(9,B bk),(38,_),(39,_)],[(101,_),(102,_),(103,_),(104,_),(107,_),(114,.box 31 (aC bi))]⟩ rfl (ab.seq (ab.aa ?_))))))))))
 refine Oc om (ae.ag ⟨[(0,_),(2,_),(3,_),(4,_),(5,_),(8,_),(38,_),(39,_),(47,B bk)],[(101,_),(102,_),(103,_),(104,_),(107,_),(114,_)]⟩ rfl (ab.ite h12 rfl (fun _ h12=>?_) (fun _ h12=>?_)))
 refine ab.seq (ab.aa ?_)
 refine Oc (dE eH rfl rfl rfl) (Oc (lp bK) (Oc (aX (k:=115) (es:=[bi].map aC) fh rfl rfl (cg fun _=>rfl) rfl (by decide) (by decide) rfl) (ae.forget 101 0 rfl ?_)))
 obtain⟨b3,e29,h12⟩:=aH h12
 refine Oc (eV fh (oo e29) (oi e29) rfl rfl rfl rfl (jj e29) rfl) (Oc (fD eH rfl rfl rfl rfl (zab rfl) rfl) (ae.ag ⟨[(0,.b (.one (.str s0))),(2,Pt 101 0),(3,Pt 102 0),(4,Pt 103 0),(5,Pt 104 0)],[(101,.bD 22 [.row 107]),(102,.box 46 [.i 0,.i 0]),(103,.box 77 [.str g.s,.i ad]),(104,.bD 79 [.ek 41 [.ptr 103 0] [],.ek 42 [.ptr 103 0] [],.ek 43 [.ptr 103 0] [],.ek 44 [.ptr 103 0] []]),(107,.row 31 3 (b3.map aC))]⟩ rfl (ab.exit (Fin.jz (by decide) (Fin.aw ?_)))))
 obtain rfl:=hy13 _ (zaa h12).symm
 refine Fin.aw (Fin.aJ (Fin.aA ?_))
 exact Fin.join [0,2,3,4,5] [101,102,103,104,107] (b3,(⟨g.s,ad⟩:Scan)) (zaa h8) rfl
 refine ab.skip (Fin.aA (Fin.af ⟨[(0,_),(2,_),(3,_),(4,_),(5,_),(38,_),(39,_)],[(101,_),(102,_),(103,_),(104,_),(107,_)]⟩ rfl (Fin.then (ab.aa ?_))))
 refine Oc (aL rfl rfl) (Oc om (ae.nil ?_))
 exact Fin.bB [0,2,3,4,5,38,39] [101,102,103,104,107] ((⟨g.s,ad⟩:Scan),i64.wrap (d+1)) (zaa h12) rfl
 exact absurd h12 (by simp)
 refine ab.exit (Fin.aw ?_)
 obtain rfl:=hy13 _ (zaa h12).symm
 refine Fin.aw (Fin.aJ (Fin.aA ?_))
 exact Fin.join [0,2,3,4,5] [101,102,103,104,107] (a,g) (zaa h8) rfl
 rintro⟨f,b5⟩ hv
 subst v7
 refine ab.aa (Oc om ?_)
 obtain⟨⟨cd,ce⟩,e30,h5⟩:=aH h5
 refine Oc (cK (own_a:=[(103,_)]) ((kj e30).sw 1 103) Fo rfl ⟨rfl,trivial⟩ rfl rfl) (ae.nil ?_)
 exact Fin.bB [0,2,3,4,5] [101,102,103,104,107] (f,(⟨cd,ce⟩:Scan)) (zaa h5) rfl
 refine ab.exit (Fin.aw ?_)
 obtain rfl:=hy6 _ (zaa h5).symm
 refine Fin.aw (Fin.aJ ?_)
 exact Fin.join [2,3] [101,102,107] a rfl rfl
 rintro c hv
 subst v1
 refine ab.seq (ab.af ⟨[(2,_),(3,_)],[(101,_),(102,_),(107,_)]⟩ rfl (ab.pw mixed [false,false,true,true] [.b (.row 107),.b (.agg [.i 0,.i 0]),B true,B true] [⟨[false,false,false,false],[(2,Pt 101 0),(3,Pt 102 0)],[(101,.bD 22 [.row 107]),(102,.box 46 [.i 0,.i 0]),(107,.row 31 3 (c.map aC))],[true,true,true,true],[],[3]⟩,⟨[false,false,true,false],[(2,Pt 101 0),(3,Pt 102 0)],[(101,.bD 22 [.row 107]),(102,.box 46 [.i 0,.i 0]),(107,.row 31 3 (c.map aC))],[true,true,true,true],[0,2],[]⟩,⟨[false,false,true,true],[(2,Pt 101 0),(3,Pt 102 0)],[(101,.bD 22 [.row 107]),(102,.box 46 [.i 0,.i 0]),(107,.row 31 3 (c.map aC))],[true,true,true,true],[0,1,2,3],[]⟩] rfl (⟨by kernel_rfl,⟨⟨.b (.row 107),fun _=>rfl,fun _=>.p (by exact dE eH rfl rfl rfl)⟩,⟨.b (.agg [.i 0,.i 0]),fun _=>rfl,fun _=>.p (by exact fg dA rfl rfl rfl rfl)⟩,⟨_,[],.b (.one .any),rfl,(fun e=>by simp at e),rfl,rfl,fun _=>.wg [101,102,107] (by exact .p (by exact fD eH rfl rfl rfl rfl (zab rfl) rfl)) (by exact rfl)⟩,trivial,trivial⟩,⟨by kernel_rfl,⟨trivial,⟨.b (.agg [.i 0,.i 0]),fun _=>rfl,fun _=>.p (by exact fg dA rfl rfl rfl rfl)⟩,trivial,⟨_,[],.b (.one .any),rfl,(fun e=>by simp at e),rfl,rfl,fun _=>.wg [101,102,107] (by exact .p (by exact an dA rfl rfl rfl rfl (zab rfl) rfl)) (by exact rfl)⟩,trivial⟩,⟨by kernel_rfl,⟨trivial,trivial,trivial,trivial,trivial⟩,trivial⟩⟩⟩) rfl rfl rfl [2,3] [101,102,107] (s':=⟨[(2,_),(3,_)],[(101,_),(102,_),(107,_)]⟩) rfl (ab.ret ?_)))
 obtain rfl:=zaa h
 refine Fin.doorRet hlink r9 (by rw[← hvals.length];rfl) wN (.inl rfl) (wK rfl rfl rfl rfl) (Fin.af ⟨[(2,Pt 101 0),(3,Pt 102 0)],[(101,.bD 22 [.row 107]),(102,.box 46 [.i 0,.i 0]),(107,.row 31 3 (c.map aC))]⟩ rfl (Fin.c5 107 rfl (Fin.Cq 101 rfl rfl (Fin.au [.one (.sl 3 (c.map aC)),.agg [.i 0,.i 0]] (.inl rfl) rfl (.cons (.one eH rfl rfl rfl) (.cons (.agg dA rfl rfl rfl rfl) .nil)) ⟨rfl,rfl⟩))))
def gy (F:Nat) (a0:List Token) (b0:List Token):Option Bool :=
 if (decide ((a0.length:Int)≠(b0.length:Int)))=true then (some false) else (Option.bind (iter F (fun a=>if (decide (a<(a0.length:Int)))=true then ((aS a0 a).bind fun c=>(aS b0 a).bind fun d=>(aT (!(decide (c.Kind≠d.Kind))) (aS a0 a)).bind fun e=>(aT (!(decide (c.Kind≠d.Kind))) (aS b0 a)).bind fun f=>if ((decide (c.Kind≠d.Kind))||(decide (e.S≠f.S)))=true then (some (.inr (.inr false))) else (some (.inl (i64.wrap (a+1))))) else (some (.inr (.inl ())))) 0) (cW (fun _=>some true) (fun y=>some y)))
theorem kh {F:Nat} {a0:List Token} {b0:List Token} {r:Bool} (h:gy F a0 b0=some r):ax prog (bd mx) 14 [] [.one (.sl 3 (a0.map aC)),.one (.sl 3 (b0.map aC))] (Is [] (.b (.one (.bool r)))):=by
 unfold gy at h
 refine ax.intro 41 Tryz.func14 Tryz.ntmps14 rfl (by simp) fun E=>(ab.seq (ab.aa ?_))
 refine Oc oa (ae.ag ⟨[(0,.b (.one (.sl 3 (a0.map aC)))),(1,.b (.one (.sl 3 (b0.map aC))))],[]⟩ rfl (ab.seq (ab.seq (ab.aa ?_))))
 refine Oc om (Oc (ba qa rfl (List.length_map _)) (Oc om (Oc (ba qa rfl (List.length_map _)) (Oc (dd rfl rfl) (ae.ag ⟨[(0,_),(1,_),(10,B (decide ((a0.length:Int)≠(b0.length:Int))))],[]⟩ rfl (ab.ite h rfl (fun _ h=>?_) (fun _ h=>?_)))))))
 refine ab.seq (ab.aa ?_)
 refine Oc oa (ae.ag ⟨[(4,B false)],[]⟩ rfl (ab.ret (Fin.ay ?_)))
 obtain rfl:=zaa h
 refine Fin.af ⟨[(4,_)],[]⟩ rfl (Fin.au [.one (.bool false)] (.inl rfl) rfl (.cons (.tmp rfl) .nil) ⟨rfl,rfl⟩)
 refine ab.skip (Fin.af ⟨[(0,_),(1,_)],[]⟩ rfl (Fin.then ?_))
 obtain⟨v1,h2,h⟩:=aH h
 refine ab.bR (v:=v1) (fun (_:Unit)=>⟨[],[]⟩) (fun z=>.inl z) ?_ ?_
 refine ab.seq (ab.aa ?_)
 refine Oc oa (ae.ag ⟨[(0,_),(1,_),(5,I 0)],[]⟩ rfl (ab.block (ab.cx h2 (fun (d:Int)=>⟨[(0,.b (.one (.sl 3 (a0.map aC)))),(1,.b (.one (.sl 3 (b0.map aC)))),(5,I d)],[]⟩) [0,1,5] [] rfl ?_)))
 rintro d o3 h4 hy5
 refine ab.seq (ab.seq (ab.aa ?_))
 refine Oc om (Oc om (Oc (ba qa rfl (List.length_map _)) (Oc (bt rfl rfl) (ae.ag ⟨[(0,_),(1,_),(5,_),(14,B (decide (d<(a0.length:Int))))],[]⟩ rfl (ab.ite h4 rfl (fun _ h4=>?_) (fun _ h4=>?_))))))
 refine ab.skip (Fin.af ⟨[(0,_),(1,_),(5,_)],[]⟩ rfl (Fin.then (ab.seq (ab.block (ab.seq (ab.af ⟨[(0,_),(1,_),(5,_)],[]⟩ rfl ?_))))))
 obtain⟨a,e6,h4⟩:=aH h4
 obtain⟨c,e7,h4⟩:=aH h4
 obtain⟨f,e11,h4⟩:=aH h4
 obtain⟨g,e17,h4⟩:=aH h4
 refine ab.bN mixed 24 ((fun z_=>[.b (.one (.sl 3 (a0.map aC))),I d,.b (.dc (aC a)),.b (.dc (aC a)),I a.Kind,.b (.one (.sl 3 (b0.map aC))),I d,.b (.dc (aC c)),.b (.dc (aC c)),I c.Kind,B (decide (a.Kind≠c.Kind)),B (decide (a.Kind≠c.Kind)),.opt z_ (.one (.sl 3 (a0.map aC))),.opt z_ (.one (.i d)),.opt z_ (.dc (aC f)),.opt z_ (.dc [.str f.S]),.opt z_ (.one (.str f.S)),.opt z_ (.one (.sl 3 (b0.map aC))),.opt z_ (.one (.i d)),.opt z_ (.dc (aC g)),.opt z_ (.dc [.str g.S]),.opt z_ (.one (.str g.S)),.opt z_ (.one (.bool (decide (f.S≠g.S)))),B ((decide (a.Kind≠c.Kind))||(decide (f.S≠g.S)))]) (!(decide (a.Kind≠c.Kind)))) [0,1,5,40] [] (s':=⟨[(0,_),(1,_),(5,_),(40,B ((decide (a.Kind≠c.Kind))||(decide (f.S≠g.S))))],[]⟩) rfl ⟨fun _=>.p om,fun _=>.p om,fun _=>.p (bm fh (aR e6) (cu (e:=aC) e6) rfl rfl),fun _=>by exact .p (fk j7 rfl rfl),fun _=>.p (bg bI rfl rfl),fun _=>.p om,fun _=>.p om,fun _=>.p (bm fh (aR e7) (cu (e:=aC) e7) rfl rfl),fun _=>by exact .p (fk j7 rfl rfl),fun _=>.p (bg bI rfl rfl),fun _=>.p (dd rfl rfl),fun _=>.p om,fun _=>by exact .guard (!(decide (a.Kind≠c.Kind))) 1 [] (.plain rfl) (vG _) rfl rfl (fun g8=>trivial) (fun g8=>om),fun _=>by exact .guard (!(decide (a.Kind≠c.Kind))) 1 [] (.plain rfl) (vG _) rfl rfl (fun g9=>trivial) (fun g9=>om),fun _=>by exact .guard (!(decide (a.Kind≠c.Kind))) 3 [29,30] (.plain rfl) (vG _) rfl rfl (fun g10=>⟨g10,g10,trivial⟩) (fun g10=>bm fh (aR (gc e11 g10)) (cu (e:=aC) (gc e11 g10)) rfl rfl),fun _=>by exact .guard (!(decide (a.Kind≠c.Kind))) 2 [31] (.plain rfl) (vG _) rfl rfl (fun g12=>⟨g12,trivial⟩) (fun g12=>fk dS rfl rfl),fun _=>by exact .guard (!(decide (a.Kind≠c.Kind))) 2 [32] (.plain rfl) (vG _) rfl rfl (fun g13=>⟨g13,trivial⟩) (fun g13=>bg b7 rfl rfl),fun _=>by exact .guard (!(decide (a.Kind≠c.Kind))) 1 [] (.plain rfl) (vG _) rfl rfl (fun g14=>trivial) (fun g14=>om),fun _=>by exact .guard (!(decide (a.Kind≠c.Kind))) 1 [] (.plain rfl) (vG _) rfl rfl (fun g15=>trivial) (fun g15=>om),fun _=>by exact .guard (!(decide (a.Kind≠c.Kind))) 3 [34,35] (.plain rfl) (vG _) rfl rfl (fun g16=>⟨g16,g16,trivial⟩) (fun g16=>bm fh (aR (gc e17 g16)) (cu (e:=aC) (gc e17 g16)) rfl rfl),fun _=>by exact .guard (!(decide (a.Kind≠c.Kind))) 2 [36] (.plain rfl) (vG _) rfl rfl (fun g18=>⟨g18,trivial⟩) (fun g18=>fk dS rfl rfl),fun _=>by exact .guard (!(decide (a.Kind≠c.Kind))) 2 [37] (.plain rfl) (vG _) rfl rfl (fun g19=>⟨g19,trivial⟩) (fun g19=>bg b7 rfl rfl),fun _=>by exact .guard (!(decide (a.Kind≠c.Kind))) 3 [33,38] (.plain rfl) (vG _) rfl rfl (fun g20=>⟨g20,g20,trivial⟩) (fun g20=>lg rfl rfl),fun _=>.p (aW (fun e=>by first|(rw[e];rfl)|(simp only at e;rw[e];rfl)) rfl rfl rfl rfl),trivial⟩ rfl rfl ?_
 refine ab.ite h4 rfl (fun _ h4=>?_) (fun _ h4=>?_)
 refine ab.seq (ab.aa ?_)
 refine Oc oa (ae.ag ⟨[(4,B false)],[]⟩ rfl (ab.ret (Fin.bc (Fin.ay ?_))))
 obtain rfl:=hy5 _ (zaa h4).symm
 refine Fin.ay (Fin.bc (Fin.ay ?_))
 obtain rfl:=zaa h
 refine Fin.af ⟨[(4,_)],[]⟩ rfl (Fin.au [.one (.bool false)] (.inl rfl) rfl (.cons (.tmp rfl) .nil) ⟨rfl,rfl⟩)
 refine ab.skip (Fin.aA (Fin.af ⟨[(0,_),(1,_),(5,_)],[]⟩ rfl (Fin.then (ab.aa ?_))))
 refine Oc om (Oc (aL rfl rfl) (Oc oa (ae.nil ?_)))
 exact Fin.bB [0,1,5] [] (i64.wrap (d+1)) (zaa h4) rfl
 refine ab.exit (Fin.aw ?_)
 obtain rfl:=hy5 _ (zaa h4).symm
 refine Fin.aw (Fin.aJ ?_)
 exact Fin.join [] [] () rfl rfl
 rintro _ hv
 subst v1
 refine ab.seq (ab.aa ?_)
 refine Oc oa (ae.ag ⟨[(4,B true)],[]⟩ rfl (ab.ret ?_))
 obtain rfl:=zaa h
 refine Fin.af ⟨[(4,_)],[]⟩ rfl (Fin.au [.one (.bool true)] (.inl rfl) rfl (.cons (.tmp rfl) .nil) ⟨rfl,rfl⟩)
def gk (F:Nat) (t0:Token):Option Str :=
 if (decide (t0.Kind≠4))=true then (some t0.S) else ((lF F).bind fun e=>(fS F t0.S 0).bind fun a=>(gU [34] a).bind fun c=>(gU c [34]).bind fun d=>some d)
theorem nf {F:Nat} {t0:Token} {r:Str} (h:gk F t0=some r):ax prog (bd mx) 27 [] [.agg (aC t0)] (Is [] (.b (.one (.str r)))):=by
 unfold gk at h
 refine ax.intro 15 Tryz.func27 Tryz.ntmps27 rfl (by simp) fun E=>(ab.seq (ab.aa ?_))
 refine Oc (bE (k:=101) rfl rfl) (Oc oa (ae.ag ⟨[(1,Pt 101 0)],[(101,.box 31 (aC t0))]⟩ rfl (ab.seq (ab.seq (ab.aa ?_)))))
 refine Oc (aj j7 rfl rfl) (Oc (ao bI rfl rfl rfl) (Oc (dd rfl rfl) (ae.ag ⟨[(1,_),(5,B (decide (t0.Kind≠4)))],[(101,_)]⟩ rfl (ab.ite h rfl (fun _ h=>?_) (fun _ h=>?_)))))
 refine ab.seq (ab.aa ?_)
 refine Oc (aj dS rfl rfl) (Oc (ao b7 rfl rfl rfl) (Oc oa (ae.ag ⟨[(2,.b (.one (.str t0.S)))],[]⟩ rfl (ab.ret (Fin.ay ?_)))))
 obtain rfl:=zaa h
 refine Fin.af ⟨[(2,_)],[]⟩ rfl (Fin.au [.one (.str t0.S)] (.inl rfl) rfl (.cons (.tmp rfl) .nil) ⟨rfl,rfl⟩)
 refine ab.skip (Fin.af ⟨[(1,_)],[(101,_)]⟩ rfl (Fin.then (ab.seq (ab.af ⟨[(1,_)],[(101,_)]⟩ rfl ?_))))
 obtain⟨e,e1,h⟩:=aH h
 obtain⟨c,e2,h⟩:=aH h
 obtain⟨d,e3,h⟩:=aH h
 obtain⟨a,e4,h⟩:=aH h
 refine ab.pw mixed [false,true,false,false,true,false,false,false] [.b (.one (.sl 1 ([[92],[92,92],[34],[92,34]].map eS))),Pt 103 0,Pt 101 2,.b (.one (.str t0.S)),.b (.one (.str c)),.b (.one (.str d)),.b (.one (.str a)),.b (.one (.str a))] [⟨[false,false,false,false,false,false,false,false],[(1,Pt 101 0)],[(101,.box 31 (aC t0))],[true,true,true,true,true,true,true,true],[],[4,5,6,7]⟩,⟨[false,true,false,false,false,false,false,false],[(1,Pt 101 0)],[(101,.box 31 (aC t0)),(103,.box 159 [.int .u32 0,.int .i32 0,.int .u32 0,.raw .nilIface,.sl 1 ([[92],[92,92],[34],[92,34]].map eS)])],[true,true,true,true,true,true,true,true],[0,1],[5,6,7]⟩,⟨[false,true,false,false,true,false,false,false],[(1,Pt 101 0)],[(101,.box 31 (aC t0)),(103,.box 159 [.int .u32 1,.int .i32 0,.int .u32 0,.yA 212 (fY c6 [.sl 1 ([toStr [34],toStr [92]].map eS)]),.sl 1 ([].map eS)])],[true,true,true,true,true,true,true,true],[0,1,2,3,4],[]⟩] rfl (⟨by kernel_rfl,⟨⟨.b (.one (.sl 1 ([[92],[92,92],[34],[92,34]].map eS))),fun _=>rfl,fun _=>.p (by exact mX (es:=[[92],[92,92],[34],[92,34]].map eS) dX rfl rfl (cg fun _=>rfl) rfl (by decide) (by decide))⟩,⟨_,[103],Pt 103 0,rfl,fun _=>rfl,rfl,rfl,fun _=>.wg [101,103] (by exact .p (by exact cK (own_a:=[]) ((u6 e1).sw 60 103) goes57 rfl trivial rfl rfl)) (by exact rfl)⟩,⟨Pt 101 2,fun _=>rfl,fun _=>.p (by exact aj dS rfl rfl)⟩,⟨.b (.one (.str t0.S)),fun _=>rfl,fun _=>.p (by exact ao b7 rfl rfl rfl)⟩,trivial,trivial,trivial,trivial,trivial⟩,⟨by kernel_rfl,⟨trivial,trivial,⟨Pt 101 2,fun _=>rfl,fun _=>.p (by exact aj dS rfl rfl)⟩,⟨.b (.one (.str t0.S)),fun _=>rfl,fun _=>.p (by exact ao b7 rfl rfl rfl)⟩,⟨_,[],.b (.one (.str c)),rfl,fun _=>rfl,rfl,rfl,fun _=>.wg [101,103] (by exact .p (by exact cK (own_a:=[(103,_)]) ((qj e2).sw 1 103) goes58 rfl ⟨rfl,trivial⟩ rfl rfl)) (by exact rfl)⟩,trivial,trivial,trivial,trivial⟩,⟨by kernel_rfl,⟨trivial,trivial,trivial,trivial,trivial,⟨.b (.one (.str d)),fun _=>rfl,fun _=>.p (by exact fE e3 rfl rfl)⟩,⟨.b (.one (.str a)),fun _=>rfl,fun _=>.p (by exact fE e4 rfl rfl)⟩,⟨.b (.one (.str a)),fun _=>rfl,fun _=>.p (by exact uK rfl)⟩,trivial⟩,trivial⟩⟩⟩) rfl rfl rfl [2] [] (s':=⟨[(2,.b (.one (.str a)))],[]⟩) rfl (ab.ret ?_)
 obtain rfl:=zaa h
 refine Fin.af ⟨[(2,_)],[]⟩ rfl (Fin.au [.one (.str a)] (.inl rfl) rfl (.cons (.tmp rfl) .nil) ⟨rfl,rfl⟩)
def eG (F:Nat) (t0:Token):Option Bool :=
 (gk F t0).bind fun d=>Option.bind (cI F d) (bQ fun a c=>(aT ((decide (c=(⟨0,0⟩:Problem)))&&(decide ((a.length:Int)=1))) (aS a 0)).bind fun e=>some (((decide (c=(⟨0,0⟩:Problem)))&&(decide ((a.length:Int)=1)))&&(decide (e=(⟨t0.Kind,0,t0.S⟩:Token)))))
theorem l8 {F:Nat} {t0:Token} {r:Bool} (h:eG F t0=some r):ax prog (bd mx) 26 [] [.agg (aC t0)] (Is [] (.b (.one (.bool r)))):=by
 unfold eG at h
 refine ax.intro 27 Tryz.func26 Tryz.ntmps26 rfl (by simp) fun E=>(ab.seq (ab.aa ?_))
 refine Oc (bE (k:=101) rfl rfl) (Oc oa (ae.ag ⟨[(1,Pt 101 0)],[(101,.box 31 (aC t0))]⟩ rfl (ab.seq (ab.aa ?_))))
 refine Oc (lp bK) ?_
 obtain⟨f,e1,h⟩:=aH h
 refine Oc (ah (nf e1) FA rfl rfl) ?_
 obtain⟨⟨c,a⟩,e2,h⟩:=aH h
 refine Oc (ah (ed e2) sO rfl rfl) (ae.af ⟨[(1,_),(8,.gS [.one (.sl 3 (c.map aC)),.agg (bP a)])],[(101,_)]⟩ rfl (Oc om (Oc (aG rfl rfl) (Oc (aG rfl rfl) (Oc (aF (k:=102) lL rfl) (Oc oa (Oc (an dA rfl rfl rfl rfl (zab rfl) rfl) (ae.ag ⟨[(1,_),(3,.b (.one (.sl 3 (c.map aC)))),(4,Pt 102 0)],[(101,_),(102,.box 46 (bP a))]⟩ rfl (ab.seq (ab.aa ?_))))))))))
 refine Oc (aj x6 rfl rfl) (Oc (bF bI rfl rfl rfl (zab rfl) rfl) (ae.ag ⟨[(1,_),(3,_),(4,_)],[(101,.box 31 [.i t0.Kind,.i 0,.str t0.S]),(102,_)]⟩ rfl (ab.seq ?_)))
 obtain⟨d,e8,h⟩:=aH h
 refine ab.bN mixed 16 ((fun z_=>[.b (.agg (bP a)),.b (.agg [.i 0,.i 0]),B (decide (a=(⟨0,0⟩:Problem))),B (decide (a=(⟨0,0⟩:Problem))),.opt (decide (a=(⟨0,0⟩:Problem))) (.one (.sl 3 (c.map aC))),.opt (decide (a=(⟨0,0⟩:Problem))) (.one (.i (c.length:Int))),.opt (decide (a=(⟨0,0⟩:Problem))) (.one (.bool (decide ((c.length:Int)=1)))),B ((decide (a=(⟨0,0⟩:Problem)))&&(decide ((c.length:Int)=1))),B ((decide (a=(⟨0,0⟩:Problem)))&&(decide ((c.length:Int)=1))),.opt z_ (.one (.sl 3 (c.map aC))),.opt z_ (.dc (aC d)),.opt z_ (.agg (aC d)),.opt z_ (.agg [.i t0.Kind,.i 0,.str t0.S]),.opt z_ (.one (.bool (decide (d=(⟨t0.Kind,0,t0.S⟩:Token))))),B (((decide (a=(⟨0,0⟩:Problem)))&&(decide ((c.length:Int)=1)))&&(decide (d=(⟨t0.Kind,0,t0.S⟩:Token)))),B (((decide (a=(⟨0,0⟩:Problem)))&&(decide ((c.length:Int)=1)))&&(decide (d=(⟨t0.Kind,0,t0.S⟩:Token))))]) ((decide (a=(⟨0,0⟩:Problem)))&&(decide ((c.length:Int)=1)))) [2] [] (s':=⟨[(2,B (((decide (a=(⟨0,0⟩:Problem)))&&(decide ((c.length:Int)=1)))&&(decide (d=(⟨t0.Kind,0,t0.S⟩:Token)))))],[]⟩) rfl ⟨fun _=>.p (lp dA),fun _=>.p (aU gP rfl rfl),fun _=>.p (fP (pE a (⟨0,0⟩:Problem)) rfl rfl),fun _=>.p om,fun _=>by exact .guard (decide (a=(⟨0,0⟩:Problem))) 1 [] (.plain rfl) (cy _) rfl rfl (fun g3=>trivial) (fun g3=>om),fun _=>by exact .guard (decide (a=(⟨0,0⟩:Problem))) 2 [16] (.plain rfl) (cy _) rfl rfl (fun g4=>⟨g4,trivial⟩) (fun g4=>ba qa rfl (List.length_map _)),fun _=>by exact .guard (decide (a=(⟨0,0⟩:Problem))) 2 [17] (.plain rfl) (cy _) rfl rfl (fun g5=>⟨g5,trivial⟩) (fun g5=>b8 rfl rfl),fun _=>.p (aD (fun e=>e) rfl rfl rfl rfl),fun _=>.p om,fun _=>by exact .guard ((decide (a=(⟨0,0⟩:Problem)))&&(decide ((c.length:Int)=1))) 1 [] (.plain rfl) (cy _) rfl rfl (fun g6=>trivial) (fun g6=>om),fun _=>by exact .guard ((decide (a=(⟨0,0⟩:Problem)))&&(decide ((c.length:Int)=1))) 2 [21] (.plain rfl) (cy _) rfl rfl (fun g7=>⟨g7,trivial⟩) (fun g7=>bm fh (aR (gc e8 g7)) (cu (e:=aC) (gc e8 g7)) rfl rfl),fun _=>by exact .guard ((decide (a=(⟨0,0⟩:Problem)))&&(decide ((c.length:Int)=1))) 2 [22] (.plain rfl) (cy _) rfl rfl (fun g9=>⟨g9,trivial⟩) (fun g9=>j8 bK rfl rfl rfl),fun _=>by exact .guard ((decide (a=(⟨0,0⟩:Problem)))&&(decide ((c.length:Int)=1))) 1 [] (.plain rfl) (cy _) rfl rfl (fun g10=>trivial) (fun g10=>lp bK),fun _=>by exact .guard ((decide (a=(⟨0,0⟩:Problem)))&&(decide ((c.length:Int)=1))) 3 [23,24] (.plain rfl) (cy _) rfl rfl (fun g11=>⟨g11,g11,trivial⟩) (fun g11=>fP (Dr d (⟨t0.Kind,0,t0.S⟩:Token)) rfl rfl),fun _=>.p (aD (fun e=>e) rfl rfl rfl rfl),fun _=>.p oa,trivial⟩ rfl rfl ?_
 refine ab.ret ?_
 obtain rfl:=zaa h
 refine Fin.af ⟨[(2,_)],[]⟩ rfl (Fin.au [.one (.bool (((decide (a=(⟨0,0⟩:Problem)))&&(decide ((c.length:Int)=1)))&&(decide (d=(⟨t0.Kind,0,t0.S⟩:Token)))))] (.inl rfl) rfl (.cons (.tmp rfl) .nil) ⟨rfl,rfl⟩)
def fy (F:Nat) (s0:Str) (c0:Int):Option Str :=
 Option.bind (iter F (fun a=>(aT (decide (0<(a.length:Int))) (aS a 0)).bind fun c=>bA ((decide (0<(a.length:Int)))&&(decide ((c.toNat:Int)=c0))) fun d=>if d=true then ((qt a 1).bind fun e=>some (.inl e)) else (some (.inr a))) s0) (fun f=>some f)
theorem ni {F:Nat} {s0:Str} {c0:Int} {r:Str} (h:fy F s0 c0=some r):ax prog (bd mx) 64 [] [.one (.str s0),.one (.int .u8 c0)] (Is [] (.b (.one (.str r)))):=by
 unfold fy at h
 refine ax.intro 17 Tryz.func64 Tryz.ntmps64 rfl (by simp) fun E=>(ab.seq (ab.aa ?_))
 refine Oc oa (ae.ag ⟨[(0,.b (.one (.str s0))),(1,.b (.one (.int .u8 c0)))],[]⟩ rfl ?_)
 obtain⟨v1,h2,h⟩:=aH h
 refine ab.bR (v:=v1) (fun (c:Str)=>⟨[(0,.b (.one (.str c)))],[]⟩) (fun z=>z) ?_ ?_
 refine ab.block (ab.cx h2 (fun (a:Str)=>⟨[(0,.b (.one (.str a))),(1,.b (.one (.int .u8 c0)))],[]⟩) [0,1] [] rfl ?_)
 rintro a o3 h4 hy5
 refine ab.seq (ab.seq (ab.aa ?_))
 refine Oc om (Oc (bh cb rfl) (Oc (dy rfl rfl) (Oc om ?_)))
 refine cH (decide (0<(a.length:Int))) [] (fun g6=>trivial) (fun g6=>om) ?_
 obtain⟨d,e8,h4⟩:=aH h4
 refine cH (decide (0<(a.length:Int))) [9] (fun g7=>⟨g7,trivial⟩) (fun g7=>aV cb rfl rfl (aR (gc e8 g7)) (cF (gc e8 g7))) (ae.af ⟨[(0,_),(1,_),(8,B (decide (0<(a.length:Int)))),(10,.opt (decide (0<(a.length:Int))) (.one (.int .u8 (d.toNat:Int))))],[]⟩ rfl (cH (decide (0<(a.length:Int))) [] (fun g9=>trivial) (fun g9=>om) (cH (decide (0<(a.length:Int))) [10,11] (fun g10=>by exact⟨g10,g10,trivial⟩) (fun g10=>b8 rfl rfl) (ae.il h4 rfl (aD (fun e=>e) rfl rfl rfl rfl) (fun f h4=>(ae.ag ⟨[(0,_),(1,_),(13,B f)],[]⟩ rfl (ab.ite h4 rfl (fun _ h4=>?_) (fun _ h4=>?_))))))))
 refine ab.skip (Fin.af ⟨[(0,_),(1,_)],[]⟩ rfl (Fin.then (ab.block (ab.aa ?_))))
 refine Oc om ?_
 obtain⟨g,e11,h4⟩:=aH h4
 refine Oc (mW cb e11 rfl rfl) (Oc oa (ae.nil (Fin.aA ?_)))
 exact Fin.bB [0,1] [] g (zaa h4) rfl
 refine ab.exit (Fin.aw ?_)
 obtain rfl:=hy5 _ (zaa h4).symm
 refine Fin.aw (Fin.aJ ?_)
 exact Fin.join [0] [] a rfl rfl
 rintro c hv
 subst v1
 refine ab.seq (ab.aa ?_)
 refine Oc om (Oc oa (ae.ag ⟨[(4,.b (.one (.str c)))],[]⟩ rfl (ab.ret ?_)))
 obtain rfl:=zaa h
 refine Fin.af ⟨[(4,_)],[]⟩ rfl (Fin.au [.one (.str c)] (.inl rfl) rfl (.cons (.tmp rfl) .nil) ⟨rfl,rfl⟩)
def fR (F:Nat) (s0:Str) (cutset0:Str):Option Str :=
 if ((decide (s0=[]))||(decide (cutset0=[])))=true then (some s0) else ((aT (decide ((cutset0.length:Int)=1)) (aS cutset0 0)).bind fun a=>bA ((decide ((cutset0.length:Int)=1))&&(decide ((a.toNat:Int)<128))) fun c=>if c=true then ((aS cutset0 0).bind fun d=>(fy F s0 (d.toNat:Int)).bind fun e=>some e) else (none))
theorem qh {F:Nat} {s0 cutset0 r:Str} (h:fR F s0 cutset0=some r):ax prog (bd mx) 32 [] [.one (.str s0),.one (.str cutset0)] (Is [] (.b (.one (.str r)))):=by
 unfold fR at h
 refine ax.intro 37 Tryz.func32 Tryz.ntmps32 rfl (by simp) fun E=>(ab.seq (ab.aa ?_))
 refine Oc oa (ae.ag ⟨[(0,.b (.one (.str s0))),(1,.b (.one (.str cutset0)))],[]⟩ rfl (ab.seq (ab.seq (ab.aa ?_))))
 refine Oc om (Oc (iU rfl rfl) (Oc om ?_))
 refine dD (!(decide (s0=[]))) [] (fun g1=>trivial) (fun g1=>om) (dD (!(decide (s0=[]))) [10] (fun g2=>by exact⟨g2,trivial⟩) (fun g2=>iU rfl rfl) (Oc (aW (fun e=>by first|(rw[e];rfl)|(simp only at e;rw[e];rfl)) rfl rfl rfl rfl) (ae.ag ⟨[(0,_),(1,_),(12,B ((decide (s0=[]))||(decide (cutset0=[]))))],[]⟩ rfl (ab.ite h rfl (fun _ h=>?_) (fun _ h=>?_)))))
 refine ab.seq (ab.aa ?_)
 refine Oc om (Oc oa (ae.ag ⟨[(4,.b (.one (.str s0)))],[]⟩ rfl (ab.ret (Fin.ay ?_))))
 obtain rfl:=zaa h
 refine Fin.af ⟨[(4,_)],[]⟩ rfl (Fin.au [.one (.str s0)] (.inl rfl) rfl (.cons (.tmp rfl) .nil) ⟨rfl,rfl⟩)
 refine ab.skip (Fin.af ⟨[(0,_),(1,_)],[]⟩ rfl (Fin.then (ab.seq (ab.seq (ab.aa ?_)))))
 refine Oc om (Oc (bh cb rfl) (Oc (b8 rfl rfl) (Oc om ?_)))
 refine cH (decide ((cutset0.length:Int)=1)) [] (fun g3=>trivial) (fun g3=>om) ?_
 obtain⟨d,e5,h⟩:=aH h
 refine cH (decide ((cutset0.length:Int)=1)) [18] (fun g4=>⟨g4,trivial⟩) (fun g4=>aV cb rfl rfl (aR (gc e5 g4)) (cF (gc e5 g4))) (cH (decide ((cutset0.length:Int)=1)) [19] (fun g6=>⟨g6,trivial⟩) (fun g6=>bt rfl rfl) (ae.il h rfl (aD (fun e=>e) rfl rfl rfl rfl) (fun c h=>(ae.ag ⟨[(0,_),(1,_),(21,B c)],[]⟩ rfl (ab.ite h rfl (fun _ h=>?_) (fun _ h=>?_))))))
 refine ab.seq (ab.aa ?_)
 refine Oc om (Oc om ?_)
 obtain⟨f,e7,h⟩:=aH h
 refine Oc (aV cb rfl rfl (aR e7) (cF e7)) ?_
 obtain⟨a,e8,h⟩:=aH h
 refine Oc (ah (ni e8) goes64 rfl rfl) (Oc oa (ae.ag ⟨[(4,.b (.one (.str a)))],[]⟩ rfl (ab.ret (Fin.ay ?_))))
 obtain rfl:=zaa h
 refine Fin.af ⟨[(4,_)],[]⟩ rfl (Fin.au [.one (.str a)] (.inl rfl) rfl (.cons (.tmp rfl) .nil) ⟨rfl,rfl⟩)
 cases h
def gD (F:Nat):Option bY :=
 some (⟨true,false,aZ.zero⟩:bY)
theorem eF {F:Nat} {r:bY} (h:gD F=some r):ax prog (bd mx) 68 [] [] (Is [] (.b (.agg (az r)))):=by
 unfold gD at h
 refine ax.intro 2 Tryz.func68 Tryz.ntmps68 rfl (by simp) fun E=>(ab.seq (ab.aa ?_))
 refine Oc (aF (k:=101) bO rfl) (ae.ag ⟨[(0,Pt 101 0)],[(101,.box 35 dL)]⟩ rfl (ab.seq (ab.aa ?_)))
 refine Oc (aU rT rfl rfl) (Oc (an aq rfl rfl rfl rfl (zab rfl) rfl) (ae.ag ⟨[(0,_)],[(101,.box 35 (.bool true::.bool false::(eW aZ.zero)))]⟩ rfl (ab.ret ?_)))
 obtain rfl:=zaa h
 refine Fin.af ⟨[(0,_)],[(101,_)]⟩ rfl (Fin.au [.agg (.bool true::.bool false::(eW aZ.zero))] (.inl rfl) rfl (.cons (.agg aq rfl rfl rfl rfl) .nil) ⟨rfl,rfl⟩)
def de (F:Nat) (neg0:Bool) (w0:aZ):Option bY :=
 some (⟨false,neg0&&(decide (w0≠aZ.zero)),w0⟩:bY)
theorem c7 {F:Nat} {neg0:Bool} {w0:aZ} {r:bY} (h:de F neg0 w0=some r):ax prog (bd mx) 69 [] [.one (.bool neg0),.agg (eW w0)] (Is [] (.b (.agg (az r)))):=by
 unfold de at h
 refine ax.intro 13 Tryz.func69 Tryz.ntmps69 rfl (by simp) fun E=>(ab.seq (ab.aa ?_))
 refine Oc (bE (k:=101) rfl rfl) (Oc (aF (k:=102) bO rfl) ?_)
 refine ae.ag ⟨[(0,B neg0),(3,Pt 101 0),(4,Pt 102 0)],[(101,.box 33 (eW w0)),(102,.box 35 dL)]⟩ rfl (ab.seq (ab.bN mixed 8 [B neg0,B neg0,.opt neg0 (.agg (eW w0)),.opt neg0 (.agg (eW aZ.zero)),.opt neg0 (.one (.bool (decide (w0≠aZ.zero)))),B (neg0&&(decide (w0≠aZ.zero))),.b (.agg (eW w0)),.b (.agg (.bool false::.bool (neg0&&(decide (w0≠aZ.zero)))::(eW w0)))] [4] [102] (s':=⟨[(4,_)],[(102,.box 35 (.bool false::.bool (neg0&&(decide (w0≠aZ.zero)))::(eW w0)))]⟩) rfl ⟨fun _=>.p om,fun _=>.p om,fun _=>by exact .guard neg0 1 [] (.plain rfl) (cy _) rfl rfl (fun g1=>trivial) (fun g1=>lp aM),fun _=>by exact .guard neg0 1 [] (.plain rfl) (cy _) rfl rfl (fun g2=>trivial) (fun g2=>iy iw rfl rfl),fun _=>by exact .guard neg0 3 [7,8] (.plain rfl) (cy _) rfl rfl (fun g3=>⟨g3,g3,trivial⟩) (fun g3=>lh (rO w0 aZ.zero) rfl rfl rE),fun _=>.p (aD (fun e=>e) rfl rfl rfl rfl),fun _=>.p (lp aM),fun _=>.p (aU rT rfl rfl),trivial⟩ ⟨_,by exact .p (an aq rfl rfl rfl rfl (zab rfl) rfl),rfl⟩ rfl (ab.ret ?_)))
 obtain rfl:=zaa h
 refine Fin.af ⟨[(4,_)],[(102,_)]⟩ rfl (Fin.au [.agg (.bool false::.bool (neg0&&(decide (w0≠aZ.zero)))::(eW w0))] (.inl rfl) rfl (.cons (.agg aq rfl rfl rfl rfl) .nil) ⟨rfl,rfl⟩)
def kq (F:Nat) (n0:Int):Option bY :=
 Option.bind (if (decide (n0<0))=true then (bA (u64.wrap (-(u64.wrap n0))) fun c=>some c) else (some (u64.wrap n0))) (fun a=>bA (⟨u32.wrap a,u32.wrap (a/4294967296),0,0,0,0,0,0,0,0,0,0,0,0,0,0⟩:aZ) fun d=>(de F (decide (n0<0)) d).bind fun e=>some e)
theorem jl {F:Nat} {n0:Int} {r:bY} (h:kq F n0=some r):ax prog (bd mx) 47 [] [.one (.i n0)] (Is [] (.b (.agg (az r)))):=by
 unfold kq at h
 refine ax.intro 19 Tryz.func47 Tryz.ntmps47 rfl (by simp) fun E=>(ab.seq (ab.aa ?_))
 refine Oc (aF (k:=101) bO rfl) (ae.ag ⟨[(0,I n0),(2,Pt 101 0)],[(101,.box 35 dL)]⟩ rfl (ab.seq (ab.aa ?_)))
 refine Oc om (Oc (aE nA b6 rfl) (Oc oa (ae.ag ⟨[(0,_),(2,_),(3,.b (.one (.int .u64 (u64.wrap n0))))],[(101,_)]⟩ rfl ?_)))
 obtain⟨v1,h2,h⟩:=aH h
 refine ab.bR (v:=v1) (fun (a:Int)=>⟨[(0,I n0),(2,Pt 101 0),(3,.b (.one (.int .u64 a)))],[(101,.box 35 dL)]⟩) (fun z=>z) ?_ ?_
 refine ab.seq (ab.aa ?_)
 refine Oc om (Oc (bt rfl rfl) (ae.ag ⟨[(0,_),(2,_),(3,_),(7,B (decide (n0<0)))],[(101,_)]⟩ rfl (ab.ite h2 rfl (fun _ h2=>?_) (fun _ h2=>?_))))
 refine ab.aa (Oc om (ae.cJ .u64 h2 rfl (yF rfl) (fun d h2=>?_)))
 refine Oc oa (ae.nil ?_)
 exact Fin.join [0,2,3] [101] d (zaa h2) rfl
 refine ab.skip ?_
 exact Fin.join [0,2,3] [101] (u64.wrap n0) (zaa h2) rfl
 rintro a hv
 subst v1
 refine ab.seq (ab.aa ?_)
 refine Oc om (Oc (bt rfl rfl) (Oc om (Oc (aE b6 bT rfl) (Oc om (Oc (jh (m:=32) (by decide) rfl rfl rfl) ?_)))))
 refine Oc (aE b6 bT rfl) (ae.af ⟨[(2,_),(11,B (decide (n0<0))),(13,.b (.one (.int .u32 (u32.wrap a)))),(16,.b (.one (.int .u32 (u32.wrap (a/4294967296)))))],[(101,_)]⟩ rfl (ae.qd eW h rfl (iy iw rfl rfl) (fun e h=>?_)))
 obtain⟨c,e3,h⟩:=aH h
 refine Oc (ah (c7 e3) kV rfl rfl) (Oc (an aq rfl rfl rfl rfl (zab rfl) rfl) (ae.ag ⟨[(2,_)],[(101,.box 35 (az c))]⟩ rfl (ab.ret ?_)))
 obtain rfl:=zaa h
 refine Fin.af ⟨[(2,_)],[(101,_)]⟩ rfl (Fin.au [.agg (az c)] (.inl rfl) rfl (.cons (.agg aq rfl rfl rfl rfl) .nil) ⟨rfl,rfl⟩)
def mu (F:Nat) (x0:bY):Option Bool :=
 if x0.Bad=true then (some ((decide (x0.W=aZ.zero))&&(!x0.Neg))) else (some ((!(decide (x0.W=aZ.zero)))||(!x0.Neg)))
theorem tY {F:Nat} {x0:bY} {r:Bool} (h:mu F x0=some r):ax prog (bd mx) 130 [] [.agg (az x0)] (Is [] (.b (.one (.bool r)))):=by
 unfold mu at h
 refine ax.intro 23 Tryz.func130 Tryz.ntmps130 rfl (by simp) fun E=>(ab.seq (ab.aa ?_))
 refine Oc (bE (k:=101) rfl rfl) (Oc oa (ae.ag ⟨[(1,Pt 101 0)],[(101,.box 35 (az x0))]⟩ rfl (ab.seq (ab.aa ?_))))
 refine Oc (aj aY rfl rfl) (Oc (lp aM) (Oc (iy iw rfl rfl) (Oc (fP (rO x0.W aZ.zero) rfl rfl) (Oc oa (ae.ag ⟨[(1,_),(3,B (decide (x0.W=aZ.zero)))],[(101,_)]⟩ rfl (ab.seq (ab.seq (ab.aa ?_))))))))
 refine Oc (aj my rfl rfl) (Oc (ao cE rfl rfl rfl) (ae.ag ⟨[(1,_),(3,_),(9,B x0.Bad)],[(101,_)]⟩ rfl (ab.ite h rfl (fun _ h=>?_) (fun _ h=>?_))))
 refine ab.seq (ab.aa ?_)
 refine Oc om (Oc om ?_)
 refine cH (decide (x0.W=aZ.zero)) [] (fun g1=>trivial) (fun g1=>aj bJ rfl rfl) (cH (decide (x0.W=aZ.zero)) [12] (fun g2=>⟨g2,trivial⟩) (fun g2=>ao cE rfl rfl rfl) (cH (decide (x0.W=aZ.zero)) [13] (fun g3=>⟨g3,trivial⟩) (fun g3=>cc rfl) (Oc (aD (fun e=>e) rfl rfl rfl rfl) (Oc oa (ae.ag ⟨[(2,B ((decide (x0.W=aZ.zero))&&(!x0.Neg)))],[]⟩ rfl (ab.ret (Fin.ay ?_)))))))
 obtain rfl:=zaa h
 refine Fin.af ⟨[(2,_)],[]⟩ rfl (Fin.au [.one (.bool ((decide (x0.W=aZ.zero))&&(!x0.Neg)))] (.inl rfl) rfl (.cons (.tmp rfl) .nil) ⟨rfl,rfl⟩)
 refine ab.skip (Fin.af ⟨[(1,_),(3,_)],[(101,_)]⟩ rfl (Fin.then (ab.seq (ab.aa ?_))))
 refine Oc om (Oc (cc rfl) (Oc om ?_))
 refine dD (!(!(decide (x0.W=aZ.zero)))) [] (fun g4=>trivial) (fun g4=>aj bJ rfl rfl) (dD (!(!(decide (x0.W=aZ.zero)))) [19] (fun g5=>⟨g5,trivial⟩) (fun g5=>ao cE rfl rfl rfl) (dD (!(!(decide (x0.W=aZ.zero)))) [20] (fun g6=>⟨g6,trivial⟩) (fun g6=>cc rfl) (Oc (aW (fun e=>by first|(rw[e];rfl)|(simp only at e;rw[e];rfl)) rfl rfl rfl rfl) (Oc oa (ae.ag ⟨[(2,B ((!(decide (x0.W=aZ.zero)))||(!x0.Neg)))],[]⟩ rfl (ab.ret ?_))))))
 obtain rfl:=zaa h
 refine Fin.af ⟨[(2,_)],[]⟩ rfl (Fin.au [.one (.bool ((!(decide (x0.W=aZ.zero)))||(!x0.Neg)))] (.inl rfl) rfl (.cons (.tmp rfl) .nil) ⟨rfl,rfl⟩)
def fN (F:Nat) (l0:List bY):Option Bool :=
 Option.bind (iter F (fun a=>if (decide (a<(l0.length:Int)))=true then ((aS l0 a).bind fun c=>(aT (!c.Bad) (mu F c)).bind fun d=>if (c.Bad||(!d))=true then (some (.inr (.inr false))) else (some (.inl (i64.wrap (a+1))))) else (some (.inr (.inl ())))) 0) (cW (fun _=>some true) (fun y=>some y))
theorem gu {F:Nat} {l0:List bY} {r:Bool} (h:fN F l0=some r):ax prog (bd mx) 103 [] [.one (.sl 18 (l0.map az))] (Is [] (.b (.one (.bool r)))):=by
 unfold fN at h
 refine ax.intro 19 Tryz.func103 Tryz.ntmps103 rfl (by simp) fun E=>(ab.seq (ab.aa ?_))
 refine Oc oa (ae.ag ⟨[(0,.b (.one (.sl 18 (l0.map az))))],[]⟩ rfl ?_)
 obtain⟨v1,h2,h⟩:=aH h
 refine ab.bR (v:=v1) (fun (_:Unit)=>⟨[],[]⟩) (fun z=>.inl z) ?_ ?_
 refine ab.seq (ab.aa ?_)
 refine Oc om (Oc (ba und178 rfl (List.length_map _)) (Oc om (ae.ag ⟨[(5,.b (.one (.sl 18 (l0.map az)))),(6,I (l0.length:Int)),(7,I 0)],[]⟩ rfl (ab.block (ab.cx h2 (fun (c:Int)=>⟨[(5,.b (.one (.sl 18 (l0.map az)))),(6,I (l0.length:Int)),(7,I c)],[]⟩) [5,6,7] [] rfl ?_)))))
 rintro c o3 h4 hy5
 refine ab.seq (ab.aa ?_)
 refine Oc (bt rfl rfl) (ae.ag ⟨[(5,_),(6,_),(7,_),(8,B (decide (c<(l0.length:Int))))],[]⟩ rfl (ab.seq (ab.ite h4 rfl (fun _ h4=>?_) (fun _ h4=>?_))))
 refine ab.skip (Fin.af ⟨[(5,_),(6,_),(7,_)],[]⟩ rfl (Fin.then (ab.seq (ab.block (ab.seq (ab.aa ?_))))))
 obtain⟨a,e6,h4⟩:=aH h4
 refine Oc (bm ly (aR e6) (cu (e:=az) e6) rfl rfl) (Oc (j8 aq rfl rfl rfl) (Oc (aF (k:=101) bO rfl) (Oc (an aq rfl rfl rfl rfl (zab rfl) rfl) (ae.ag ⟨[(4,Pt 101 0),(5,_),(6,_),(7,_)],[(101,.box 35 (az a))]⟩ rfl (ab.seq (ab.aa ?_))))))
 refine Oc (aj my rfl rfl) (Oc (ao cE rfl rfl rfl) (Oc om ?_))
 refine dD (!a.Bad) [] (fun g7=>trivial) (fun g7=>lp aq) ?_
 obtain⟨d,e9,h4⟩:=aH h4
 refine dD (!a.Bad) [14] (fun g8=>⟨g8,trivial⟩) (fun g8=>ah (tY (gc e9 g8)) Df rfl rfl) (dD (!a.Bad) [15] (fun g10=>⟨g10,trivial⟩) (fun g10=>cc rfl) (Oc (aW (fun e=>by first|(rw[e];rfl)|(simp only at e;rw[e];rfl)) rfl rfl rfl rfl) (ae.ag ⟨[(5,_),(6,_),(7,_),(17,B (a.Bad||(!d)))],[]⟩ rfl (ab.ite h4 rfl (fun _ h4=>?_) (fun _ h4=>?_)))))
 refine ab.seq (ab.aa ?_)
 refine Oc oa (ae.ag ⟨[(2,B false)],[]⟩ rfl (ab.ret (Fin.bc (Fin.ay ?_))))
 obtain rfl:=hy5 _ (zaa h4).symm
 refine Fin.ay (Fin.bc (Fin.ay ?_))
 obtain rfl:=zaa h
 refine Fin.af ⟨[(2,_)],[]⟩ rfl (Fin.au [.one (.bool false)] (.inl rfl) rfl (.cons (.tmp rfl) .nil) ⟨rfl,rfl⟩)
 refine ab.skip (Fin.aA (Fin.af ⟨[(5,_),(6,_),(7,_)],[]⟩ rfl (Fin.then (ab.aa ?_))))
 refine Oc (aL rfl rfl) (Oc om (ae.nil ?_))
 exact Fin.bB [5,6,7] [] (i64.wrap (c+1)) (zaa h4) rfl
 refine ab.exit (Fin.aw ?_)
 obtain rfl:=hy5 _ (zaa h4).symm
 refine Fin.aw (Fin.aJ ?_)
 exact Fin.join [] [] () rfl rfl
 rintro _ hv
 subst v1
 refine ab.seq (ab.aa ?_)
 refine Oc oa (ae.ag ⟨[(2,B true)],[]⟩ rfl (ab.ret ?_))
 obtain rfl:=zaa h
 refine Fin.af ⟨[(2,_)],[]⟩ rfl (Fin.au [.one (.bool true)] (.inl rfl) rfl (.cons (.tmp rfl) .nil) ⟨rfl,rfl⟩)
def iP (F:Nat) (w0:aZ):Option Int :=
 Option.bind (iter F (fun a=>(aT (decide (0<a)) (aS w0.l (i64.wrap (a-1)))).bind fun c=>if ((decide (0<a))&&(decide (c=0)))=true then (some (.inl (i64.wrap (a-1)))) else (some (.inr a))) 16) (fun d=>some d)
theorem iX {F:Nat} {w0:aZ} {r:Int} (h:iP F w0=some r):ax prog (bd mx) 104 [] [.agg (eW w0)] (Is [] (.b (.one (.i r)))):=by
 unfold iP at h
 refine ax.intro 16 Tryz.func104 Tryz.ntmps104 rfl (by simp) fun E=>(ab.seq (ab.aa ?_))
 refine Oc (bE (k:=101) rfl rfl) (Oc oa (ae.ag ⟨[(1,Pt 101 0)],[(101,.box 33 (eW w0))]⟩ rfl (ab.seq (ab.aa ?_))))
 refine Oc oa (ae.ag ⟨[(1,_),(3,I 16)],[(101,_)]⟩ rfl ?_)
 obtain⟨v1,h2,h⟩:=aH h
 refine ab.bR (v:=v1) (fun (c:Int)=>⟨[(3,I c)],[]⟩) (fun z=>z) ?_ ?_
 refine ab.block (ab.cx h2 (fun (a:Int)=>⟨[(1,Pt 101 0),(3,I a)],[(101,.box 33 (eW w0))]⟩) [1,3] [101] rfl ?_)
 rintro a o3 h4 hy5
 refine ab.seq (ab.seq (ab.aa ?_))
 refine Oc om (Oc (dy rfl rfl) (Oc om ?_))
 refine cH (decide (0<a)) [] (fun g6=>trivial) (fun g6=>om) (cH (decide (0<a)) [7] (fun g7=>by exact⟨g7,trivial⟩) (fun g7=>bW rfl rfl) ?_)
 obtain⟨d,e9,h4⟩:=aH h4
 refine cH (decide (0<a)) [8] (fun g8=>⟨g8,trivial⟩) (fun g8=>aK bH (aR (gc e9 g8)) (cD (gc e9 g8)) rfl rfl rfl) (cH (decide (0<a)) [9] (fun g10=>⟨g10,trivial⟩) (fun g10=>ao bn rfl rfl (cA (post:=[]) (k:=.u32) [] (gc e9 g10) rfl rfl rfl)) (cH (decide (0<a)) [10] (fun g11=>⟨g11,trivial⟩) (fun g11=>b8 rfl rfl) (Oc (aD (fun e=>e) rfl rfl rfl rfl) (ae.ag ⟨[(1,_),(3,_),(12,B ((decide (0<a))&&(decide (d=0))))],[(101,_)]⟩ rfl (ab.ite h4 rfl (fun _ h4=>?_) (fun _ h4=>?_))))))
 refine ab.skip (Fin.af ⟨[(1,_),(3,_)],[(101,_)]⟩ rfl (Fin.then (ab.block (ab.aa ?_))))
 refine Oc om (Oc (bW rfl rfl) (Oc oa (ae.nil (Fin.aA ?_))))
 exact Fin.bB [1,3] [101] (i64.wrap (a-1)) (zaa h4) rfl
 refine ab.exit (Fin.aw ?_)
 obtain rfl:=hy5 _ (zaa h4).symm
 refine Fin.aw (Fin.aJ ?_)
 exact Fin.join [3] [] a rfl rfl
 rintro c hv
 subst v1
 refine ab.seq (ab.aa ?_)
 refine Oc om (Oc oa (ae.ag ⟨[(2,I c)],[]⟩ rfl (ab.ret ?_)))
 obtain rfl:=zaa h
 refine Fin.af ⟨[(2,_)],[]⟩ rfl (Fin.au [.one (.i c)] (.inl rfl) rfl (.cons (.tmp rfl) .nil) ⟨rfl,rfl⟩)
def tn (F:Nat) (a0:bY) (b0:bY):Option bY :=
 (fN F [a0,b0]).bind fun y=>if (!y)=true then ((gD F).bind fun z=>some z) else ((iP F a0.W).bind fun ac=>(iP F b0.W).bind fun q=>Option.bind (iter F (bQ fun j f=>if (decide (f<ac))=true then (Option.bind (Option.bind (iter F (iJ fun d c e=>if (decide (e<q))=true then ((aS a0.W.l f).bind fun k=>(aS b0.W.l e).bind fun m=>(aS d.l (i64.wrap (f+e))).bind fun o=>bA (u64.wrap (c+(u64.wrap ((u64.wrap ((u64.wrap k)*(u64.wrap m)))+(u64.wrap o))))) fun t=>(aS d.l (i64.wrap (f+e))).bind fun ad=>bA (u64.wrap (c+(u64.wrap ((u64.wrap ((u64.wrap k)*(u64.wrap m)))+(u64.wrap o))))) fun u=>some (.inl (d.set (i64.wrap (f+e)) (u32.wrap t),u/4294967296,i64.wrap (e+1)))) else (some (.inr (d,c)))) (j,0,0)) (bQ fun g h=>(aS g.l (i64.wrap (f+q))).bind fun ai=>some (g.set (i64.wrap (f+q)) (u32.wrap h)))) (fun r=>some (.inl (r,i64.wrap (f+1))))) else (some (.inr j))) (iK.zero,0)) (fun a=>bA (⟨a.Cs,a.a17,a.a18,a.a19,a.a20,a.a21,a.a22,a.a23,a.a24,a.a25,a.a26,a.a27,a.a28,a.a29,a.a30,a.a31⟩:aZ) fun v=>if (decide (v≠aZ.zero))=true then ((gD F).bind fun w=>some w) else ((de F (a0.Neg != b0.Neg) (⟨a.a0,a.a1,a.a2,a.a3,a.a4,a.a5,a.a6,a.a7,a.a8,a.a9,a.a10,a.a11,a.a12,a.a13,a.a14,a.a15⟩:aZ)).bind fun x=>some x)))
theorem BO {F:Nat} {a0 b0 r:bY} (h:tn F a0 b0=some r):ax prog (bd mx) 50 [] [.agg (az a0),.agg (az b0)] (Is [] (.b (.agg (az r)))):=by
 unfold tn at h
 refine ax.intro 82 Tryz.func50 Tryz.ntmps50 rfl (by simp) fun E=>(ab.seq (ab.aa ?_))
 refine Oc (bE (k:=101) rfl rfl) (Oc (bE (k:=102) rfl rfl) (Oc (aF (k:=103) bO rfl) (ae.ag ⟨[(2,Pt 101 0),(3,Pt 102 0),(4,Pt 103 0)],[(101,.box 35 (az a0)),(102,.box 35 (az b0)),(103,.box 35 dL)]⟩ rfl (ab.seq (ab.seq (ab.aa ?_))))))
 refine Oc (lp aq) (Oc (lp aq) (Oc (aX (k:=104) (es:=[a0,b0].map az) ly rfl rfl (cg fun _=>rfl) rfl (by decide) (by decide) rfl) ?_))
 obtain⟨ap,e1,h⟩:=aH h
 refine Oc (gL (gu e1) me rfl CP.gi) (Oc (cc rfl) (ae.ag ⟨[(2,_),(3,_),(4,_),(15,B (!ap))],[(101,_),(102,_),(103,_)]⟩ rfl (ab.ite h rfl (fun _ h=>?_) (fun _ h=>?_))))
 refine ab.seq (ab.aa ?_)
 obtain⟨am,e2,h⟩:=aH h
 refine Oc (ah (eF e2) kW rfl rfl) (Oc (an aq rfl rfl rfl rfl (zab rfl) rfl) (ae.ag ⟨[(4,_)],[(103,.box 35 (az am))]⟩ rfl (ab.ret (Fin.ay ?_))))
 obtain rfl:=zaa h
 refine Fin.af ⟨[(4,_)],[(103,_)]⟩ rfl (Fin.au [.agg (az am)] (.inl rfl) rfl (.cons (.agg aq rfl rfl rfl rfl) .nil) ⟨rfl,rfl⟩)
 refine ab.skip (Fin.af ⟨[(2,_),(3,_),(4,_)],[(101,_),(102,_),(103,_)]⟩ rfl (Fin.then (ab.seq (ab.aa ?_))))
 refine Oc (aF (k:=105) DL rfl) (ae.ag ⟨[(2,_),(3,_),(4,_),(5,Pt 105 0)],[(101,_),(102,_),(103,_),(105,.box 133 ((zG .u32) iK.zero))]⟩ rfl (ab.seq ?_))
 obtain⟨u,e3,h⟩:=aH h
 obtain⟨j,e4,h⟩:=aH h
 refine ab.bN mixed 8 [Pt 101 2,.b (.agg (eW a0.W)),I u,Pt 102 2,.b (.agg (eW b0.W)),I j,I u,I j] [2,3,4,5,6,7] [101,102,103,105] (s':=⟨[(2,_),(3,_),(4,_),(5,_),(6,I u),(7,I j)],[(101,_),(102,_),(103,_),(105,_)]⟩) rfl ⟨fun _=>.p (aj aY rfl rfl),fun _=>.p (lp aM),fun _=>.p (ah (iX e3) pD rfl rfl),fun _=>.p (aj aY rfl rfl),fun _=>.p (lp aM),fun _=>.p (ah (iX e4) pD rfl rfl),fun _=>.p oa,fun _=>.p oa,trivial⟩ rfl rfl ?_
 obtain⟨v5,h6,h⟩:=aH h
 refine ab.bR (v:=v5) (fun (a:iK)=>⟨[(2,Pt 101 0),(3,Pt 102 0),(4,Pt 103 0),(5,Pt 105 0)],[(101,.box 35 (az a0)),(102,.box 35 (az b0)),(103,.box 35 dL),(105,.box 133 ((zG .u32) a))]⟩) (fun z=>z) ?_ ?_
 refine ab.seq (ab.aa ?_)
 refine Oc om (Oc om (ae.ag ⟨[(2,_),(3,_),(4,_),(5,_),(7,_),(23,I u),(24,I 0)],[(101,_),(102,_),(103,_),(105,_)]⟩ rfl (ab.block (ab.cx h6 (bQ fun (x:iK) (d:Int)=>⟨[(2,Pt 101 0),(3,Pt 102 0),(4,Pt 103 0),(5,Pt 105 0),(7,I j),(23,I u),(24,I d)],[(101,.box 35 (az a0)),(102,.box 35 (az b0)),(103,.box 35 dL),(105,.box 133 ((zG .u32) x))]⟩) [2,3,4,5,7,23,24] [101,102,103,105] rfl ?_))))
 rintro⟨x,d⟩ o7 h8 hy9
 refine ab.seq (ab.aa ?_)
 refine Oc (bt rfl rfl) (ae.ag ⟨[(2,_),(3,_),(4,_),(5,_),(7,_),(23,_),(24,_),(25,B (decide (d<u)))],[(101,_),(102,_),(103,_),(105,_)]⟩ rfl (ab.seq (ab.ite h8 rfl (fun _ h8=>?_) (fun _ h8=>?_))))
 refine ab.skip (Fin.af ⟨[(2,_),(3,_),(4,_),(5,_),(7,_),(23,_),(24,_)],[(101,_),(102,_),(103,_),(105,_)]⟩ rfl (Fin.then ?_))
 obtain⟨v10,h11,h8⟩:=aH h8
 refine ab.bR (v:=v10) (fun (y:iK)=>⟨[(2,Pt 101 0),(3,Pt 102 0),(4,Pt 103 0),(5,Pt 105 0),(7,I j),(23,I u),(24,I d)],[(101,.box 35 (az a0)),(102,.box 35 (az b0)),(103,.box 35 dL),(105,.box 133 ((zG .u32) y))]⟩) (fun z=>z) ?_ ?_
 refine ab.block (ab.seq (ab.aa ?_))
 refine Oc om (Oc oa (ae.ag ⟨[(2,_),(3,_),(4,_),(5,_),(7,_),(8,I d),(23,_),(24,_)],[(101,_),(102,_),(103,_),(105,_)]⟩ rfl (ab.seq (ab.aa ?_))))
 refine Oc oa (ae.ag ⟨[(2,_),(3,_),(4,_),(5,_),(7,_),(8,_),(9,.b (.one (.int .u64 0))),(23,_),(24,_)],[(101,_),(102,_),(103,_),(105,_)]⟩ rfl ?_)
 obtain⟨v12,h13,h11⟩:=aH h11
 refine ab.bR (v:=v12) (bQ fun (o:iK) (f:Int)=>⟨[(2,Pt 101 0),(3,Pt 102 0),(4,Pt 103 0),(5,Pt 105 0),(7,I j),(8,I d),(9,.b (.one (.int .u64 f))),(23,I u),(24,I d)],[(101,.box 35 (az a0)),(102,.box 35 (az b0)),(103,.box 35 dL),(105,.box 133 ((zG .u32) o))]⟩) (fun z=>z) ?_ ?_
 refine ab.seq (ab.aa ?_)
 refine Oc om (Oc om (ae.ag ⟨[(2,_),(3,_),(4,_),(5,_),(7,_),(8,_),(9,_),(23,_),(24,_),(27,I j),(28,I 0)],[(101,_),(102,_),(103,_),(105,_)]⟩ rfl (ab.block (ab.cx h13 (iJ fun (g:iK) (c:Int) (e:Int)=>⟨[(2,Pt 101 0),(3,Pt 102 0),(4,Pt 103 0),(5,Pt 105 0),(7,I j),(8,I d),(9,.b (.one (.int .u64 c))),(23,I u),(24,I d),(27,I j),(28,I e)],[(101,.box 35 (az a0)),(102,.box 35 (az b0)),(103,.box 35 dL),(105,.box 133 ((zG .u32) g))]⟩) [2,3,4,5,7,8,9,23,24,27,28] [101,102,103,105] rfl ?_))))
 rintro⟨g,c,e⟩ o14 h15 hy16
 refine ab.seq (ab.aa ?_)
 refine Oc (bt rfl rfl) (ae.ag ⟨[(2,_),(3,_),(4,_),(5,_),(7,_),(8,_),(9,_),(23,_),(24,_),(27,_),(28,_),(29,B (decide (e<j)))],[(101,_),(102,_),(103,_),(105,_)]⟩ rfl (ab.seq (ab.ite h15 rfl (fun _ h15=>?_) (fun _ h15=>?_))))
 refine ab.skip (Fin.af ⟨[(2,_),(3,_),(4,_),(5,_),(7,_),(8,_),(9,_),(23,_),(24,_),(27,_),(28,_)],[(101,_),(102,_),(103,_),(105,_)]⟩ rfl (Fin.then (ab.seq (ab.block (ab.seq (ab.aa ?_))))))
 refine Oc om (Oc oa (ae.ag ⟨[(2,_),(3,_),(4,_),(5,_),(7,_),(8,_),(9,_),(10,I e),(23,_),(24,_),(27,_),(28,_)],[(101,_),(102,_),(103,_),(105,_)]⟩ rfl (ab.seq ?_)))
 obtain⟨q,e17,h15⟩:=aH h15
 obtain⟨t,e18,h15⟩:=aH h15
 obtain⟨w,e19,h15⟩:=aH h15
 refine ab.bN mixed 20 [.b (.one (.int .u64 c)),I d,Pt 101 2,.b (.ptr 101 (2+(d:Int).toNat*1)),.b (.one (.int .u32 q)),.b (.one (.int .u64 (u64.wrap q))),I e,Pt 102 2,.b (.ptr 102 (2+(e:Int).toNat*1)),.b (.one (.int .u32 t)),.b (.one (.int .u64 (u64.wrap t))),.b (.one (.int .u64 (u64.wrap ((u64.wrap q)*(u64.wrap t))))),I d,I e,I (i64.wrap (d+e)),.b (.ptr 105 (0+(i64.wrap (d+e):Int).toNat*1)),.b (.one (.int .u32 w)),.b (.one (.int .u64 (u64.wrap w))),.b (.one (.int .u64 (u64.wrap ((u64.wrap ((u64.wrap q)*(u64.wrap t)))+(u64.wrap w))))),.b (.one (.int .u64 (u64.wrap (c+(u64.wrap ((u64.wrap ((u64.wrap q)*(u64.wrap t)))+(u64.wrap w)))))))] [2,3,4,5,7,8,9,10,23,24,27,28] [101,102,103,105] (s':=⟨[(2,_),(3,_),(4,_),(5,_),(7,_),(8,_),(9,.b (.one (.int .u64 (u64.wrap (c+(u64.wrap ((u64.wrap ((u64.wrap q)*(u64.wrap t)))+(u64.wrap w)))))))),(10,_),(23,_),(24,_),(27,_),(28,_)],[(101,_),(102,_),(103,_),(105,_)]⟩) rfl ⟨fun _=>.p om,fun _=>.p om,fun _=>.p (aj aY rfl rfl),fun _=>.p (aK bH (aR e17) (cD e17) rfl rfl rfl),fun _=>.p (ao bn rfl rfl (cA (post:=[]) (k:=.u32) [.bool a0.Bad,.bool a0.Neg] e17 rfl rfl rfl)),fun _=>.p (aE bT b6 rfl),fun _=>.p om,fun _=>.p (aj aY rfl rfl),fun _=>.p (aK bH (aR e18) (cD e18) rfl rfl rfl),fun _=>.p (ao bn rfl rfl (cA (post:=[]) (k:=.u32) [.bool b0.Bad,.bool b0.Neg] e18 rfl rfl rfl)),fun _=>.p (aE bT b6 rfl),fun _=>.p (kU rfl rfl),fun _=>.p om,fun _=>.p om,fun _=>.p (aL rfl rfl),fun _=>.p (aK qG (aR e19) (cD e19) rfl rfl rfl),fun _=>.p (ao bn rfl rfl (cA (post:=[]) (k:=.u32) [] e19 rfl rfl rfl)),fun _=>.p (aE bT b6 rfl),fun _=>.p (aL rfl rfl),fun _=>.p (aL rfl rfl),trivial⟩ ⟨_,by exact .p oa,rfl⟩ rfl (ab.seq (ab.aa ?_))
 refine Oc om (Oc om (Oc (aL rfl rfl) ?_))
 refine ae.cJ .u64 h15 rfl om (fun ac h15=>?_)
 refine Oc (aE b6 bT rfl) ?_
 obtain⟨be,e20,h15⟩:=aH h15
 refine Oc (aK qG (aR e20) (cD e20) rfl rfl rfl) (Oc (bF bn rfl rfl rfl (kA (post:=[]) (k:=.u32) [] e20 rfl rfl rfl) (iH (post:=[]) (k:=.u32) [] e20 rfl rfl (iK.jZ g (i64.wrap (d+e)) (u32.wrap ac)) rfl rfl)) (ae.ag ⟨[(2,_),(3,_),(4,_),(5,_),(7,_),(8,_),(9,_),(23,_),(24,_),(27,_),(28,_)],[(101,_),(102,_),(103,_),(105,.box 133 ((zG .u32) (g.set (i64.wrap (d+e)) (u32.wrap ac))))]⟩ rfl (ab.aa (ae.cJ .u64 h15 rfl om (fun ai h15=>?_)))))
 refine Oc (jh (m:=32) (by decide) rfl rfl rfl) (Oc oa (ae.nil (Fin.aA (Fin.af ⟨[(2,_),(3,_),(4,_),(5,_),(7,_),(8,_),(9,.b (.one (.int .u64 (ai/4294967296)))),(23,_),(24,_),(27,_),(28,_)],[(101,_),(102,_),(103,_),(105,_)]⟩ rfl (Fin.then (ab.aa ?_))))))
 refine Oc (aL rfl rfl) (Oc om (ae.nil ?_))
 exact Fin.bB [2,3,4,5,7,8,9,23,24,27,28] [101,102,103,105] (g.set (i64.wrap (d+e)) (u32.wrap ac),ai/4294967296,i64.wrap (e+1)) (zaa h15) rfl
 refine ab.exit (Fin.aw ?_)
 obtain rfl:=hy16 _ (zaa h15).symm
 refine Fin.aw (Fin.aJ ?_)
 exact Fin.join [2,3,4,5,7,8,9,23,24] [101,102,103,105] (g,c) rfl rfl
 rintro⟨o,f⟩ hv
 subst v12
 refine ab.aa (Oc om (Oc om (Oc (aL rfl rfl) (Oc om (Oc (aE b6 bT rfl) ?_)))))
 obtain⟨bi,e21,h11⟩:=aH h11
 refine Oc (aK qG (aR e21) (cD e21) rfl rfl rfl) (Oc (bF bn rfl rfl rfl (kA (post:=[]) (k:=.u32) [] e21 rfl rfl rfl) (iH (post:=[]) (k:=.u32) [] e21 rfl rfl (iK.jZ o (i64.wrap (d+j)) (u32.wrap f)) rfl rfl)) (ae.nil (Fin.aA ?_)))
 exact Fin.join [2,3,4,5,7,23,24] [101,102,103,105] (o.set (i64.wrap (d+j)) (u32.wrap f)) (zaa h11) rfl
 rintro y hv
 subst v10
 refine ab.aa (Oc (aL rfl rfl) (Oc om (ae.nil ?_)))
 exact Fin.bB [2,3,4,5,7,23,24] [101,102,103,105] (y,i64.wrap (d+1)) (zaa h8) rfl
 refine ab.exit (Fin.aw ?_)
 obtain rfl:=hy9 _ (zaa h8).symm
 refine Fin.aw (Fin.aJ ?_)
 exact Fin.join [2,3,4,5] [101,102,103,105] x rfl rfl
 rintro a hv
 subst v5
 refine ab.seq (ab.seq (ab.aa ?_))
 refine Oc (AJ (i:=16) qG (by decide) (by decide) rfl rfl) (Oc (wU bH (by decide) rfl) (ae.qd eW h rfl (lp aM) (fun ak h=>?_)))
 refine Oc (iy iw rfl rfl) (Oc (lh (rO ak aZ.zero) rfl rfl rE) (ae.ag ⟨[(2,_),(3,_),(4,_),(5,_),(71,B (decide (ak≠aZ.zero)))],[(101,_),(102,_),(103,_),(105,_)]⟩ rfl (ab.ite h rfl (fun _ h=>?_) (fun _ h=>?_))))
 refine ab.seq (ab.aa ?_)
 obtain⟨al,e22,h⟩:=aH h
 refine Oc (ah (eF e22) kW rfl rfl) (Oc (an aq rfl rfl rfl rfl (zab rfl) rfl) (ae.ag ⟨[(4,_)],[(103,.box 35 (az al))]⟩ rfl (ab.ret (Fin.ay ?_))))
 obtain rfl:=zaa h
 refine Fin.af ⟨[(4,_)],[(103,_)]⟩ rfl (Fin.au [.agg (az al)] (.inl rfl) rfl (.cons (.agg aq rfl rfl rfl rfl) .nil) ⟨rfl,rfl⟩)
 refine ab.skip (Fin.af ⟨[(2,_),(3,_),(4,_),(5,_)],[(101,_),(102,_),(103,_),(105,_)]⟩ rfl (Fin.then (ab.seq (ab.af ⟨[(2,_),(3,_),(4,_),(5,_)],[(101,_),(102,_),(103,_),(105,_)]⟩ rfl ?_))))
 obtain⟨ad,e23,h⟩:=aH h
 refine ab.bN mixed 9 [Pt 101 1,B a0.Neg,Pt 102 1,B b0.Neg,B (a0.Neg != b0.Neg),.b (.u9 105 0 16 32),Pt 105 0,.b (.agg [.int .u32 a.a0,.int .u32 a.a1,.int .u32 a.a2,.int .u32 a.a3,.int .u32 a.a4,.int .u32 a.a5,.int .u32 a.a6,.int .u32 a.a7,.int .u32 a.a8,.int .u32 a.a9,.int .u32 a.a10,.int .u32 a.a11,.int .u32 a.a12,.int .u32 a.a13,.int .u32 a.a14,.int .u32 a.a15]),.b (.agg (az ad))] [4] [103] (s':=⟨[(4,_)],[(103,.box 35 (az ad))]⟩) rfl ⟨fun _=>.p (aj bJ rfl rfl),fun _=>.p (ao cE rfl rfl rfl),fun _=>.p (aj bJ rfl rfl),fun _=>.p (ao cE rfl rfl rfl),fun _=>.p (gX xG rfl rfl),fun _=>.p (vr (i:=16) qG (by decide) (by decide) rfl rfl),fun _=>.p (wU bH (by decide) rfl),fun _=>.p (lp aM),fun _=>.p (ah (c7 e23) kV rfl rfl),trivial⟩ ⟨_,by exact .p (an aq rfl rfl rfl rfl (zab rfl) rfl),rfl⟩ rfl (ab.ret ?_)
 obtain rfl:=zaa h
 refine Fin.af ⟨[(4,_)],[(103,_)]⟩ rfl (Fin.au [.agg (az ad)] (.inl rfl) rfl (.cons (.agg aq rfl rfl rfl rfl) .nil) ⟨rfl,rfl⟩)
def qD (F:Nat) (a0:aZ) (b0:aZ):Option (aZ×Bool) :=
 Option.bind (iter F (iJ fun c a d=>if (decide (d<16))=true then ((aS a0.l d).bind fun g=>(aS b0.l d).bind fun h=>bA (u64.wrap (a+(u64.wrap ((u64.wrap g)+(u64.wrap h))))) fun j=>(aS c.l d).bind fun m=>bA (u64.wrap (a+(u64.wrap ((u64.wrap g)+(u64.wrap h))))) fun k=>some (.inl (c.set d (u32.wrap j),k/4294967296,i64.wrap (d+1)))) else (some (.inr (c,a)))) (aZ.zero,0,0)) (bQ fun f e=>some (f,decide (e=0)))
theorem Ao {F:Nat} {a0 b0:aZ} {r:aZ×Bool} (h:qD F a0 b0=some r):ax prog (bd mx) 108 [] [.agg (eW a0),.agg (eW b0)] (Is [] (.gS [.agg (eW r.1),.one (.bool r.2)])):=by
 unfold qD at h
 refine ax.intro 33 Tryz.func108 Tryz.ntmps108 rfl (by simp) fun E=>(ab.seq (ab.aa ?_))
 refine Oc (bE (k:=101) rfl rfl) (Oc (bE (k:=102) rfl rfl) (Oc (aF (k:=103) dt rfl) (Oc oa (ae.ag ⟨[(2,Pt 101 0),(3,Pt 102 0),(4,Pt 103 0)],[(101,.box 33 (eW a0)),(102,.box 33 (eW b0)),(103,.box 33 (eW aZ.zero))]⟩ rfl (ab.seq (ab.aa ?_))))))
 refine Oc (aF (k:=104) dt rfl) (ae.ag ⟨[(2,_),(3,_),(4,_),(6,Pt 104 0)],[(101,_),(102,_),(103,_),(104,.box 33 (eW aZ.zero))]⟩ rfl (ab.seq (ab.aa ?_)))
 refine Oc oa (ae.ag ⟨[(2,_),(3,_),(4,_),(6,_),(7,.b (.one (.int .u64 0)))],[(101,_),(102,_),(103,_),(104,_)]⟩ rfl ?_)
 obtain⟨v1,h2,h⟩:=aH h
 refine ab.bR (v:=v1) (bQ fun (f:aZ) (c:Int)=>⟨[(4,Pt 103 0),(6,Pt 104 0),(7,.b (.one (.int .u64 c)))],[(103,.box 33 (eW aZ.zero)),(104,.box 33 (eW f))]⟩) (fun z=>z) ?_ ?_
 refine ab.seq (ab.aa ?_)
 refine Oc om (ae.ag ⟨[(2,_),(3,_),(4,_),(6,_),(7,_),(9,I 0)],[(101,_),(102,_),(103,_),(104,_)]⟩ rfl (ab.block (ab.cx h2 (iJ fun (d:aZ) (a:Int) (e:Int)=>⟨[(2,Pt 101 0),(3,Pt 102 0),(4,Pt 103 0),(6,Pt 104 0),(7,.b (.one (.int .u64 a))),(9,I e)],[(101,.box 33 (eW a0)),(102,.box 33 (eW b0)),(103,.box 33 (eW aZ.zero)),(104,.box 33 (eW d))]⟩) [2,3,4,6,7,9] [101,102,103,104] rfl ?_)))
 rintro⟨d,a,e⟩ o3 h4 hy5
 refine ab.seq (ab.aa ?_)
 refine Oc (bt rfl rfl) (ae.ag ⟨[(2,_),(3,_),(4,_),(6,_),(7,_),(9,_),(10,B (decide (e<16)))],[(101,_),(102,_),(103,_),(104,_)]⟩ rfl (ab.seq (ab.ite h4 rfl (fun _ h4=>?_) (fun _ h4=>?_))))
 refine ab.skip (Fin.af ⟨[(2,_),(3,_),(4,_),(6,_),(7,_),(9,_)],[(101,_),(102,_),(103,_),(104,_)]⟩ rfl (Fin.then (ab.seq (ab.block (ab.seq (ab.aa ?_))))))
 refine Oc om (Oc oa (ae.ag ⟨[(2,_),(3,_),(4,_),(6,_),(7,_),(8,I e),(9,_)],[(101,_),(102,_),(103,_),(104,_)]⟩ rfl (ab.seq ?_)))
 obtain⟨g,e6,h4⟩:=aH h4
 obtain⟨j,e7,h4⟩:=aH h4
 refine ab.bN mixed 11 [.b (.one (.int .u64 a)),I e,.b (.ptr 101 (0+(e:Int).toNat*1)),.b (.one (.int .u32 g)),.b (.one (.int .u64 (u64.wrap g))),I e,.b (.ptr 102 (0+(e:Int).toNat*1)),.b (.one (.int .u32 j)),.b (.one (.int .u64 (u64.wrap j))),.b (.one (.int .u64 (u64.wrap ((u64.wrap g)+(u64.wrap j))))),.b (.one (.int .u64 (u64.wrap (a+(u64.wrap ((u64.wrap g)+(u64.wrap j)))))))] [2,3,4,6,7,8,9] [101,102,103,104] (s':=⟨[(2,_),(3,_),(4,_),(6,_),(7,.b (.one (.int .u64 (u64.wrap (a+(u64.wrap ((u64.wrap g)+(u64.wrap j)))))))),(8,_),(9,_)],[(101,_),(102,_),(103,_),(104,_)]⟩) rfl ⟨fun _=>.p om,fun _=>.p om,fun _=>.p (aK bH (aR e6) (cD e6) rfl rfl rfl),fun _=>.p (ao bn rfl rfl (cA (post:=[]) (k:=.u32) [] e6 rfl rfl rfl)),fun _=>.p (aE bT b6 rfl),fun _=>.p om,fun _=>.p (aK bH (aR e7) (cD e7) rfl rfl rfl),fun _=>.p (ao bn rfl rfl (cA (post:=[]) (k:=.u32) [] e7 rfl rfl rfl)),fun _=>.p (aE bT b6 rfl),fun _=>.p (aL rfl rfl),fun _=>.p (aL rfl rfl),trivial⟩ ⟨_,by exact .p oa,rfl⟩ rfl (ab.seq (ab.aa ?_))
 refine Oc om (ae.cJ .u64 h4 rfl om (fun o h4=>?_))
 refine Oc (aE b6 bT rfl) ?_
 obtain⟨t,e8,h4⟩:=aH h4
 refine Oc (aK bH (aR e8) (cD e8) rfl rfl rfl) (Oc (bF bn rfl rfl rfl (kA (post:=[]) (k:=.u32) [] e8 rfl rfl rfl) (iH (post:=[]) (k:=.u32) [] e8 rfl rfl (aZ.jZ d e (u32.wrap o)) rfl rfl)) (ae.ag ⟨[(2,_),(3,_),(4,_),(6,_),(7,_),(9,_)],[(101,_),(102,_),(103,_),(104,.box 33 (eW (d.set e (u32.wrap o))))]⟩ rfl (ab.aa (ae.cJ .u64 h4 rfl om (fun q h4=>?_)))))
 refine Oc (jh (m:=32) (by decide) rfl rfl rfl) (Oc oa (ae.nil (Fin.aA (Fin.af ⟨[(2,_),(3,_),(4,_),(6,_),(7,.b (.one (.int .u64 (q/4294967296)))),(9,_)],[(101,_),(102,_),(103,_),(104,_)]⟩ rfl (Fin.then (ab.aa ?_))))))
 refine Oc (aL rfl rfl) (Oc om (ae.nil ?_))
 exact Fin.bB [2,3,4,6,7,9] [101,102,103,104] (d.set e (u32.wrap o),q/4294967296,i64.wrap (e+1)) (zaa h4) rfl
 refine ab.exit (Fin.aw ?_)
 obtain rfl:=hy5 _ (zaa h4).symm
 refine Fin.aw (Fin.aJ ?_)
 exact Fin.join [4,6,7] [103,104] (d,a) rfl rfl
 rintro⟨f,c⟩ hv
 subst v1
 refine ab.seq (ab.aa ?_)
 refine Oc (lp aM) (Oc om (Oc (b8 rfl rfl) (Oc (an aM rfl rfl rfl rfl (zab rfl) rfl) (Oc oa (ae.ag ⟨[(4,_),(5,B (decide (c=0)))],[(103,.box 33 (eW f))]⟩ rfl (ab.ret ?_))))))
 obtain rfl:=zaa h
 refine Fin.af ⟨[(4,_),(5,_)],[(103,_)]⟩ rfl (Fin.au [.agg (eW f),.one (.bool (decide (c=0)))] (.inl rfl) rfl (.cons (.agg aM rfl rfl rfl rfl) (.cons (.tmp rfl) .nil)) ⟨rfl,rfl⟩)
def ja (F:Nat) (x0:Int):Option Bool :=
 some (decide (x0≠x0))
theorem nU {F:Nat} {x0:Int} {r:Bool} (h:ja F x0=some r):ax prog (bd mx) 170 [] [.one (.int .u32 x0)] (Is [] (.b (.one (.bool r)))):=by
 unfold ja at h
 refine ax.intro 6 Tryz.func170 Tryz.ntmps170 rfl (by simp) fun E=>(ab.seq (ab.aa ?_))
 refine Oc oa (ae.ag ⟨[(0,.b (.one (.int .u32 x0)))],[]⟩ rfl (ab.seq (ab.aa ?_)))
 refine Oc om (Oc om (Oc (dd rfl rfl) (Oc oa (ae.ag ⟨[(2,B (decide (x0≠x0)))],[]⟩ rfl (ab.ret ?_)))))
 obtain rfl:=zaa h
 refine Fin.af ⟨[(2,_)],[]⟩ rfl (Fin.au [.one (.bool (decide (x0≠x0)))] (.inl rfl) rfl (.cons (.tmp rfl) .nil) ⟨rfl,rfl⟩)
def jL (F:Nat) (x0:Int) (y0:Int):Option Int :=
 (ja F x0).bind fun c=>(ja F y0).bind fun a=>if c=true then (if a=true then (some 0) else (some (-1))) else (if a=true then (some 1) else (if (decide (x0<y0))=true then (some (-1)) else (if (decide (y0<x0))=true then (some 1) else (some 0))))
theorem u3 {F:Nat} {x0 y0 r:Int} (h:jL F x0 y0=some r):ax prog (bd mx) 148 [] [.one (.int .u32 x0),.one (.int .u32 y0)] (Is [] (.b (.one (.i r)))):=by
 unfold jL at h
 refine ax.intro 20 Tryz.func148 Tryz.ntmps148 rfl (by simp) fun E=>(ab.seq (ab.aa ?_))
 refine Oc oa (ae.ag ⟨[(0,.b (.one (.int .u32 x0))),(1,.b (.one (.int .u32 y0)))],[]⟩ rfl (ab.seq (ab.aa ?_)))
 refine Oc om ?_
 obtain⟨c,e1,h⟩:=aH h
 refine Oc (ah (nU e1) C9 rfl rfl) (Oc oa (ae.ag ⟨[(0,_),(1,_),(5,B c)],[]⟩ rfl (ab.seq (ab.aa ?_))))
 refine Oc om ?_
 obtain⟨a,e2,h⟩:=aH h
 refine Oc (ah (nU e2) C9 rfl rfl) (Oc oa (ae.ag ⟨[(0,_),(1,_),(5,_),(6,B a)],[]⟩ rfl (ab.seq (ab.seq (ab.aa ?_)))))
 refine Oc om (ae.ag ⟨[(0,_),(1,_),(6,_),(11,B c)],[]⟩ rfl (ab.ite h rfl (fun _ h=>?_) (fun _ h=>?_)))
 refine ab.seq (ab.seq (ab.aa ?_))
 refine Oc om (ae.ag ⟨[(12,B a)],[]⟩ rfl (ab.ite h rfl (fun _ h=>?_) (fun _ h=>?_)))
 refine ab.seq (ab.aa ?_)
 refine Oc oa (ae.ag ⟨[(4,I 0)],[]⟩ rfl (ab.ret (Fin.ay (Fin.ay ?_))))
 obtain rfl:=zaa h
 refine Fin.af ⟨[(4,_)],[]⟩ rfl (Fin.au [.one (.i 0)] (.inl rfl) rfl (.cons (.tmp rfl) .nil) ⟨rfl,rfl⟩)
 refine ab.skip (Fin.af ⟨[],[]⟩ rfl (Fin.then (ab.seq (ab.aa ?_))))
 refine Oc oa (ae.ag ⟨[(4,I (-1))],[]⟩ rfl (ab.ret (Fin.ay ?_)))
 obtain rfl:=zaa h
 refine Fin.af ⟨[(4,_)],[]⟩ rfl (Fin.au [.one (.i (-1))] (.inl rfl) rfl (.cons (.tmp rfl) .nil) ⟨rfl,rfl⟩)
 refine ab.skip (Fin.af ⟨[(0,_),(1,_),(6,_)],[]⟩ rfl (Fin.then (ab.seq (ab.seq (ab.aa ?_)))))
 refine Oc om (ae.ag ⟨[(0,_),(1,_),(13,B a)],[]⟩ rfl (ab.ite h rfl (fun _ h=>?_) (fun _ h=>?_)))
 refine ab.seq (ab.aa ?_)
 refine Oc oa (ae.ag ⟨[(4,I 1)],[]⟩ rfl (ab.ret (Fin.ay ?_)))
 obtain rfl:=zaa h
 refine Fin.af ⟨[(4,_)],[]⟩ rfl (Fin.au [.one (.i 1)] (.inl rfl) rfl (.cons (.tmp rfl) .nil) ⟨rfl,rfl⟩)
 refine ab.skip (Fin.af ⟨[(0,_),(1,_)],[]⟩ rfl (Fin.then (ab.seq (ab.seq (ab.aa ?_)))))
 refine Oc om (Oc om (Oc (bt rfl rfl) (ae.ag ⟨[(0,_),(1,_),(16,B (decide (x0<y0)))],[]⟩ rfl (ab.ite h rfl (fun _ h=>?_) (fun _ h=>?_)))))
 refine ab.seq (ab.aa ?_)
 refine Oc oa (ae.ag ⟨[(4,I (-1))],[]⟩ rfl (ab.ret (Fin.ay ?_)))
 obtain rfl:=zaa h
 refine Fin.af ⟨[(4,_)],[]⟩ rfl (Fin.au [.one (.i (-1))] (.inl rfl) rfl (.cons (.tmp rfl) .nil) ⟨rfl,rfl⟩)
 refine ab.skip (Fin.af ⟨[(0,_),(1,_)],[]⟩ rfl (Fin.then (ab.seq (ab.seq (ab.aa ?_)))))
 refine Oc om (Oc om (Oc (dy rfl rfl) (ae.ag ⟨[(19,B (decide (y0<x0)))],[]⟩ rfl (ab.ite h rfl (fun _ h=>?_) (fun _ h=>?_)))))
 refine ab.seq (ab.aa ?_)
 refine Oc oa (ae.ag ⟨[(4,I 1)],[]⟩ rfl (ab.ret (Fin.ay ?_)))
 obtain rfl:=zaa h
 refine Fin.af ⟨[(4,_)],[]⟩ rfl (Fin.au [.one (.i 1)] (.inl rfl) rfl (.cons (.tmp rfl) .nil) ⟨rfl,rfl⟩)
 refine ab.skip (Fin.af ⟨[],[]⟩ rfl (Fin.then (ab.seq (ab.aa ?_))))
 refine Oc oa (ae.ag ⟨[(4,I 0)],[]⟩ rfl (ab.ret ?_))
 obtain rfl:=zaa h
 refine Fin.af ⟨[(4,_)],[]⟩ rfl (Fin.au [.one (.i 0)] (.inl rfl) rfl (.cons (.tmp rfl) .nil) ⟨rfl,rfl⟩)
def mo (F:Nat) (a0:aZ) (b0:aZ):Option Int :=
 Option.bind (iter F (fun a=>if (decide (0<=a))=true then ((aS a0.l a).bind fun c=>(aS b0.l a).bind fun d=>if (decide (c≠d))=true then ((aS a0.l a).bind fun e=>(aS b0.l a).bind fun f=>(jL F e f).bind fun g=>some (.inr (.inr g))) else (some (.inl (i64.wrap (a-1))))) else (some (.inr (.inl ())))) 15) (cW (fun _=>some 0) (fun y=>some y))
theorem tX {F:Nat} {a0 b0:aZ} {r:Int} (h:mo F a0 b0=some r):ax prog (bd mx) 109 [] [.agg (eW a0),.agg (eW b0)] (Is [] (.b (.one (.i r)))):=by
 unfold mo at h
 refine ax.intro 24 Tryz.func109 Tryz.ntmps109 rfl (by simp) fun E=>(ab.seq (ab.aa ?_))
 refine Oc (bE (k:=101) rfl rfl) (Oc (bE (k:=102) rfl rfl) (Oc oa (ae.ag ⟨[(2,Pt 101 0),(3,Pt 102 0)],[(101,.box 33 (eW a0)),(102,.box 33 (eW b0))]⟩ rfl ?_)))
 obtain⟨v1,h2,h⟩:=aH h
 refine ab.bR (v:=v1) (fun (_:Unit)=>⟨[],[]⟩) (fun z=>.inl z) ?_ ?_
 refine ab.seq (ab.aa ?_)
 refine Oc oa (ae.ag ⟨[(2,_),(3,_),(5,I 15)],[(101,_),(102,_)]⟩ rfl (ab.block (ab.cx h2 (fun (a:Int)=>⟨[(2,Pt 101 0),(3,Pt 102 0),(5,I a)],[(101,.box 33 (eW a0)),(102,.box 33 (eW b0))]⟩) [2,3,5] [101,102] rfl ?_)))
 rintro a o3 h4 hy5
 refine ab.seq (ab.seq (ab.aa ?_))
 refine Oc om (Oc (gf rfl rfl) (ae.ag ⟨[(2,_),(3,_),(5,_),(7,B (decide (0<=a)))],[(101,_),(102,_)]⟩ rfl (ab.ite h4 rfl (fun _ h4=>?_) (fun _ h4=>?_))))
 refine ab.skip (Fin.af ⟨[(2,_),(3,_),(5,_)],[(101,_),(102,_)]⟩ rfl (Fin.then (ab.seq (ab.block (ab.seq (ab.af ⟨[(2,_),(3,_),(5,_)],[(101,_),(102,_)]⟩ rfl ?_))))))
 obtain⟨d,e6,h4⟩:=aH h4
 obtain⟨e,e7,h4⟩:=aH h4
 refine ab.bN mixed 7 [I a,.b (.ptr 101 (0+(a:Int).toNat*1)),.b (.one (.int .u32 d)),I a,.b (.ptr 102 (0+(a:Int).toNat*1)),.b (.one (.int .u32 e)),B (decide (d≠e))] [2,3,5,16] [101,102] (s':=⟨[(2,_),(3,_),(5,_),(16,B (decide (d≠e)))],[(101,_),(102,_)]⟩) rfl ⟨fun _=>.p om,fun _=>.p (aK bH (aR e6) (cD e6) rfl rfl rfl),fun _=>.p (ao bn rfl rfl (cA (post:=[]) (k:=.u32) [] e6 rfl rfl rfl)),fun _=>.p om,fun _=>.p (aK bH (aR e7) (cD e7) rfl rfl rfl),fun _=>.p (ao bn rfl rfl (cA (post:=[]) (k:=.u32) [] e7 rfl rfl rfl)),fun _=>.p (dd rfl rfl),trivial⟩ rfl rfl (ab.ite h4 rfl (fun _ h4=>?_) (fun _ h4=>?_))
 refine ab.seq (ab.af ⟨[(2,_),(3,_),(5,_)],[(101,_),(102,_)]⟩ rfl ?_)
 obtain⟨f,e8,h4⟩:=aH h4
 obtain⟨g,e9,h4⟩:=aH h4
 obtain⟨c,e10,h4⟩:=aH h4
 refine ab.bN mixed 8 [I a,.b (.ptr 101 (0+(a:Int).toNat*1)),.b (.one (.int .u32 f)),I a,.b (.ptr 102 (0+(a:Int).toNat*1)),.b (.one (.int .u32 g)),I c,I c] [4] [] (s':=⟨[(4,I c)],[]⟩) rfl ⟨fun _=>.p om,fun _=>.p (aK bH (aR e8) (cD e8) rfl rfl rfl),fun _=>.p (ao bn rfl rfl (cA (post:=[]) (k:=.u32) [] e8 rfl rfl rfl)),fun _=>.p om,fun _=>.p (aK bH (aR e9) (cD e9) rfl rfl rfl),fun _=>.p (ao bn rfl rfl (cA (post:=[]) (k:=.u32) [] e9 rfl rfl rfl)),fun _=>.p (ah (u3 e10) goes148 rfl rfl),fun _=>.p oa,trivial⟩ rfl rfl (ab.ret (Fin.bc (Fin.ay ?_)))
 obtain rfl:=hy5 _ (zaa h4).symm
 refine Fin.ay (Fin.bc (Fin.ay ?_))
 obtain rfl:=zaa h
 refine Fin.af ⟨[(4,_)],[]⟩ rfl (Fin.au [.one (.i c)] (.inl rfl) rfl (.cons (.tmp rfl) .nil) ⟨rfl,rfl⟩)
 refine ab.skip (Fin.aA (Fin.af ⟨[(2,_),(3,_),(5,_)],[(101,_),(102,_)]⟩ rfl (Fin.then (ab.aa ?_))))
 refine Oc om (Oc (bW rfl rfl) (Oc oa (ae.nil ?_)))
 exact Fin.bB [2,3,5] [101,102] (i64.wrap (a-1)) (zaa h4) rfl
 refine ab.exit (Fin.aw ?_)
 obtain rfl:=hy5 _ (zaa h4).symm
 refine Fin.aw (Fin.aJ ?_)
 exact Fin.join [] [] () rfl rfl
 rintro _ hv
 subst v1
 refine ab.seq (ab.aa ?_)
 refine Oc oa (ae.ag ⟨[(4,I 0)],[]⟩ rfl (ab.ret ?_))
 obtain rfl:=zaa h
 refine Fin.af ⟨[(4,_)],[]⟩ rfl (Fin.au [.one (.i 0)] (.inl rfl) rfl (.cons (.tmp rfl) .nil) ⟨rfl,rfl⟩)
end Go.Proofs.YtbcdabflmkgkiaaGreatDoor

