/- printed walks -/
import Derived.Test.YtbcdabflmkgkiaaGreatDoorT1
namespace Go.Proofs.YtbcdabflmkgkiaaGreatDoor
open Go.Sk
set_option maxHeartbeats 4000000
set_option maxRecDepth 4000
set_option linter.unusedSimpArgs false
set_option linter.unusedVariables false
variable {mx : Int}
/-- the words and the signs of the lexer -/
def eP:List Str:=[[97,110,100],[97,112,112,108,121],[97,116],[98,108,111,99,107],[98,111,120],[98,121],[99,117,116],[101,108,115,101],[102,97,108,115,101],[102,111,114,99,101],[102,114,101,101],[102,114,111,109],[103,114,97,118,105,116,121],[103,114,111,117,110,100],[105,102],[108,101,116],[108,111,97,100],[109,97,115,115],[110,111,116],[111,110],[111,114],[112,97,117,115,101],[112,108,97,99,101],[112,111,105,110,116,115],[112,114,111,112],[114,101,109,111,118,101],[114,101,112,101,97,116],[114,111,112,101],[114,111,117,103,104],[114,117,110],[115,101,116],[116,105,101],[116,111],[116,114,117,101],[116,117,114,110],[121,97,114,100]]
def dA:List Str:=[[46,46],[61,61],[33,61],[60,61],[62,61],[45,62],[40],[41],[123],[125],[91],[93],[44],[59],[58],[46],[61],[60],[62],[43],[45],[42],[47],[94],[64]]
/-- the tables (mx: what internal/bytealg.MaxLen holds,whatever it is) -/
def bh (mx:Int):aV:=[(0,tz eP),(1,tz dA),(2,[Value.int .i64 mx])]
theorem AV {mx:Int}:(0,tz eP) ∈ bh mx:=by simp [bh]
theorem pB {mx:Int}:(1,tz dA) ∈ bh mx:=by simp [bh]
theorem AU (h:PH):aL h (eP.map eS).flatten (tz eP):=tZ h (by decide)
theorem pA (h:PH):aL h (dA.map eS).flatten (tz dA):=tZ h (by decide)
theorem ux:di Tryz.prog 149 1 0 32:=⟨⟨_,_,Tryz.t32,Tryz.underlying149,rfl,rfl,rfl,by kernel_rfl,by decide⟩⟩
theorem ext171:qA Tryz.prog 171 (Extern.Atomic.loadT (.int .u32)):=⟨_,Tryz.func171,by kernel_rfl,by kernel_rfl,by kernel_rfl,by kernel_rfl⟩
theorem goes185:bB Tryz.prog 185:=⟨Tryz.call185⟩
theorem ext184:qA Tryz.prog 184 (Extern.Atomic.storeT):=⟨_,Tryz.func184,by kernel_rfl,by kernel_rfl,by kernel_rfl,by kernel_rfl⟩
theorem mixed:Tryz.prog.follows .mixedOrders = true:=by kernel_rfl
theorem C0:qA Tryz.prog 189 (fun _=>do _root_.Go.mark .disable; pure Extern.Race.none_):=⟨_,Tryz.func189,by kernel_rfl,by kernel_rfl,by kernel_rfl,by kernel_rfl⟩
theorem qp:di Tryz.prog 151 0 0 21:=⟨⟨_,_,Tryz.t21,Tryz.underlying151,rfl,rfl,rfl,by kernel_rfl,by decide⟩⟩
theorem ext190:qA Tryz.prog 190 (Extern.Atomic.casT (.int .i32)):=⟨_,Tryz.func190,by kernel_rfl,by kernel_rfl,by kernel_rfl,by kernel_rfl⟩
theorem CZ:qA Tryz.prog 191 (fun _=>do _root_.Go.mark .enable; pure Extern.Race.none_):=⟨_,Tryz.func191,by kernel_rfl,by kernel_rfl,by kernel_rfl,by kernel_rfl⟩
theorem ext192:qA Tryz.prog 192 (Extern.Race.marked .acquire):=⟨_,Tryz.func192,by kernel_rfl,by kernel_rfl,by kernel_rfl,by kernel_rfl⟩
theorem uw:di Tryz.prog 153 1 0 151:=⟨⟨_,_,Tryz.t151,Tryz.underlying153,rfl,rfl,rfl,by kernel_rfl,by decide⟩⟩
theorem goes182:bB Tryz.prog 182:=⟨Tryz.call182⟩
theorem tyOne21:dx Tryz.prog 21:=⟨⟨_,Tryz.underlying21,rfl⟩,⟨Tryz.t21,by kernel_rfl,by kernel_rfl⟩⟩
theorem ext194:qA Tryz.prog 194 (Extern.Race.marked .releaseMerge):=⟨_,Tryz.func194,by kernel_rfl,by kernel_rfl,by kernel_rfl,by kernel_rfl⟩
theorem ext195:qA Tryz.prog 195 (Extern.Atomic.update (Op.intArith .add) .i32 true):=⟨_,Tryz.func195,by kernel_rfl,by kernel_rfl,by kernel_rfl,by kernel_rfl⟩
theorem goes183:bB Tryz.prog 183:=⟨Tryz.call183⟩
theorem ur:di Tryz.prog 159 2 4 44:=⟨⟨_,_,Tryz.t44,Tryz.underlying159,rfl,rfl,rfl,by kernel_rfl,by decide⟩⟩
theorem lN:dx Tryz.prog 44:=⟨⟨_,Tryz.underlying44,rfl⟩,⟨Tryz.t44,by kernel_rfl,by kernel_rfl⟩⟩
theorem n3:Tryz.prog.underlying 44 = some (.slice 9):=Tryz.underlying44
theorem dT:lA Tryz.prog 44 9 1 16 [.str []]:=⟨Tryz.underlying44,⟨Tryz.t9,_,by kernel_rfl,rfl,rfl,rfl,rfl,by decide,rfl⟩⟩
theorem cG:dx Tryz.prog 9:=⟨⟨_,Tryz.underlying9,rfl⟩,⟨Tryz.t9,by kernel_rfl,by kernel_rfl⟩⟩
theorem du:Tryz.prog.underlying 9 = some .string:=Tryz.underlying9
theorem zk:lQ Tryz.prog 211 [(0,256),(256,1)] (List.replicate 256 CP.nil ++ [.nil]):=⟨⟨Tryz.t211,_,_,by kernel_rfl,rfl,rfl,Tryz.underlying211,by kernel_rfl⟩⟩
theorem AW:k5 Tryz.prog 211 (List.replicate 256 CP.nil ++ [.nil]):=⟨⟨Tryz.t211,_,by kernel_rfl,rfl,rfl⟩⟩
theorem Dl:ir Tryz.prog 211 257:=⟨⟨_,Tryz.underlying211,rfl⟩,⟨Tryz.t211,by kernel_rfl,by kernel_rfl⟩⟩
theorem fQ:di Tryz.prog 211 0 0 209:=⟨⟨_,_,Tryz.t209,Tryz.underlying211,rfl,rfl,rfl,by kernel_rfl,by decide⟩⟩
theorem jj:kE Tryz.prog 209 50 256 1:=⟨Tryz.underlying209,⟨Tryz.t50,by kernel_rfl,by kernel_rfl⟩⟩
theorem kI:dx Tryz.prog 50:=⟨⟨_,Tryz.underlying50,rfl⟩,⟨Tryz.t50,by kernel_rfl,by kernel_rfl⟩⟩
theorem jy:Tryz.prog.underlying 50 = some (.slice 5):=Tryz.underlying50
theorem jK:di Tryz.prog 211 1 256 44:=⟨⟨_,_,Tryz.t44,Tryz.underlying211,rfl,rfl,rfl,by kernel_rfl,by decide⟩⟩
theorem kW:lA Tryz.prog 50 5 1 1 [.int .u8 0]:=⟨Tryz.underlying50,⟨Tryz.t5,_,by kernel_rfl,rfl,rfl,rfl,rfl,by decide,rfl⟩⟩
theorem mn:Tryz.prog.underlying 5 = some (.int .u8):=Tryz.underlying5
theorem conc212:Tryz.prog.concrete 212 = true:=(by kernel_rfl)
theorem goes152:bB Tryz.prog 152:=⟨Tryz.call152⟩
theorem uu:di Tryz.prog 159 1 3 157:=⟨⟨_,_,Tryz.t157,Tryz.underlying159,rfl,rfl,rfl,by kernel_rfl,by decide⟩⟩
theorem xr:dx Tryz.prog 157:=⟨⟨_,Tryz.underlying157,rfl⟩,⟨Tryz.t157,by kernel_rfl,by kernel_rfl⟩⟩
theorem uv:di Tryz.prog 155 2 1 153:=⟨⟨_,_,Tryz.t153,Tryz.underlying155,rfl,rfl,rfl,by kernel_rfl,by decide⟩⟩
theorem goes172:bB Tryz.prog 172:=⟨Tryz.call172⟩
theorem qo:di Tryz.prog 155 1 0 149:=⟨⟨_,_,Tryz.t149,Tryz.underlying155,rfl,rfl,rfl,by kernel_rfl,by decide⟩⟩
theorem Ar:bB Tryz.prog 150:=⟨Tryz.call150⟩
theorem goes118:bB Tryz.prog 118:=⟨Tryz.call118⟩
theorem goes174:bB Tryz.prog 174:=⟨Tryz.call174⟩
theorem goes173:bB Tryz.prog 173:=⟨Tryz.call173⟩
theorem goes151:bB Tryz.prog 151:=⟨Tryz.call151⟩
theorem CF:bB Tryz.prog 54:=⟨Tryz.call54⟩
theorem yO:dx Tryz.prog 5:=⟨⟨_,Tryz.underlying5,rfl⟩,⟨Tryz.t5,by kernel_rfl,by kernel_rfl⟩⟩
theorem xW:xP Tryz.prog 159 [(0,3),(3,1),(4,1)] [.int .u32 0,.int .i32 0,.int .u32 0,.raw .nilIface,.nil]:=⟨⟨Tryz.t159,_,_,by kernel_rfl,rfl,fun _=>(.cons (um ⟨by decide,by decide⟩) (.cons (um ⟨by decide,by decide⟩) (.cons (um ⟨by decide,by decide⟩) (.cons (xN rfl) (.cons (xN rfl) .nil))))),Tryz.underlying159,by kernel_rfl⟩⟩
theorem zj:di Tryz.prog 159 0 0 155:=⟨⟨_,_,Tryz.t155,Tryz.underlying159,rfl,rfl,rfl,by kernel_rfl,by decide⟩⟩
theorem goes117:bB Tryz.prog 117:=⟨Tryz.call117⟩
theorem s4:∀ (u:Value) (args:Array Value) (w:World),(callMethod (.iface 212 u) "Replace" args).run Tryz.prog w = .ok (.enter 230 (#[u] ++ args)) w:=fun _ _ _=>by kernel_rfl
theorem yX:bB Tryz.prog 91:=⟨Tryz.call91⟩
theorem yW:bB Tryz.prog 95:=⟨Tryz.call95⟩
theorem goes138:bB Tryz.prog 138:=⟨Tryz.call138⟩
theorem goes100:bB Tryz.prog 100:=⟨Tryz.call100⟩
theorem goes94:bB Tryz.prog 94:=⟨Tryz.call94⟩
theorem goes99:bB Tryz.prog 99:=⟨Tryz.call99⟩
theorem goes101:bB Tryz.prog 101:=⟨Tryz.call101⟩
theorem bu:di Tryz.prog 77 1 1 3:=⟨⟨_,_,Tryz.t3,Tryz.underlying77,rfl,rfl,rfl,by kernel_rfl,by decide⟩⟩
theorem b6:dx Tryz.prog 3:=⟨⟨_,Tryz.underlying3,rfl⟩,⟨Tryz.t3,by kernel_rfl,by kernel_rfl⟩⟩
theorem fC:di Tryz.prog 77 0 0 9:=⟨⟨_,_,Tryz.t9,Tryz.underlying77,rfl,rfl,rfl,by kernel_rfl,by decide⟩⟩
theorem gZ:lQ Tryz.prog 46 [(0,1),(1,1)] [.i 0,.i 0]:=⟨⟨Tryz.t46,_,_,by kernel_rfl,rfl,rfl,Tryz.underlying46,by kernel_rfl⟩⟩
theorem conc46:Tryz.prog.concrete 46 = true:=(by kernel_rfl)
theorem As:bB Tryz.prog 149:=⟨Tryz.call149⟩
theorem pQ:Tryz.prog.underlying 3 = some (.int .i64):=Tryz.underlying3
theorem Cl:Tryz.prog.underlying 55 = some (.int .u64):=Tryz.underlying55
theorem goes115:bB Tryz.prog 115:=⟨Tryz.call115⟩
theorem Ax:bB Tryz.prog 116:=⟨Tryz.call116⟩
theorem tyArr88:kE Tryz.prog 88 9 36 1:=⟨Tryz.underlying88,⟨Tryz.t9,by kernel_rfl,by kernel_rfl⟩⟩
theorem goes56:bB Tryz.prog 56:=⟨Tryz.call56⟩
theorem gz:k5 Tryz.prog 31 [.i 0,.i 0,.str []]:=⟨⟨Tryz.t31,_,by kernel_rfl,rfl,rfl⟩⟩
theorem mb:bB Tryz.prog 92:=⟨Tryz.call92⟩
theorem ck:lQ Tryz.prog 31 [(0,1),(1,1),(2,1)] [.i 0,.i 0,.str []]:=⟨⟨Tryz.t31,_,_,by kernel_rfl,rfl,rfl,Tryz.underlying31,by kernel_rfl⟩⟩
theorem bT:ir Tryz.prog 31 3:=⟨⟨_,Tryz.underlying31,rfl⟩,⟨Tryz.t31,by kernel_rfl,by kernel_rfl⟩⟩
theorem tP:bB Tryz.prog 93:=⟨Tryz.call93⟩
theorem qg:bB Tryz.prog 96:=⟨Tryz.call96⟩
theorem jF:di Tryz.prog 31 2 2 9:=⟨⟨_,_,Tryz.t9,Tryz.underlying31,rfl,rfl,rfl,by kernel_rfl,by decide⟩⟩
theorem yZ:bB Tryz.prog 25:=⟨Tryz.call25⟩
theorem mN:di Tryz.prog 31 0 0 3:=⟨⟨_,_,Tryz.t3,Tryz.underlying31,rfl,rfl,rfl,by kernel_rfl,by decide⟩⟩
theorem np:dx Tryz.prog 75:=⟨⟨_,Tryz.underlying75,rfl⟩,⟨Tryz.t75,by kernel_rfl,by kernel_rfl⟩⟩
theorem goes71:bB Tryz.prog 71:=⟨Tryz.call71⟩
theorem goes98:bB Tryz.prog 98:=⟨Tryz.call98⟩
theorem qT:kE Tryz.prog 131 9 25 1:=⟨Tryz.underlying131,⟨Tryz.t9,by kernel_rfl,by kernel_rfl⟩⟩
theorem goes97:bB Tryz.prog 97:=⟨Tryz.call97⟩
theorem Dk:k5 Tryz.prog 22 [.nil]:=⟨⟨Tryz.t22,_,by kernel_rfl,rfl,rfl⟩⟩
theorem j9:k5 Tryz.prog 46 [.i 0,.i 0]:=⟨⟨Tryz.t46,_,by kernel_rfl,rfl,rfl⟩⟩
theorem eE:dx Tryz.prog 22:=⟨⟨_,Tryz.underlying22,rfl⟩,⟨Tryz.t22,by kernel_rfl,by kernel_rfl⟩⟩
theorem cT:ir Tryz.prog 46 2:=⟨⟨_,Tryz.underlying46,rfl⟩,⟨Tryz.t46,by kernel_rfl,by kernel_rfl⟩⟩
theorem A0:lQ Tryz.prog 77 [(0,1),(1,1)] [.str [],.i 0]:=⟨⟨Tryz.t77,_,_,by kernel_rfl,rfl,rfl,Tryz.underlying77,by kernel_rfl⟩⟩
theorem AZ:q9 Tryz.prog 79 1 [.raw .nilFunc,.raw .nilFunc,.raw .nilFunc,.raw .nilFunc]:=⟨⟨Tryz.t79,_,_,_,Tryz.t78,by kernel_rfl,rfl,rfl,Tryz.underlying79,by kernel_rfl,by kernel_rfl⟩⟩
theorem Dj:k5 Tryz.prog 79 [.raw .nilFunc,.raw .nilFunc,.raw .nilFunc,.raw .nilFunc]:=⟨⟨Tryz.t79,_,by kernel_rfl,rfl,rfl⟩⟩
theorem Aa:ir Tryz.prog 79 4:=⟨⟨_,Tryz.underlying79,rfl⟩,⟨Tryz.t79,by kernel_rfl,by kernel_rfl⟩⟩
theorem CG:bB Tryz.prog 45:=⟨Tryz.call45⟩
theorem te:kE Tryz.prog 79 78 4 1:=⟨Tryz.underlying79,⟨Tryz.t78,by kernel_rfl,by kernel_rfl⟩⟩
theorem td:dx Tryz.prog 78:=⟨⟨_,Tryz.underlying78,rfl⟩,⟨Tryz.t78,by kernel_rfl,by kernel_rfl⟩⟩
theorem CK:bB Tryz.prog 41:=⟨Tryz.call41⟩
theorem fH:lA Tryz.prog 22 31 3 32 [.i 0,.i 0,.str []]:=⟨Tryz.underlying22,⟨Tryz.t31,_,by kernel_rfl,rfl,rfl,rfl,rfl,by decide,rfl⟩⟩
theorem CJ:bB Tryz.prog 42:=⟨Tryz.call42⟩
theorem CI:bB Tryz.prog 43:=⟨Tryz.call43⟩
theorem CH:bB Tryz.prog 44:=⟨Tryz.call44⟩
theorem tT:bB Tryz.prog 40:=⟨Tryz.call40⟩
theorem vf:Tryz.prog.underlying 22 = some (.slice 31):=Tryz.underlying22
theorem goes57:bB Tryz.prog 57:=⟨Tryz.call57⟩
theorem goes58:bB Tryz.prog 58:=⟨Tryz.call58⟩
theorem CM:bB Tryz.prog 27:=⟨Tryz.call27⟩
theorem qi:bB Tryz.prog 13:=⟨Tryz.call13⟩
theorem vt:di Tryz.prog 31 1 1 3:=⟨⟨_,_,Tryz.t3,Tryz.underlying31,rfl,rfl,rfl,by kernel_rfl,by decide⟩⟩
theorem tyOne24:dx Tryz.prog 24:=⟨⟨_,Tryz.underlying24,rfl⟩,⟨Tryz.t24,by kernel_rfl,by kernel_rfl⟩⟩
theorem D3 (x y:Problem) {d:Nat}:c8 Tryz.prog (d + 2) 46 2 (bF x) (bF y) (decide (x = y)) :=
 (c8.struct (d:=d + 1) (rs:=[decide (x.At = y.At),decide (x.E = y.E)]) cT Tryz.stoodInHeld46 Tryz.underlying46 (⟨by decide,⟨_,[.i x.At],[.i y.At],rfl,rfl,rfl,rfl,c8.int b6 Tryz.underlying3⟩,⟨by decide,⟨_,[.i x.E],[.i y.E],rfl,rfl,rfl,rfl,c8.int tyOne24 Tryz.underlying24⟩,trivial⟩⟩) rfl).cast
  (by cases x; cases y; rw [Bool.eq_iff_iff]; simp [Problem.mk.injEq])
theorem nC (x y:Problem):kF Tryz.prog 46 (bF x) (bF y) (decide (x = y)):=kF.tM (by kernel_rfl) cT (D3 x y (d:=9998)) rfl rfl
theorem D5 (x y:Token) {d:Nat}:c8 Tryz.prog (d + 2) 31 3 (aE x) (aE y) (decide (x = y)) :=
 (c8.struct (d:=d + 1) (rs:=[decide (x.Kind = y.Kind),decide (x.At = y.At),decide (x.S = y.S)]) bT Tryz.stoodInHeld31 Tryz.underlying31 (⟨by decide,⟨_,[.i x.Kind],[.i y.Kind],rfl,rfl,rfl,rfl,c8.int b6 Tryz.underlying3⟩,⟨by decide,⟨_,[.i x.At],[.i y.At],rfl,rfl,rfl,rfl,c8.int b6 Tryz.underlying3⟩,⟨by decide,⟨_,[.str x.S],[.str y.S],rfl,rfl,rfl,rfl,c8.str cG Tryz.underlying9⟩,trivial⟩⟩⟩) rfl).cast
  (by cases x; cases y; rw [Bool.eq_iff_iff]; simp [Token.mk.injEq])
theorem eqAgg31 (x y:Token):kF Tryz.prog 31 (aE x) (aE y) (decide (x = y)):=kF.tM (by kernel_rfl) bT (D5 x y (d:=9998)) rfl rfl
theorem goes64:bB Tryz.prog 64:=⟨Tryz.call64⟩
theorem bP:k5 Tryz.prog 35 dF:=⟨⟨Tryz.t35,_,by kernel_rfl,rfl,rfl⟩⟩
theorem vu:lQ Tryz.prog 35 [(0,1),(1,1),(2,16)] dF:=⟨⟨Tryz.t35,_,_,by kernel_rfl,rfl,rfl,Tryz.underlying35,by kernel_rfl⟩⟩
theorem an:ir Tryz.prog 35 18:=⟨⟨_,Tryz.underlying35,rfl⟩,⟨Tryz.t35,by kernel_rfl,by kernel_rfl⟩⟩
theorem aD:ir Tryz.prog 33 16:=⟨⟨_,Tryz.underlying33,rfl⟩,⟨Tryz.t33,by kernel_rfl,by kernel_rfl⟩⟩
theorem gf:q9 Tryz.prog 33 1 (eW aT.zero):=⟨⟨Tryz.t33,_,_,_,Tryz.t32,by kernel_rfl,rfl,rfl,Tryz.underlying33,by kernel_rfl,by kernel_rfl⟩⟩
theorem bn:dx Tryz.prog 32:=⟨⟨_,Tryz.underlying32,rfl⟩,⟨Tryz.t32,by kernel_rfl,by kernel_rfl⟩⟩
theorem xK (x y:aT) {d:Nat}:c8 Tryz.prog (d + 2) 33 16 (eW x) (eW y) (decide (x = y)) :=
 (c8.arr (l:=x.l) (l':=y.l) aD Tryz.underlying33 bn Tryz.underlying32).cast (by rw [Bool.eq_iff_iff]; simp [aT.xk])
theorem po (x y:aT):kF Tryz.prog 33 (eW x) (eW y) (decide (x = y)):=kF.tM (by kernel_rfl) aD (xK x y (d:=9998)) rfl rfl
theorem bJ:Tryz.prog.underlying 54 = some (.int .u64):=Tryz.underlying54
theorem bL:Tryz.prog.underlying 32 = some (.int .u32):=Tryz.underlying32
theorem jC:bB Tryz.prog 69:=⟨Tryz.call69⟩
theorem ba:di Tryz.prog 35 2 2 33:=⟨⟨_,_,Tryz.t33,Tryz.underlying35,rfl,rfl,rfl,by kernel_rfl,by decide⟩⟩
theorem kU:di Tryz.prog 35 0 0 4:=⟨⟨_,_,Tryz.t4,Tryz.underlying35,rfl,rfl,rfl,by kernel_rfl,by decide⟩⟩
theorem dG:dx Tryz.prog 4:=⟨⟨_,Tryz.underlying4,rfl⟩,⟨Tryz.t4,by kernel_rfl,by kernel_rfl⟩⟩
theorem c6:di Tryz.prog 35 1 1 4:=⟨⟨_,_,Tryz.t4,Tryz.underlying35,rfl,rfl,rfl,by kernel_rfl,by decide⟩⟩
theorem und178:Tryz.prog.underlying 178 = some (.slice 35):=Tryz.underlying178
theorem jW:lA Tryz.prog 178 35 18 68 dF:=⟨Tryz.underlying178,⟨Tryz.t35,_,by kernel_rfl,rfl,rfl,rfl,rfl,by decide,rfl⟩⟩
theorem Aw:bB Tryz.prog 130:=⟨Tryz.call130⟩
theorem bQ:kE Tryz.prog 33 32 16 1:=⟨Tryz.underlying33,⟨Tryz.t32,by kernel_rfl,by kernel_rfl⟩⟩
theorem kL:bB Tryz.prog 103:=⟨Tryz.call103⟩
theorem jD:bB Tryz.prog 68:=⟨Tryz.call68⟩
theorem AY:k5 Tryz.prog 133 ((xe .u32) gu.zero):=⟨⟨Tryz.t133,_,by kernel_rfl,rfl,rfl⟩⟩
theorem nB:bB Tryz.prog 104:=⟨Tryz.call104⟩
theorem oA:kE Tryz.prog 133 32 32 1:=⟨Tryz.underlying133,⟨Tryz.t32,by kernel_rfl,by kernel_rfl⟩⟩
theorem B2:Tryz.prog.underlying 4 = some .bool:=Tryz.underlying4
theorem cP:k5 Tryz.prog 33 (eW aT.zero):=⟨⟨Tryz.t33,_,by kernel_rfl,rfl,rfl⟩⟩
theorem Ap:bB Tryz.prog 170:=⟨Tryz.call170⟩
theorem goes148:bB Tryz.prog 148:=⟨Tryz.call148⟩
theorem goes108:bB Tryz.prog 108:=⟨Tryz.call108⟩
theorem Ay:bB Tryz.prog 109:=⟨Tryz.call109⟩
theorem wH:bB Tryz.prog 110:=⟨Tryz.call110⟩
theorem me:bB Tryz.prog 47:=⟨Tryz.call47⟩
theorem kz:bB Tryz.prog 50:=⟨Tryz.call50⟩
theorem yY:bB Tryz.prog 53:=⟨Tryz.call53⟩
theorem dy:k5 Tryz.prog 37 gl:=⟨⟨Tryz.t37,_,by kernel_rfl,rfl,rfl⟩⟩
theorem wI:bB Tryz.prog 102:=⟨Tryz.call102⟩
theorem py:lQ Tryz.prog 37 [(0,18),(18,18)] gl:=⟨⟨Tryz.t37,_,_,by kernel_rfl,rfl,rfl,Tryz.underlying37,by kernel_rfl⟩⟩
theorem bc:ir Tryz.prog 37 36:=⟨⟨_,Tryz.underlying37,rfl⟩,⟨Tryz.t37,by kernel_rfl,by kernel_rfl⟩⟩
theorem Aq:bB Tryz.prog 168:=⟨Tryz.call168⟩
theorem eU:kE Tryz.prog 183 32 17 1:=⟨Tryz.underlying183,⟨Tryz.t32,by kernel_rfl,by kernel_rfl⟩⟩
theorem goes139:bB Tryz.prog 139:=⟨Tryz.call139⟩
theorem goes140:bB Tryz.prog 140:=⟨Tryz.call140⟩
theorem Av:bB Tryz.prog 141:=⟨Tryz.call141⟩
theorem AX:k5 Tryz.prog 183 ((iY .u32) cg.zero):=⟨⟨Tryz.t183,_,by kernel_rfl,rfl,rfl⟩⟩
theorem tySl135:lA Tryz.prog 135 32 1 4 [.int .u32 0]:=⟨Tryz.underlying135,⟨Tryz.t32,_,by kernel_rfl,rfl,rfl,rfl,rfl,by decide,rfl⟩⟩
theorem goes142:bB Tryz.prog 142:=⟨Tryz.call142⟩
theorem goes143:bB Tryz.prog 143:=⟨Tryz.call143⟩
theorem goes144:bB Tryz.prog 144:=⟨Tryz.call144⟩
theorem goes145:bB Tryz.prog 145:=⟨Tryz.call145⟩
theorem Az:bB Tryz.prog 105:=⟨Tryz.call105⟩
theorem wh:bB Tryz.prog 51:=⟨Tryz.call51⟩
theorem goes106:bB Tryz.prog 106:=⟨Tryz.call106⟩
theorem goes169:bB Tryz.prog 169:=⟨Tryz.call169⟩
theorem CE:bB Tryz.prog 75:=⟨Tryz.call75⟩
theorem we:bB Tryz.prog 74:=⟨Tryz.call74⟩
theorem Au:bB Tryz.prog 146:=⟨Tryz.call146⟩
theorem goes147:bB Tryz.prog 147:=⟨Tryz.call147⟩
theorem goes107:bB Tryz.prog 107:=⟨Tryz.call107⟩
theorem wg:bB Tryz.prog 73:=⟨Tryz.call73⟩
theorem tQ:bB Tryz.prog 49:=⟨Tryz.call49⟩
theorem mc:bB Tryz.prog 52:=⟨Tryz.call52⟩
theorem CN:bB Tryz.prog 26:=⟨Tryz.call26⟩
theorem goes31:bB Tryz.prog 31:=⟨Tryz.call31⟩
theorem goes32:bB Tryz.prog 32:=⟨Tryz.call32⟩
theorem CL:bB Tryz.prog 33:=⟨Tryz.call33⟩
theorem goes34:bB Tryz.prog 34:=⟨Tryz.call34⟩
theorem jE:bB Tryz.prog 35:=⟨Tryz.call35⟩
theorem goes28:bB Tryz.prog 28:=⟨Tryz.call28⟩
theorem goes114:bB Tryz.prog 114:=⟨Tryz.call114⟩
theorem goes55:bB Tryz.prog 55:=⟨Tryz.call55⟩
theorem CU:bB Tryz.prog 14:=⟨Tryz.call14⟩
theorem y2:bB Tryz.prog 11:=⟨Tryz.call11⟩
theorem goes9:bB Tryz.prog 9:=⟨Tryz.call9⟩
theorem goes23:bB Tryz.prog 23:=⟨Tryz.call23⟩
theorem goes24:bB Tryz.prog 24:=⟨Tryz.call24⟩
theorem uj (x y:cV) {d:Nat}:c8 Tryz.prog (d + 3) 35 18 (au x) (au y) (decide (x = y)) :=
 (c8.struct (d:=d + 2) (rs:=[x.Bad == y.Bad,x.Neg == y.Neg,decide (x.W = y.W)]) an Tryz.stoodInHeld35 Tryz.underlying35 (⟨by decide,⟨_,[.bool x.Bad],[.bool y.Bad],rfl,rfl,rfl,rfl,(.bool dG Tryz.underlying4)⟩,⟨by decide,⟨_,[.bool x.Neg],[.bool y.Neg],rfl,rfl,rfl,rfl,(.bool dG Tryz.underlying4)⟩,⟨by decide,⟨_,(eW x.W),(eW y.W),rfl,rfl,rfl,rfl,xK _ _⟩,trivial⟩⟩⟩) rfl).cast
  (by cases x; cases y; rw [Bool.eq_iff_iff]; simp [cV.mk.injEq])
theorem D4 (x y:gS) {d:Nat}:c8 Tryz.prog (d + 4) 37 36 (aR x) (aR y) (decide (x = y)) :=
 (c8.struct (d:=d + 3) (rs:=[decide (x.N = y.N),decide (x.D = y.D)]) bc Tryz.stoodInHeld37 Tryz.underlying37 (⟨by decide,⟨_,(au x.N),(au y.N),rfl,rfl,rfl,rfl,uj _ _⟩,⟨by decide,⟨_,(au x.D),(au y.D),rfl,rfl,rfl,rfl,uj _ _⟩,trivial⟩⟩) rfl).cast
  (by cases x; cases y; rw [Bool.eq_iff_iff]; simp [gS.mk.injEq])
theorem wJ (x y:gS):kF Tryz.prog 37 (aR x) (aR y) (decide (x = y)):=kF.tM (by kernel_rfl) bc (D4 x y (d:=9996)) rfl rfl
theorem goes8:bB Tryz.prog 8:=⟨Tryz.call8⟩
theorem goes46:bB Tryz.prog 46:=⟨Tryz.call46⟩
theorem cB:di Tryz.prog 37 0 0 35:=⟨⟨_,_,Tryz.t35,Tryz.underlying37,rfl,rfl,rfl,by kernel_rfl,by decide⟩⟩
theorem bH:di Tryz.prog 37 1 18 35:=⟨⟨_,_,Tryz.t35,Tryz.underlying37,rfl,rfl,rfl,by kernel_rfl,by decide⟩⟩
theorem eqAgg35 (x y:cV):kF Tryz.prog 35 (au x) (au y) (decide (x = y)):=kF.tM (by kernel_rfl) an (uj x y (d:=9997)) rfl rfl
theorem tS:bB Tryz.prog 48:=⟨Tryz.call48⟩
theorem CS:bB Tryz.prog 20:=⟨Tryz.call20⟩
theorem CT:bB Tryz.prog 18:=⟨Tryz.call18⟩
theorem qh:bB Tryz.prog 19:=⟨Tryz.call19⟩
theorem CO:bB Tryz.prog 22:=⟨Tryz.call22⟩
theorem CQ:bB Tryz.prog 21:=⟨Tryz.call21⟩
def im (F:Nat) (s0:Str) (c0:Int):Option Str:=th s0 c0
theorem pJ {F:Nat} {s0:Str} {c0:Int} {r:Str} (h:im F s0 c0 = some r):ax Tryz.prog (bh mx) 34 [] [.one (.str s0),.one (.i c0)] (Is [] (.b (.one (.str r)))):=w4 Tryz.lays105 Tryz.rG h
def oL (F:Nat) (l0:List Str) (s0:Str):Option Str:=Cd l0 s0
theorem rD {F:Nat} {l0:List Str} {s0:Str} {r:Str} (h:oL F l0 s0 = some r):ax Tryz.prog (bh mx) 28 [] [.one (.sl 1 (l0.map eS)),.one (.str s0)] (Is [] (.b (.one (.str r)))):=zB Tryz.lays156 Tryz.rF h
def fp (F:Nat) (s0:Str) (p0:Str):Option Bool:=some (Lib.hasPrefix s0 p0)
theorem nV {F:Nat} {s0:Str} {p0:Str} {r:Bool} (h:fp F s0 p0 = some r):ax Tryz.prog (bh mx) 71 [] [.one (.str s0),.one (.str p0)] (Is [] (B r)):=s6 Tryz.lays99 h
def j3 (F:Nat) (s0:Str) (p0:Str):Option (Str × Str × Bool):=cut? s0 p0
theorem sA {F:Nat} {s0:Str} {p0:Str} {r:Str × Str × Bool} (h:j3 F s0 p0 = some r):ax Tryz.prog (bh mx) 31 [] [.one (.str s0),.one (.str p0)] (Is [] (.fG [.one (.str r.1),.one (.str r.2.1),.one (.bool r.2.2)])):=BA Tryz.DR (m:=mx) (by simp [bh,Tryz.ry]) h
def jP (F:Nat) (s0:Str) (c0:Int):Option Int:=qv s0 c0
theorem pK {F:Nat} {s0:Str} {c0:Int} {r:Int} (h:jP F s0 c0 = some r):ax Tryz.prog (bh mx) 138 [] [.one (.str s0),.one (.int .u8 c0)] (Is [] (I r)):=s5 Tryz.lays217 h
def eQ (F:Nat) (s0:Str) (p0:Str):Option Int:=y7 s0 p0
theorem lx {F:Nat} {s0:Str} {p0:Str} {r:Int} (h:eQ F s0 p0 = some r):ax Tryz.prog (bh mx) 54 [] [.one (.str s0),.one (.str p0)] (Is [] (I r)):=yj Tryz.lays138 h
def nT (F:Nat):Option Unit :=
 some ()
theorem s9 {F:Nat} {r:Unit} (h:nT F = some r):ax Tryz.prog (bh mx) 185 [] [.one (.bool true)] (Is [] (.b (.one (.int .u32 1)))):=by
 unfold nT at h
 refine ax.intro 4 Tryz.func185 Tryz.ntmps185 rfl (by simp) fun E=>?_
 show ab _ E ⟨4,[],[],[]⟩ _ ⟨[(0,B true)],[]⟩ _
 refine ab.seq (ab.aa ?_)
 refine Oc oa (ae.aj ⟨[(0,B true)],[]⟩ rfl (ab.seq (ab.seq (ab.aa ?_))))
 refine Oc om (ae.aj ⟨[(3,B true)],[]⟩ rfl (ab.lL rfl (ab.seq (ab.aa ?_))))
 refine Oc oa (ae.aj ⟨[(2,.b (.one (.int .u32 1)))],[]⟩ rfl (ab.ret (Fin.aI ?_)))
 obtain rfl:=Option.some.inj h
 refine Fin.ah ⟨[(2,_)],[]⟩ rfl (Fin.ay [.one (.int .u32 1)] (.inl rfl) rfl (.cons (.tmp rfl) .nil) ⟨rfl,rfl⟩)
def j5 (F:Nat) (st:Int) (se:Int) (c3:CP) (c4:CP):Option Unit :=
 some ()
theorem mS {F:Nat} {st:Int} {se:Int} {c3:CP} {c4:CP} {r:Unit} (h:j5 F st se c3 c4 = some r):ax Tryz.prog (bh mx) 150 [(1,.box 159 [.int .u32 0,.int .i32 st,.int .u32 se,c3,c4])] [.ptr 1 0] (Is [(1,.box 159 [.int .u32 0,.int .i32 st,.int .u32 se,c3,c4])] (.b (.one (.bool false)))):=by
 unfold j5 at h
 refine ax.intro 8 Tryz.func150 Tryz.ntmps150 rfl (by simp) fun E=>?_
 show ab _ E ⟨8,[1],[1],[]⟩ _ ⟨[(0,Pt 1 0)],[(1,.box 159 [.int .u32 0,.int .i32 st,.int .u32 se,c3,c4])]⟩ _
 refine ab.seq (ab.aa ?_)
 refine Oc oa (ae.aj ⟨[(0,Pt 1 0)],[(1,.box 159 [.int .u32 0,.int .i32 st,.int .u32 se,c3,c4])]⟩ rfl (ab.seq (ab.aa ?_)))
 refine Oc om (Oc (ar rfl) (Oc (af ux rfl rfl) (Oc (DE ext171 rfl rfl rfl) (Oc (dU rfl rfl) (Oc oa ?_)))))
 refine ae.aj ⟨[(2,B false)],[(1,_)]⟩ rfl (ab.ret ?_)
 obtain rfl:=Option.some.inj h
 refine Fin.ah ⟨[(2,_)],[(1,_)]⟩ rfl ?_
 exact Fin.result [.one (.bool false)] (.inl rfl) rfl (.cons (.tmp rfl) .nil) ⟨rfl,rfl⟩
def oR (F:Nat) (d:Int) (st:Int) (se:Int) (c3:CP) (c4:CP):Option Unit :=
 (nT F).bind fun u_1=>some ()
theorem qy {F:Nat} {d:Int} {st:Int} {se:Int} {c3:CP} {c4:CP} {r:Unit} (h:oR F d st se c3 c4 = some r):qk Tryz.prog (bh mx) 174 [(1,.box 159 [.int .u32 d,.int .i32 st,.int .u32 se,c3,c4])] [.ptr 1 0,.one (.bool true)] [(1,.box 159 [.int .u32 1,.int .i32 st,.int .u32 se,c3,c4])]:=by
 unfold oR at h
 refine qk.intro 10 Tryz.func174 Tryz.ntmps174 rfl (by simp) fun E=>?_
 show ab _ E ⟨10,[1],[1],[]⟩ _ ⟨[(0,Pt 1 0),(1,B true)],[(1,.box 159 [.int .u32 d,.int .i32 st,.int .u32 se,c3,c4])]⟩ _
 refine ab.ah ⟨[(0,Pt 1 0),(1,B true)],[(1,.box 159 [.int .u32 d,.int .i32 st,.int .u32 se,c3,c4])]⟩ rfl ?_
 obtain ⟨u_1,e1,h⟩:=aO h
 refine ab.k7 mixed 5 [Pt 1 0,Pt 1 0,Pt 1 0,B true,.b (.one (.int .u32 1))] [] [1] (s':=⟨[],[(1,.box 159 [.int .u32 1,.int .i32 st,.int .u32 se,c3,c4])]⟩) rfl ⟨fun _=>.p om,fun _=>.p (ar rfl),fun _=>.p (af ux rfl rfl),fun _=>.p om,fun _=>.p (ag (s9 e1) goes185 rfl rfl),trivial⟩ ⟨_,by exact .p (Bt ext184 rfl rfl rfl rfl rfl),rfl⟩ rfl ?_
 obtain rfl:=Option.some.inj h
 refine Fin.ah ⟨[],[(1,_)]⟩ rfl ?_
 exact Fin.result [] (.inr rfl) rfl (.nil) ⟨rfl,rfl⟩
def nQ (F:Nat) (d:Int) (se:Int) (c3:CP) (c4:CP):Option Unit :=
 Option.bind (some ()) (fun _=>some ())
theorem s8 {F:Nat} {d:Int} {se:Int} {c3:CP} {c4:CP} {r:Unit} (h:nQ F d se c3 c4 = some r):ax Tryz.prog (bh mx) 182 [(1,.box 159 [.int .u32 d,.int .i32 0,.int .u32 se,c3,c4])] [.ptr 1 1] (Is [(1,.box 159 [.int .u32 d,.int .i32 1,.int .u32 se,c3,c4])] (.fG [])):=by
 unfold nQ at h
 refine ax.intro 13 Tryz.func182 Tryz.ntmps182 rfl (by simp) fun E=>?_
 show ab _ E ⟨13,[1],[1],[]⟩ _ ⟨[(0,Pt 1 1)],[(1,.box 159 [.int .u32 d,.int .i32 0,.int .u32 se,c3,c4])]⟩ _
 refine ab.seq (ab.aa ?_)
 refine Oc (qZ C0) (ae.aj ⟨[(0,Pt 1 1)],[(1,.box 159 [.int .u32 d,.int .i32 0,.int .u32 se,c3,c4])]⟩ rfl (ab.seq (ab.seq (ab.aa ?_))))
 refine Oc om (Oc (ar rfl) (Oc (af qp rfl rfl) (Oc (op_cas ext190 rfl rfl rfl rfl rfl rfl) ?_)))
 refine ae.aj ⟨[(0,_),(6,B true)],[(1,.box 159 [.int .u32 d,.int .i32 1,.int .u32 se,c3,c4])]⟩ rfl (ab.lL rfl ?_)
 obtain ⟨v1,h2,h⟩:=aO h
 refine ab.cN (v:=v1) (fun (_:Unit)=>⟨[],[(1,.box 159 [.int .u32 d,.int .i32 1,.int .u32 se,c3,c4])]⟩) (fun z=>z) ?_ ?_
 ·refine ab.Da (ab.seq (ab.aa ?_))
  refine Oc (qZ CZ) (ae.aj ⟨[(0,_)],[(1,_)]⟩ rfl (ab.aa (Oc om (Oc (vz Tryz.underlying233 Tryz.underlying192 (by kernel_rfl) rfl rfl rfl) (Oc (vA ext192 rfl) ?_)))))
  refine ae.nil ?_
  exact Fin.join [] [1] () (Option.some.inj h2) rfl
 ·rintro _ hv
  subst v1
  refine ab.ret (Fin.aI ?_)
  obtain rfl:=Option.some.inj h
  refine Fin.ah ⟨[],[(1,_)]⟩ rfl ?_
  exact Fin.result [] (.inl rfl) rfl (.nil) ⟨rfl,rfl⟩
def oF (F:Nat) (d:Int) (se:Int) (c3:CP) (c4:CP):Option Unit :=
 (nQ F d se c3 c4).bind fun u_1=>some ()
theorem uT {F:Nat} {d:Int} {se:Int} {c3:CP} {c4:CP} {r:Unit} (h:oF F d se c3 c4 = some r):ax Tryz.prog (bh mx) 172 [(1,.box 159 [.int .u32 d,.int .i32 0,.int .u32 se,c3,c4])] [.ptr 1 1] (Is [(1,.box 159 [.int .u32 d,.int .i32 1,.int .u32 se,c3,c4])] (.fG [])):=by
 unfold oF at h
 refine ax.intro 6 Tryz.func172 Tryz.ntmps172 rfl (by simp) fun E=>?_
 show ab _ E ⟨6,[1],[1],[]⟩ _ ⟨[(0,Pt 1 1)],[(1,.box 159 [.int .u32 d,.int .i32 0,.int .u32 se,c3,c4])]⟩ _
 refine ab.aa (Oc om (Oc (ar rfl) (Oc (af uw rfl rfl) ?_)))
 obtain ⟨u_1,e1,h⟩:=aO h
 refine Oc (cz (own_a:=[(1,_)]) (s8 e1) goes182 rfl ⟨rfl,trivial⟩ rfl rfl) (ae.nil ?_)
 obtain rfl:=Option.some.inj h
 refine Fin.ah ⟨[],[(1,.box 159 [.int .u32 d,.int .i32 1,.int .u32 se,c3,c4])]⟩ rfl ?_
 exact Fin.result [] (.inr rfl) rfl (.nil) ⟨rfl,rfl⟩
def lv (F:Nat) (d:Int) (se:Int) (c3:CP) (c4:CP):Option Unit :=
 Option.bind (some ()) (fun _=>Option.bind (some ()) (fun _=>some ()))
theorem rE {F:Nat} {d:Int} {se:Int} {c3:CP} {c4:CP} {r:Unit} (h:lv F d se c3 c4 = some r):ax Tryz.prog (bh mx) 183 [(1,.box 159 [.int .u32 d,.int .i32 1,.int .u32 se,c3,c4])] [.ptr 1 1] (Is [(1,.box 159 [.int .u32 d,.int .i32 0,.int .u32 se,c3,c4])] (.fG [])):=by
 unfold lv at h
 refine ax.intro 21 Tryz.func183 Tryz.ntmps183 rfl (by simp) fun E=>?_
 show ab _ E ⟨21,[1],[1],[]⟩ _ ⟨[(0,Pt 1 1)],[(1,.box 159 [.int .u32 d,.int .i32 1,.int .u32 se,c3,c4])]⟩ _
 obtain ⟨v1,h2,h⟩:=aO h
 refine ab.cN (v:=v1) (fun (_:Unit)=>⟨[(0,Pt 1 1)],[(1,.box 159 [.int .u32 d,.int .i32 1,.int .u32 se,c3,c4])]⟩) (fun z=>z) ?_ ?_
 ·refine ab.Da (ab.seq (ab.aa ?_))
  refine Oc om (Oc (ar rfl) (Oc (af qp rfl rfl) (Oc (aq tyOne21 rfl rfl rfl) ?_)))
  refine ae.aj ⟨[(0,Pt 1 1)],[(1,.box 159 [.int .u32 d,.int .i32 1,.int .u32 se,c3,c4])]⟩ rfl (ab.seq (ab.aa ?_))
  refine Oc om (Oc (vz Tryz.underlying233 Tryz.underlying192 (by kernel_rfl) rfl rfl rfl) (Oc (vA ext194 rfl) ?_))
  refine ae.aj ⟨[(0,_)],[(1,_)]⟩ rfl (ab.aa (Oc (qZ C0) (ae.nil ?_)))
  exact Fin.join [0] [1] () (Option.some.inj h2) rfl
 ·rintro _ hv
  subst v1
  refine ab.seq (ab.aa ?_)
  refine Oc om (Oc (ar rfl) (Oc (af qp rfl rfl) (Oc (op_aadd ext195 rfl rfl rfl rfl (r:=0) rfl ⟨by decide,by decide⟩ rfl) (Oc oa ?_))))
  refine ae.aj ⟨[(0,_),(2,.b (.one (.int .i32 0)))],[(1,.box 159 [.int .u32 d,.int .i32 0,.int .u32 se,c3,c4])]⟩ rfl ?_
  obtain ⟨v3,h4,h⟩:=aO h
  refine ab.cN (v:=v3) (fun (_:Unit)=>⟨[],[(1,.box 159 [.int .u32 d,.int .i32 0,.int .u32 se,c3,c4])]⟩) (fun z=>z) ?_ ?_
  ·refine ab.seq (ab.aa ?_)
   refine Oc om (Oc (dU rfl rfl) ?_)
   refine ae.aj ⟨[(0,_),(2,_),(16,B false)],[(1,_)]⟩ rfl (ab.sH rfl (ab.skip ?_))
   exact Fin.join [] [1] () (Option.some.inj h4) rfl
  ·rintro _ hv
   subst v3
   refine ab.aa (Oc (qZ CZ) (ae.nil ?_))
   obtain rfl:=Option.some.inj h
   refine Fin.ah ⟨[],[(1,_)]⟩ rfl ?_
   exact Fin.result [] (.inr rfl) rfl (.nil) ⟨rfl,rfl⟩
def pU (F:Nat) (d:Int) (se:Int) (c3:CP) (c4:CP):Option Unit :=
 (lv F d se c3 c4).bind fun u_1=>some ()
theorem rC {F:Nat} {d:Int} {se:Int} {c3:CP} {c4:CP} {r:Unit} (h:pU F d se c3 c4 = some r):qk Tryz.prog (bh mx) 173 [(1,.box 159 [.int .u32 d,.int .i32 1,.int .u32 se,c3,c4])] [.ptr 1 1] [(1,.box 159 [.int .u32 d,.int .i32 0,.int .u32 se,c3,c4])]:=by
 unfold pU at h
 refine qk.intro 6 Tryz.func173 Tryz.ntmps173 rfl (by simp) fun E=>?_
 show ab _ E ⟨6,[1],[1],[]⟩ _ ⟨[(0,Pt 1 1)],[(1,.box 159 [.int .u32 d,.int .i32 1,.int .u32 se,c3,c4])]⟩ _
 refine ab.aa (Oc om (Oc (ar rfl) (Oc (af uw rfl rfl) ?_)))
 obtain ⟨u_1,e1,h⟩:=aO h
 refine Oc (cz (own_a:=[(1,_)]) (rE e1) goes183 rfl ⟨rfl,trivial⟩ rfl rfl) (ae.nil ?_)
 obtain rfl:=Option.some.inj h
 refine Fin.ah ⟨[],[(1,.box 159 [.int .u32 d,.int .i32 0,.int .u32 se,c3,c4])]⟩ rfl ?_
 exact Fin.result [] (.inr rfl) rfl (.nil) ⟨rfl,rfl⟩
def jS (F:Nat) (se:Int):Option Unit :=
 Option.bind (Option.bind (some ()) (fun _=>Option.bind (some ()) (fun _=>some ()))) (fun _=>Option.bind (some ()) (fun _=>Option.bind (Option.bind (Option.bind (some ()) (fun _=>some ())) (fun _=>Option.bind (Option.bind (some ()) (fun _=>some ())) (fun _=>some ()))) (fun _=>some ())))
theorem pM {F:Nat} {se:Int} {r:Unit} (h:jS F se = some r):ax Tryz.prog (bh mx) 152 [(1,.box 159 [.int .u32 0,.int .i32 1,.int .u32 se,.raw .nilIface,.sl 1 ([[92],[92,92],[34],[92,34]].map eS)])] [.ptr 1 0] (Is [(1,.box 159 [.int .u32 0,.int .i32 1,.int .u32 se,.raw .nilIface,.sl 1 ([[92],[92,92],[34],[92,34]].map eS)])] (.b (.one (.vS 212 (eO cA [.sl 1 ([toStr [34],toStr [92]].map eS)]))))):=by
 unfold jS at h
 refine ax.intro 132 Tryz.func152 Tryz.ntmps152 rfl (by simp) fun E=>?_
 show ab _ E ⟨132,[1],[1],[]⟩ _ ⟨[(0,Pt 1 0)],[(1,.box 159 [.int .u32 0,.int .i32 1,.int .u32 se,.raw .nilIface,.sl 1 ([[92],[92,92],[34],[92,34]].map eS)])]⟩ _
 refine ab.seq (ab.aa ?_)
 refine Oc (Dy) (ae.aj ⟨[(0,Pt 1 0)],[(1,.box 159 [.int .u32 0,.int .i32 1,.int .u32 se,.raw .nilIface,.sl 1 ([[92],[92,92],[34],[92,34]].map eS)])]⟩ rfl (ab.seq (ab.aa ?_)))
 refine Oc om (Oc (ar rfl) (Oc (af ur rfl rfl) (Oc (aq lN rfl rfl rfl) (Oc oa ?_))))
 refine ae.aj ⟨[(3,.b (.one (.sl 1 ([[92],[92,92],[34],[92,34]].map eS))))],[(1,_)]⟩ rfl (ab.seq (ab.seq (ab.aa ?_)))
 refine Oc om (Oc (cm n3 rfl (List.length_map _)) (Oc (c9 rfl rfl) (Oc om ?_)))
 refine dE false [] (fun g1=>trivial) (fun g1=>om) (dE false [23] (fun g2=>by exact ⟨g2,trivial⟩) (fun g2=>bK dT (bb (show aZ [[92],[92,92],[34],[92,34]] 0 = some [92] from rfl)) (dH (e:=eS) (show aZ [[92],[92,92],[34],[92,34]] 0 = some [92] from rfl)) rfl rfl) (ae.ah ⟨[(3,_),(22,B false),(24,.opt false (.cW [.str [92]]))],[(1,_)]⟩ rfl (dE false [24] (fun g3=>by exact ⟨g3,trivial⟩) (fun g3=>bm cG rfl rfl) (dE false [25] (fun g4=>by exact ⟨g4,trivial⟩) (fun g4=>bS du rfl) (dE false [26] (fun g5=>by exact ⟨g5,trivial⟩) (fun g5=>fJ rfl rfl) ?_)))))
 refine Oc (aJ (fun e=>e) rfl rfl rfl rfl) (ae.aj ⟨[(3,_),(28,B false)],[(1,_)]⟩ rfl (ab.sH rfl (ab.skip (Fin.ah ⟨[(3,_)],[(1,_)]⟩ rfl (Fin.then (ab.seq (ab.aa ?_)))))))
 refine Oc oa (ae.aj ⟨[(3,_),(4,B true)],[(1,_)]⟩ rfl ?_)
 obtain ⟨v6,h7,h⟩:=aO h
 refine ab.cN (v:=v6) (fun (_:Unit)=>⟨[(3,.b (.one (.sl 1 ([[92],[92,92],[34],[92,34]].map eS)))),(4,B false)],[(1,.box 159 [.int .u32 0,.int .i32 1,.int .u32 se,.raw .nilIface,.sl 1 ([[92],[92,92],[34],[92,34]].map eS)])]⟩) (fun z=>z) ?_ ?_
 ·refine ab.seq (ab.aa ?_)
  refine Oc oa (ae.aj ⟨[(3,_),(4,_),(5,I 0)],[(1,_)]⟩ rfl (ab.block (ab.loopN 12 (ab.seq (ab.seq (ab.aa ?_))))))
  refine Oc om (Oc om (Oc (cm n3 rfl (List.length_map _)) (Oc (b7 rfl rfl) ?_)))
  refine ae.aj ⟨[(3,_),(4,_),(5,_),(40,B true)],[(1,_)]⟩ rfl (ab.lL rfl (ab.skip (Fin.ah ⟨[(3,_),(4,_),(5,_)],[(1,_)]⟩ rfl (Fin.then ?_))))
  obtain ⟨v8,h9,h7⟩:=aO h7
  refine ab.cN (v:=v8) (fun (_:Unit)=>⟨[(3,.b (.one (.sl 1 ([[92],[92,92],[34],[92,34]].map eS)))),(4,B false),(5,I 0)],[(1,.box 159 [.int .u32 0,.int .i32 1,.int .u32 se,.raw .nilIface,.sl 1 ([[92],[92,92],[34],[92,34]].map eS)])]⟩) (fun z=>z) ?_ ?_
  ·refine ab.block (ab.seq (ab.seq (ab.aa ?_)))
   refine Oc om (Oc om (Oc (bK dT (bb (show aZ [[92],[92,92],[34],[92,34]] 0 = some [92] from rfl)) (dH (e:=eS) (show aZ [[92],[92,92],[34],[92,34]] 0 = some [92] from rfl)) rfl rfl) (Oc (bm cG rfl rfl) (Oc (bS du rfl) (Oc (dU rfl rfl) ?_)))))
   refine ae.aj ⟨[(3,_),(4,_),(5,_),(48,B false)],[(1,_)]⟩ rfl (ab.sH rfl (ab.skip (Fin.ah ⟨[(3,_),(4,_),(5,_)],[(1,_)]⟩ rfl (Fin.then (ab.seq (ab.aa ?_))))))
   refine Oc om (Oc om (Oc (aW rfl rfl) (Oc (bK dT (bb (show aZ [[92],[92,92],[34],[92,34]] 1 = some [92,92] from rfl)) (dH (e:=eS) (show aZ [[92],[92,92],[34],[92,34]] 1 = some [92,92] from rfl)) rfl rfl) (Oc (bm cG rfl rfl) (Oc (bS du rfl) ?_)))))
   refine Oc (dU rfl rfl) (ae.aj ⟨[(3,_),(4,_),(5,_),(58,B true)],[(1,_)]⟩ rfl (ab.lL rfl (ab.aa (Oc oa (ae.nil ?_)))))
   refine Fin.aC ?_
   exact Fin.join [3,4,5] [1] () (Option.some.inj h9) rfl
  ·rintro _ hv
   subst v8
   refine ab.aa (Oc om (Oc (aW rfl rfl) (Oc oa ?_)))
   refine ae.nil (Fin.ah ⟨[(3,_),(4,_),(5,I 2)],[(1,_)]⟩ rfl (Fin.round (ab.seq (ab.seq (ab.aa ?_)))))
   refine Oc om (Oc om (Oc (cm n3 rfl (List.length_map _)) (Oc (b7 rfl rfl) ?_)))
   refine ae.aj ⟨[(3,_),(4,_),(5,_),(40,B true)],[(1,_)]⟩ rfl (ab.lL rfl (ab.skip (Fin.ah ⟨[(3,_),(4,_),(5,_)],[(1,_)]⟩ rfl (Fin.then ?_))))
   obtain ⟨v10,h11,h7⟩:=aO h7
   refine ab.cN (v:=v10) (fun (_:Unit)=>⟨[(3,.b (.one (.sl 1 ([[92],[92,92],[34],[92,34]].map eS)))),(4,B false),(5,I 2)],[(1,.box 159 [.int .u32 0,.int .i32 1,.int .u32 se,.raw .nilIface,.sl 1 ([[92],[92,92],[34],[92,34]].map eS)])]⟩) (fun z=>z) ?_ ?_
   ·refine ab.block (ab.seq (ab.seq (ab.aa ?_)))
    refine Oc om (Oc om (Oc (bK dT (bb (show aZ [[92],[92,92],[34],[92,34]] 2 = some [34] from rfl)) (dH (e:=eS) (show aZ [[92],[92,92],[34],[92,34]] 2 = some [34] from rfl)) rfl rfl) (Oc (bm cG rfl rfl) (Oc (bS du rfl) (Oc (dU rfl rfl) ?_)))))
    refine ae.aj ⟨[(3,_),(4,_),(5,_),(48,B false)],[(1,_)]⟩ rfl (ab.sH rfl (ab.skip (Fin.ah ⟨[(3,_),(4,_),(5,_)],[(1,_)]⟩ rfl (Fin.then (ab.seq (ab.aa ?_))))))
    refine Oc om (Oc om (Oc (aW rfl rfl) (Oc (bK dT (bb (show aZ [[92],[92,92],[34],[92,34]] 3 = some [92,34] from rfl)) (dH (e:=eS) (show aZ [[92],[92,92],[34],[92,34]] 3 = some [92,34] from rfl)) rfl rfl) (Oc (bm cG rfl rfl) (Oc (bS du rfl) ?_)))))
    refine Oc (dU rfl rfl) (ae.aj ⟨[(3,_),(4,_),(5,_),(58,B true)],[(1,_)]⟩ rfl (ab.lL rfl (ab.aa (Oc oa (ae.nil ?_)))))
    refine Fin.aC ?_
    exact Fin.join [3,4,5] [1] () (Option.some.inj h11) rfl
   ·rintro _ hv
    subst v10
    refine ab.aa (Oc om (Oc (aW rfl rfl) (Oc oa ?_)))
    refine ae.nil (Fin.ah ⟨[(3,_),(4,_),(5,I 4)],[(1,_)]⟩ rfl (Fin.round (ab.seq (ab.seq (ab.aa ?_)))))
    refine Oc om (Oc om (Oc (cm n3 rfl (List.length_map _)) (Oc (b7 rfl rfl) ?_)))
    refine ae.aj ⟨[(3,_),(4,_),(5,_),(40,B false)],[(1,_)]⟩ rfl (ab.sH rfl (ab.exit (Fin.aB (Fin.aB (Fin.aU ?_)))))
    exact Fin.join [3,4] [1] () (Option.some.inj h7) rfl
 ·rintro _ hv
  subst v6
  obtain ⟨v12,h13,h⟩:=aO h
  refine ab.cN (v:=v12) (fun (_:Unit)=>⟨[(3,.b (.one (.sl 1 ([[92],[92,92],[34],[92,34]].map eS))))],[(1,.box 159 [.int .u32 0,.int .i32 1,.int .u32 se,.raw .nilIface,.sl 1 ([[92],[92,92],[34],[92,34]].map eS)])]⟩) (fun z=>z) ?_ ?_
  ·refine ab.seq (ab.aa ?_)
   refine Oc om (ae.aj ⟨[(3,_),(59,B false)],[(1,_)]⟩ rfl (ab.sH rfl (ab.skip ?_)))
   exact Fin.join [3] [1] () (Option.some.inj h13) rfl
  ·rintro _ hv
   subst v12
   refine ab.seq (ab.aa ?_)
   refine Oc om (Oc (cm n3 rfl (List.length_map _)) (Oc (qM (show tA .i64 4 2 = some 2 from rfl) rfl rfl) (Oc (ru (k:=101) (enc:=eS) dT (show mk? ([]:Str) 0 2 = some [] from rfl) (by decide) (.cons .refl .nil) rfl rfl rfl) (Oc (zy zk rfl rfl) (Oc (aA (k:=102) AW rfl) ?_)))))
   refine ae.BX 102 rfl (Oc (sO Dl rfl rfl rfl rfl rfl (Nat.le_of_ble_eq_true rfl) rfl) (ae.aj ⟨[(3,.b (.one (.sl 1 ([[92],[92,92],[34],[92,34]].map eS)))),(11,Pt 102 0)],[(1,.box 159 [.int .u32 0,.int .i32 1,.int .u32 se,.raw .nilIface,.sl 1 ([[92],[92,92],[34],[92,34]].map eS)]),(101,.row 9 1 ([].map eS)),(102,.bq 211 (List.replicate 256 (BV.one CP.nil) ++ [.row 101]))]⟩ rfl ?_))
   obtain ⟨v14,h15,h⟩:=aO h
   refine ab.cN (v:=v14) (fun (_:Unit)=>⟨[(11,Pt 102 0)],[(1,.box 159 [.int .u32 0,.int .i32 1,.int .u32 se,.raw .nilIface,.sl 1 ([[92],[92,92],[34],[92,34]].map eS)]),(101,.row 9 1 ([toStr [34],toStr [92]].map eS)),(102,.bq 211 (((List.replicate 256 (BV.one CP.nil)).set 34 (.one (.sl 1 ((ofStr [92,34]).map (eK .u8))))).set 92 (.one (.sl 1 ((ofStr [92,92]).map (eK .u8)))) ++ [.row 101]))]⟩) (fun z=>z) ?_ ?_
   ·refine ab.seq (ab.aa ?_)
    refine Oc om (Oc (cm n3 rfl (List.length_map _)) (Oc (cR rfl rfl) (Oc oa ?_)))
    refine ae.aj ⟨[(3,_),(11,_),(12,I 2)],[(1,_),(101,_),(102,_)]⟩ rfl (ab.block (ab.loopN 12 (ab.seq (ab.seq (ab.aa ?_)))))
    refine Oc om (Oc (jc rfl rfl) ?_)
    refine ae.aj ⟨[(3,_),(11,_),(12,_),(100,B true)],[(1,_),(101,_),(102,_)]⟩ rfl (ab.lL rfl (ab.skip (Fin.ah ⟨[(3,_),(11,_),(12,_)],[(1,_),(101,_),(102,_)]⟩ rfl (Fin.then ?_))))
    obtain ⟨v16,h17,h15⟩:=aO h15
    refine ab.cN (v:=v16) (fun (_:Unit)=>⟨[(3,.b (.one (.sl 1 ([[92],[92,92],[34],[92,34]].map eS)))),(11,Pt 102 0),(12,I 2)],[(1,.box 159 [.int .u32 0,.int .i32 1,.int .u32 se,.raw .nilIface,.sl 1 ([[92],[92,92],[34],[92,34]].map eS)]),(101,.row 9 1 ([toStr [34]].map eS)),(102,.bq 211 ((List.replicate 256 (BV.one CP.nil)).set 34 (.one (.sl 1 ((ofStr [92,34]).map (eK .u8)))) ++ [.row 101]))]⟩) (fun z=>z) ?_ ?_
    ·refine ab.block (ab.seq (ab.aa ?_))
     refine Oc om (Oc om (Oc (bK dT (bb (show aZ [[92],[92,92],[34],[92,34]] 2 = some [34] from rfl)) (dH (e:=eS) (show aZ [[92],[92,92],[34],[92,34]] 2 = some [34] from rfl)) rfl rfl) (Oc (bm cG rfl rfl) (Oc (b8 du rfl rfl (bb (show aZ ([34]:Str) 0 = some 34 from rfl)) (fK (show aZ ([34]:Str) 0 = some 34 from rfl))) (Oc oa ?_)))))
     refine ae.aj ⟨[(3,_),(11,_),(12,_),(13,.b (.one (.int .u8 34)))],[(1,_),(101,_),(102,_)]⟩ rfl (ab.seq (ab.aa ?_))
     refine Oc om (Oc om (Oc (aW rfl rfl) (Oc (bK dT (bb (show aZ [[92],[92,92],[34],[92,34]] 3 = some [92,34] from rfl)) (dH (e:=eS) (show aZ [[92],[92,92],[34],[92,34]] 3 = some [92,34] from rfl)) rfl rfl) (Oc (bm cG rfl rfl) (Oc oa ?_)))))
     refine ae.aj ⟨[(3,_),(11,_),(12,_),(13,_),(14,.b (.one (.str [92,34])))],[(1,_),(101,_),(102,_)]⟩ rfl ?_
     obtain ⟨v18,h19,h17⟩:=aO h17
     refine ab.cN (v:=v18) (fun (_:Unit)=>⟨[(3,.b (.one (.sl 1 ([[92],[92,92],[34],[92,34]].map eS)))),(11,Pt 102 0),(12,I 2),(13,.b (.one (.int .u8 34))),(14,.b (.one (.str [92,34])))],[(1,.box 159 [.int .u32 0,.int .i32 1,.int .u32 se,.raw .nilIface,.sl 1 ([[92],[92,92],[34],[92,34]].map eS)]),(101,.row 9 1 ([toStr [34]].map eS)),(102,.bq 211 (List.replicate 256 (BV.one CP.nil) ++ [.row 101]))]⟩) (fun z=>z) ?_ ?_
     ·refine ab.seq (ab.aa ?_)
      refine Oc om (Oc (af fQ rfl rfl) (Oc (aN jj (by decide) (by decide) rfl rfl rfl) (Oc (cY kI rfl rfl rfl) (Oc (uJ jy rfl) ?_))))
      refine ae.aj ⟨[(3,_),(11,_),(12,_),(13,_),(14,_),(117,B true)],[(1,_),(101,_),(102,_)]⟩ rfl (ab.lL rfl (ab.aa (Oc (af jK rfl rfl) (Oc (cY lN rfl rfl rfl) (Oc om (Oc (bp (k:=103) (es:=[34].map (eK .u8)) kW rfl rfl (cZ fun _=>rfl) rfl (by decide) (by decide) rfl) ?_))))))
      refine ae.dV 103 rfl (ae.ah ⟨[(3,.b (.one (.sl 1 ([[92],[92,92],[34],[92,34]].map eS)))),(11,Pt 102 0),(12,I 2),(13,.b (.one (.int .u8 34))),(14,.b (.one (.str [92,34]))),(119,.b (.row 101)),(121,.b (.one (.sl 1 ([34].map (eK .u8)))))],[(1,.box 159 [.int .u32 0,.int .i32 1,.int .u32 se,.raw .nilIface,.sl 1 ([[92],[92,92],[34],[92,34]].map eS)]),(101,.row 9 1 ([].map eS)),(102,.bq 211 (List.replicate 256 (BV.one CP.nil) ++ [.row 101]))]⟩ rfl (Oc (iE jy mn du rfl) (Oc (bp (k:=104) (es:=[toStr [34]].map eS) dT rfl rfl (cZ fun _=>rfl) rfl (by decide) (by decide) rfl) ?_)))
      refine ae.forget 102 256 rfl (Oc (fF dT (sJ (show iZ [] [toStr [34]] = some [toStr [34]] from rfl)) (sI (show iZ [] [toStr [34]] = some [toStr [34]] from rfl)) rfl rfl rfl rfl (lP (show iZ [] [toStr [34]] = some [toStr [34]] from rfl)) rfl) (Oc (af jK rfl rfl) (Oc (ef lN rfl rfl rfl rfl (Nat.le_of_ble_eq_true rfl) rfl) ?_)))
      refine ae.nil ?_
      exact Fin.join [3,11,12,13,14] [1,101,102] () (Option.some.inj h19) rfl
     ·rintro _ hv
      subst v18
      refine ab.aa (Oc om (Oc om (Oc (lW du jy mn rfl) (Oc (af fQ rfl rfl) (Oc (aN jj (by decide) (by decide) rfl rfl rfl) (Oc (ef kI rfl rfl rfl rfl (Nat.le_of_ble_eq_true rfl) rfl) ?_))))))
      refine ae.nil (Fin.aC ?_)
      exact Fin.join [3,11,12] [1,101,102] () (Option.some.inj h17) rfl
    ·rintro _ hv
     subst v16
     refine ab.aa (Oc om (Oc (cR rfl rfl) (Oc oa ?_)))
     refine ae.nil (Fin.ah ⟨[(3,_),(11,_),(12,I 0)],[(1,_),(101,_),(102,_)]⟩ rfl (Fin.round (ab.seq (ab.seq (ab.aa ?_)))))
     refine Oc om (Oc (jc rfl rfl) ?_)
     refine ae.aj ⟨[(3,_),(11,_),(12,_),(100,B true)],[(1,_),(101,_),(102,_)]⟩ rfl (ab.lL rfl (ab.skip (Fin.ah ⟨[(3,_),(11,_),(12,_)],[(1,_),(101,_),(102,_)]⟩ rfl (Fin.then ?_))))
     obtain ⟨v20,h21,h15⟩:=aO h15
     refine ab.cN (v:=v20) (fun (_:Unit)=>⟨[(3,.b (.one (.sl 1 ([[92],[92,92],[34],[92,34]].map eS)))),(11,Pt 102 0),(12,I 0)],[(1,.box 159 [.int .u32 0,.int .i32 1,.int .u32 se,.raw .nilIface,.sl 1 ([[92],[92,92],[34],[92,34]].map eS)]),(101,.row 9 1 ([toStr [34],toStr [92]].map eS)),(102,.bq 211 (((List.replicate 256 (BV.one CP.nil)).set 34 (.one (.sl 1 ((ofStr [92,34]).map (eK .u8))))).set 92 (.one (.sl 1 ((ofStr [92,92]).map (eK .u8)))) ++ [.row 101]))]⟩) (fun z=>z) ?_ ?_
     ·refine ab.block (ab.seq (ab.aa ?_))
      refine Oc om (Oc om (Oc (bK dT (bb (show aZ [[92],[92,92],[34],[92,34]] 0 = some [92] from rfl)) (dH (e:=eS) (show aZ [[92],[92,92],[34],[92,34]] 0 = some [92] from rfl)) rfl rfl) (Oc (bm cG rfl rfl) (Oc (b8 du rfl rfl (bb (show aZ ([92]:Str) 0 = some 92 from rfl)) (fK (show aZ ([92]:Str) 0 = some 92 from rfl))) (Oc oa ?_)))))
      refine ae.aj ⟨[(3,_),(11,_),(12,_),(13,.b (.one (.int .u8 92)))],[(1,_),(101,_),(102,_)]⟩ rfl (ab.seq (ab.aa ?_))
      refine Oc om (Oc om (Oc (aW rfl rfl) (Oc (bK dT (bb (show aZ [[92],[92,92],[34],[92,34]] 1 = some [92,92] from rfl)) (dH (e:=eS) (show aZ [[92],[92,92],[34],[92,34]] 1 = some [92,92] from rfl)) rfl rfl) (Oc (bm cG rfl rfl) (Oc oa ?_)))))
      refine ae.aj ⟨[(3,_),(11,_),(12,_),(13,_),(14,.b (.one (.str [92,92])))],[(1,_),(101,_),(102,_)]⟩ rfl ?_
      obtain ⟨v22,h23,h21⟩:=aO h21
      refine ab.cN (v:=v22) (fun (_:Unit)=>⟨[(3,.b (.one (.sl 1 ([[92],[92,92],[34],[92,34]].map eS)))),(11,Pt 102 0),(12,I 0),(13,.b (.one (.int .u8 92))),(14,.b (.one (.str [92,92])))],[(1,.box 159 [.int .u32 0,.int .i32 1,.int .u32 se,.raw .nilIface,.sl 1 ([[92],[92,92],[34],[92,34]].map eS)]),(101,.row 9 1 ([toStr [34],toStr [92]].map eS)),(102,.bq 211 ((List.replicate 256 (BV.one CP.nil)).set 34 (.one (.sl 1 ((ofStr [92,34]).map (eK .u8)))) ++ [.row 101]))]⟩) (fun z=>z) ?_ ?_
      ·refine ab.seq (ab.aa ?_)
       refine Oc om (Oc (af fQ rfl rfl) (Oc (aN jj (by decide) (by decide) rfl rfl rfl) (Oc (cY kI rfl rfl rfl) (Oc (uJ jy rfl) ?_))))
       refine ae.aj ⟨[(3,_),(11,_),(12,_),(13,_),(14,_),(117,B true)],[(1,_),(101,_),(102,_)]⟩ rfl (ab.lL rfl (ab.aa (Oc (af jK rfl rfl) (Oc (cY lN rfl rfl rfl) (Oc om (Oc (bp (k:=105) (es:=[92].map (eK .u8)) kW rfl rfl (cZ fun _=>rfl) rfl (by decide) (by decide) rfl) ?_))))))
       refine ae.dV 105 rfl (ae.ah ⟨[(3,.b (.one (.sl 1 ([[92],[92,92],[34],[92,34]].map eS)))),(11,Pt 102 0),(12,I 0),(13,.b (.one (.int .u8 92))),(14,.b (.one (.str [92,92]))),(119,.b (.row 101)),(121,.b (.one (.sl 1 ([92].map (eK .u8)))))],[(1,.box 159 [.int .u32 0,.int .i32 1,.int .u32 se,.raw .nilIface,.sl 1 ([[92],[92,92],[34],[92,34]].map eS)]),(101,.row 9 1 ([toStr [34]].map eS)),(102,.bq 211 ((List.replicate 256 (BV.one CP.nil)).set 34 (.one (.sl 1 ((ofStr [92,34]).map (eK .u8)))) ++ [.row 101]))]⟩ rfl (Oc (iE jy mn du rfl) (Oc (bp (k:=106) (es:=[toStr [92]].map eS) dT rfl rfl (cZ fun _=>rfl) rfl (by decide) (by decide) rfl) ?_)))
       refine ae.forget 102 256 rfl (Oc (fF dT (sJ (show iZ [toStr [34]] [toStr [92]] = some [toStr [34],toStr [92]] from rfl)) (sI (show iZ [toStr [34]] [toStr [92]] = some [toStr [34],toStr [92]] from rfl)) rfl rfl rfl rfl (lP (show iZ [toStr [34]] [toStr [92]] = some [toStr [34],toStr [92]] from rfl)) rfl) (Oc (af jK rfl rfl) (Oc (ef lN rfl rfl rfl rfl (Nat.le_of_ble_eq_true rfl) rfl) ?_)))
       refine ae.nil ?_
       exact Fin.join [3,11,12,13,14] [1,101,102] () (Option.some.inj h23) rfl
      ·rintro _ hv
       subst v22
       refine ab.aa (Oc om (Oc om (Oc (lW du jy mn rfl) (Oc (af fQ rfl rfl) (Oc (aN jj (by decide) (by decide) rfl rfl rfl) (Oc (ef kI rfl rfl rfl rfl (Nat.le_of_ble_eq_true rfl) rfl) ?_))))))
       refine ae.nil (Fin.aC ?_)
       exact Fin.join [3,11,12] [1,101,102] () (Option.some.inj h21) rfl
     ·rintro _ hv
      subst v20
      refine ab.aa (Oc om (Oc (cR rfl rfl) (Oc oa ?_)))
      refine ae.nil (Fin.ah ⟨[(3,_),(11,_),(12,I (-2))],[(1,_),(101,_),(102,_)]⟩ rfl (Fin.round (ab.seq (ab.seq (ab.aa ?_)))))
      refine Oc om (Oc (jc rfl rfl) ?_)
      refine ae.aj ⟨[(3,_),(11,_),(12,_),(100,B false)],[(1,_),(101,_),(102,_)]⟩ rfl (ab.sH rfl (ab.exit (Fin.aB (Fin.aB (Fin.aU ?_)))))
      exact Fin.join [11] [1,101,102] () (Option.some.inj h15) rfl
   ·rintro _ hv
    subst v14
    refine ab.seq (ab.aa ?_)
    refine ae.dV 101 rfl (ae.zK 102 rfl rfl (ae.k9 102 rfl (Oc ((zx conc212 rfl).weak (fun _ _ _ h=>tab_rel h)) (Oc oa ?_))))
    refine ae.aj ⟨[(2,.b (.one (.vS 212 (eO cA [.sl 1 ([toStr [34],toStr [92]].map eS)]))))],[(1,.box 159 [.int .u32 0,.int .i32 1,.int .u32 se,.raw .nilIface,.sl 1 ([[92],[92,92],[34],[92,34]].map eS)])]⟩ rfl (ab.ret ?_)
    obtain rfl:=Option.some.inj h
    refine Fin.ah ⟨[(2,_)],[(1,_)]⟩ rfl ?_
    exact Fin.result [.one (.vS 212 (eO cA [.sl 1 ([toStr [34],toStr [92]].map eS)]))] (.inl rfl) rfl (.cons (.tmp rfl) .nil) ⟨rfl,rfl⟩
def gP (F:Nat) (se:Int):Option Unit :=
 (jS F se).bind fun u_1=>some ()
theorem mW {F:Nat} {se:Int} {r:Unit} (h:gP F se = some r):ax Tryz.prog (bh mx) 118 [(1,.box 159 [.int .u32 0,.int .i32 1,.int .u32 se,.raw .nilIface,.sl 1 ([[92],[92,92],[34],[92,34]].map eS)])] [.ptr 1 0] (Is [(1,.box 159 [.int .u32 0,.int .i32 1,.int .u32 se,.vS 212 (eO cA [.sl 1 ([toStr [34],toStr [92]].map eS)]),.sl 1 ([].map eS)])] (.fG [])):=by
 unfold gP at h
 refine ax.intro 10 Tryz.func118 Tryz.ntmps118 rfl (by simp) fun E=>?_
 show ab _ E ⟨10,[1],[1],[]⟩ _ ⟨[(0,Pt 1 0)],[(1,.box 159 [.int .u32 0,.int .i32 1,.int .u32 se,.raw .nilIface,.sl 1 ([[92],[92,92],[34],[92,34]].map eS)])]⟩ _
 refine ab.seq (ab.aa ?_)
 refine Oc om (Oc om ?_)
 obtain ⟨u_1,e1,h⟩:=aO h
 refine Oc (cz (own_a:=[(1,_)]) (pM e1) goes152 rfl ⟨rfl,trivial⟩ rfl rfl) (Oc (ar rfl) (Oc (af uu rfl rfl) (Oc (bA xr rfl rfl rfl (Nat.le_of_ble_eq_true rfl) rfl) ?_)))
 refine ae.aj ⟨[(0,Pt 1 0)],[(1,.box 159 [.int .u32 0,.int .i32 1,.int .u32 se,.vS 212 (eO cA [.sl 1 ([toStr [34],toStr [92]].map eS)]),.sl 1 ([[92],[92,92],[34],[92,34]].map eS)])]⟩ rfl (ab.aa (Oc om (Oc (ar rfl) (Oc (af ur rfl rfl) (Oc (bA lN rfl rfl rfl (Nat.le_of_ble_eq_true rfl) rfl) ?_)))))
 refine ae.nil ?_
 obtain rfl:=Option.some.inj h
 refine Fin.ah ⟨[],[(1,.box 159 [.int .u32 0,.int .i32 1,.int .u32 se,.vS 212 (eO cA [.sl 1 ([toStr [34],toStr [92]].map eS)]),.nil])]⟩ rfl (Fin.ky 1 4 1 rfl rfl (by decide) (Fin.ah ⟨[],[(1,.box 159 [.int .u32 0,.int .i32 1,.int .u32 se,.vS 212 (eO cA [.sl 1 ([toStr [34],toStr [92]].map eS)]),.sl 1 ([].map eS)])]⟩ rfl ?_))
 exact Fin.result [] (.inr rfl) rfl (.nil) ⟨rfl,rfl⟩
def mg (F:Nat) (se:Int):Option Unit :=
 (oF F 0 se (.raw .nilIface) (.sl 1 ([[92],[92,92],[34],[92,34]].map eS))).bind fun u_1=>(j5 F 1 se (.raw .nilIface) (.sl 1 ([[92],[92,92],[34],[92,34]].map eS))).bind fun u_2=>(gP F se).bind fun u_3=>some ()
theorem sE {F:Nat} {se:Int} {r:Unit} (h:mg F se = some r):ax Tryz.prog (bh mx) 151 [(1,.box 159 [.int .u32 0,.int .i32 0,.int .u32 se,.raw .nilIface,.sl 1 ([[92],[92,92],[34],[92,34]].map eS)])] [.ptr 1 0,.dq 118 [.ptr 1 0] []] (Is [(1,.box 159 [.int .u32 1,.int .i32 0,.int .u32 se,.vS 212 (eO cA [.sl 1 ([toStr [34],toStr [92]].map eS)]),.sl 1 ([].map eS)])] (.fG [])):=by
 unfold mg at h
 refine ax.CA 21 Tryz.func151 Tryz.ntmps151 rfl (by simp) fun E=>?_
 show ab _ E ⟨21,[1],[1],[]⟩ _ ⟨[(0,Pt 1 0),(1,.b (.dq 118 [.ptr 1 0] []))],[(1,.box 159 [.int .u32 0,.int .i32 0,.int .u32 se,.raw .nilIface,.sl 1 ([[92],[92,92],[34],[92,34]].map eS)])]⟩ _
 refine ab.seq (ab.aa ?_)
 refine Oc om (Oc (ar rfl) (Oc (af uv rfl rfl) ?_))
 obtain ⟨u_1,e1,h⟩:=aO h
 refine Oc (cz (own_a:=[(1,_)]) (uT e1) goes172 rfl ⟨rfl,trivial⟩ rfl rfl) (ae.aj ⟨[(0,Pt 1 0),(1,.b (.dq 118 [.ptr 1 0] []))],[(1,.box 159 [.int .u32 0,.int .i32 1,.int .u32 se,.raw .nilIface,.sl 1 ([[92],[92,92],[34],[92,34]].map eS)])]⟩ rfl (ab.seq (ab.aa ?_)))
 refine Oc om (Oc (ar rfl) (Oc (af uv rfl rfl) ?_))
 refine ae.C8 (das:=[.ptr 1 1]) rfl rfl (ae.aj ⟨[(0,_),(1,_)],[(1,_)]⟩ rfl (ab.seq (ab.aa ?_)))
 refine Oc om (Oc (ar rfl) (Oc (af qo rfl rfl) ?_))
 obtain ⟨u_2,e2,h⟩:=aO h
 refine Oc (cz (own_a:=[(1,_)]) (mS e2) Ar rfl ⟨rfl,trivial⟩ rfl rfl) (Oc (cX rfl) ?_)
 refine ae.aj ⟨[(0,_),(1,_),(15,B true)],[(1,_)]⟩ rfl (ab.lL rfl (ab.seq (ab.aa ?_)))
 refine Oc om (Oc (ar rfl) (Oc (af qo rfl rfl) ?_))
 refine ae.C8 (das:=[.ptr 1 0,.bool true]) rfl rfl (ae.aj ⟨[(1,_)],[(1,_)]⟩ rfl (ab.aa (Oc om ?_)))
 obtain ⟨u_3,e3,h⟩:=aO h
 refine Oc (mF (own_a:=[(1,_)]) (mW e3) goes118 rfl rfl rfl ⟨rfl,trivial⟩ rfl rfl) (ae.nil (Fin.runD (own_a:=[(1,_)]) (.inr rfl) (qy (F:=0) (r:=()) rfl) goes174 rfl ⟨rfl,trivial⟩ rfl rfl (Fin.runD (own_a:=[(1,_)]) (.inl rfl) (rC (F:=0) (r:=()) rfl) goes173 rfl ⟨rfl,trivial⟩ rfl rfl (Fin.retD (.inl rfl) rfl ?_))))
 obtain rfl:=Option.some.inj h
 refine Fin.ah ⟨[],[(1,.box 159 [.int .u32 1,.int .i32 0,.int .u32 se,.vS 212 (eO cA [.sl 1 ([toStr [34],toStr [92]].map eS)]),.sl 1 ([].map eS)])]⟩ rfl ?_
 exact Fin.result [] (.inl rfl) rfl (.nil) ⟨rfl,rfl⟩
def pH (F:Nat) (se:Int):Option Unit :=
 (j5 F 0 se (.raw .nilIface) (.sl 1 ([[92],[92,92],[34],[92,34]].map eS))).bind fun u_1=>(mg F se).bind fun u_2=>some ()
theorem w8 {F:Nat} {se:Int} {r:Unit} (h:pH F se = some r):ax Tryz.prog (bh mx) 117 [(1,.box 159 [.int .u32 0,.int .i32 0,.int .u32 se,.raw .nilIface,.sl 1 ([[92],[92,92],[34],[92,34]].map eS)])] [.ptr 1 0,.dq 118 [.ptr 1 0] []] (Is [(1,.box 159 [.int .u32 1,.int .i32 0,.int .u32 se,.vS 212 (eO cA [.sl 1 ([toStr [34],toStr [92]].map eS)]),.sl 1 ([].map eS)])] (.fG [])):=by
 unfold pH at h
 refine ax.intro 12 Tryz.func117 Tryz.ntmps117 rfl (by simp) fun E=>?_
 show ab _ E ⟨12,[1],[1],[]⟩ _ ⟨[(0,Pt 1 0),(1,.b (.dq 118 [.ptr 1 0] []))],[(1,.box 159 [.int .u32 0,.int .i32 0,.int .u32 se,.raw .nilIface,.sl 1 ([[92],[92,92],[34],[92,34]].map eS)])]⟩ _
 refine ab.seq (ab.aa ?_)
 refine Oc om (Oc (ar rfl) (Oc (af qo rfl rfl) ?_))
 obtain ⟨u_1,e1,h⟩:=aO h
 refine Oc (cz (own_a:=[(1,_)]) (mS e1) Ar rfl ⟨rfl,trivial⟩ rfl rfl) (Oc (cX rfl) ?_)
 refine ae.aj ⟨[(0,Pt 1 0),(1,.b (.dq 118 [.ptr 1 0] [])),(8,B true)],[(1,.box 159 [.int .u32 0,.int .i32 0,.int .u32 se,.raw .nilIface,.sl 1 ([[92],[92,92],[34],[92,34]].map eS)])]⟩ rfl (ab.lL rfl (ab.aa (Oc om (Oc om ?_))))
 obtain ⟨u_2,e2,h⟩:=aO h
 refine Oc (cz (own_a:=[(1,_)]) (sE e2) goes151 rfl ⟨rfl,trivial⟩ rfl rfl) (ae.nil ?_)
 obtain rfl:=Option.some.inj h
 refine Fin.ah ⟨[],[(1,.box 159 [.int .u32 1,.int .i32 0,.int .u32 se,.vS 212 (eO cA [.sl 1 ([toStr [34],toStr [92]].map eS)]),.sl 1 ([].map eS)])]⟩ rfl ?_
 exact Fin.result [] (.inr rfl) rfl (.nil) ⟨rfl,rfl⟩
def fl (F:Nat) (s0:Str):Option Str :=
 Option.bind (cu (IntKind.i64.wrap (([[34],[92]].length:Int) * 8)) fun x_3=>if (decide (x_3 ≤ (s0.length:Int))) = true then (iter F (kr fun newSize_4 anyChanges_5 x_6=>if (decide (x_6 < ([[34],[92]].length:Int))) = true then (Option.bind ((aZ [[34],[92]] x_6).bind fun x_11=>(eQ F s0 x_11).bind fun x_12=>if (decide (x_12 ≠ 0)) = true then ((aZ x_11 0).bind fun x_13=>some (IntKind.i64.wrap (newSize_4 + (IntKind.i64.wrap (x_12 * (IntKind.i64.wrap (((cA ((x_13.toNat:Int):Int).toNat).length:Int) - 1))))),true)) else (some (newSize_4,anyChanges_5))) (cF fun newSize_9 anyChanges_10=>some (.inl (newSize_9,anyChanges_10,IntKind.i64.wrap (x_6 + 1))))) else (some (.inr (newSize_4,anyChanges_5)))) ((s0.length:Int),false,0)) else (iter F (kr fun newSize_14 anyChanges_15 i_16=>if (decide (i_16 < (s0.length:Int))) = true then (Option.bind ((aZ s0 i_16).bind fun x_21=>if (decide (cA ((x_21.toNat:Int):Int).toNat ≠ [])) = true then (cu ((cA ((x_21.toNat:Int):Int).toNat).length:Int) fun x_22=>cu (IntKind.i64.wrap (newSize_14 + (IntKind.i64.wrap (x_22 - 1)))) fun x_23=>some (x_23,true)) else (some (newSize_14,anyChanges_15))) (cF fun newSize_19 anyChanges_20=>some (.inl (newSize_19,anyChanges_20,IntKind.i64.wrap (i_16 + 1))))) else (some (.inr (newSize_14,anyChanges_15)))) ((s0.length:Int),false,0))) (cF fun newSize_1 anyChanges_2=>if (!anyChanges_2) = true then (some s0) else (Option.bind (mk? (0:Int) newSize_1 newSize_1) (fun x_24=>Option.bind (iter F (kr fun buf_26 j_27 i_28=>if (decide (i_28 < (s0.length:Int))) = true then (Option.bind ((aZ s0 i_28).bind fun x_32=>if (decide (cA ((x_32.toNat:Int):Int).toNat ≠ [])) = true then (Option.bind (u6 buf_26 (cA ((x_32.toNat:Int):Int).toNat) j_27) (fun y_33=>some (y_33,IntKind.i64.wrap (j_27 + ((cA ((x_32.toNat:Int):Int).toNat).length:Int))))) else ((aZ buf_26 j_27).bind fun x_35=>some (buf_26.set (j_27:Int).toNat (x_32.toNat:Int),IntKind.i64.wrap (j_27 + 1)))) (cF fun buf_30 j_31=>some (.inl (buf_30,j_31,IntKind.i64.wrap (i_28 + 1))))) else (some (.inr buf_26))) (x_24,0,0)) (fun buf_25=>some (toStr buf_25)))))
theorem sD {F:Nat} {s0:Str} {r:Str} (h:fl F s0 = some r):ax Tryz.prog (bh mx) 230 [] [.cW (eO cA [.sl 1 ([[34],[92]].map eS)]),.one (.str s0)] (Is [] (.b (.one (.str r)))):=by
 unfold fl at h
 refine ax.intro 122 Tryz.func230 Tryz.ntmps230 rfl (by simp) fun E=>?_
 show ab _ E ⟨122,[],[],[]⟩ _ ⟨[(0,.b (.cW (eO cA [.sl 1 ([[34],[92]].map eS)]))),(1,.b (.one (.str s0)))],[]⟩ _
 refine ab.seq (ab.aa ?_)
 refine Oc oa (ae.aj ⟨[(0,.b (.cW (eO cA [.sl 1 ([[34],[92]].map eS)]))),(1,.b (.one (.str s0)))],[]⟩ rfl (ab.seq (ab.aa ?_)))
 refine Oc om (Oc (bS du rfl) (Oc oa ?_))
 refine ae.aj ⟨[(0,_),(1,_),(5,I (s0.length:Int))],[]⟩ rfl (ab.seq (ab.aa ?_))
 refine Oc oa (ae.aj ⟨[(0,_),(1,_),(5,_),(6,B false)],[]⟩ rfl ?_)
 obtain ⟨v1,h2,h⟩:=aO h
 refine ab.cN (v:=v1) (cF fun (newSize_1:Int) (anyChanges_2:Bool)=>⟨[(0,.b (.cW (eO cA [.sl 1 ([[34],[92]].map eS)]))),(1,.b (.one (.str s0))),(5,I newSize_1),(6,B anyChanges_2)],[]⟩) (fun z=>z) ?_ ?_
 ·refine ab.seq (ab.aa ?_)
  refine Oc om (Oc (fi rfl) (Oc (dQ jK rfl vw) (Oc (bm lN rfl rfl) (Oc (cm n3 rfl (List.length_map _)) ?_))))
  refine ae.dw .i64 h2 rfl (rT rfl rfl) (fun x_3 h2=>?_)
  refine ae.ah ⟨[(0,_),(1,_),(5,_),(6,_),(23,I x_3)],[]⟩ rfl (Oc om (Oc (bS du rfl) (Oc (rU rfl rfl) ?_)))
  refine ae.aj ⟨[(0,_),(1,_),(5,_),(6,_),(26,B (decide (x_3 ≤ (s0.length:Int))))],[]⟩ rfl (ab.ite h2 rfl (fun _ h2=>?_) (fun _ h2=>?_))
  ·refine ab.seq (ab.aa ?_)
   refine Oc om (Oc (fi rfl) (Oc (dQ jK rfl vw) (Oc (bm lN rfl rfl) (Oc (cm n3 rfl (List.length_map _)) (Oc om ?_)))))
   refine ae.aj ⟨[(0,_),(1,_),(5,_),(6,_),(30,.b (.one (.sl 1 ([[34],[92]].map eS)))),(31,I ([[34],[92]].length:Int)),(32,I 0)],[]⟩ rfl (ab.block (ab.dM h2 (kr fun (newSize_4:Int) (anyChanges_5:Bool) (x_6:Int)=>⟨[(0,.b (.cW (eO cA [.sl 1 ([[34],[92]].map eS)]))),(1,.b (.one (.str s0))),(5,I newSize_4),(6,B anyChanges_5),(30,.b (.one (.sl 1 ([[34],[92]].map eS)))),(31,I ([[34],[92]].length:Int)),(32,I x_6)],[]⟩) [0,1,5,6,30,31,32] [] rfl ?_))
   rintro ⟨newSize_4,anyChanges_5,x_6⟩ o3 h4 hy5
   refine ab.seq (ab.aa ?_)
   refine Oc (b7 rfl rfl) (ae.aj ⟨[(0,_),(1,_),(5,_),(6,_),(30,_),(31,_),(32,_),(33,B (decide (x_6 < ([[34],[92]].length:Int))))],[]⟩ rfl (ab.seq (ab.ite h4 rfl (fun _ h4=>?_) (fun _ h4=>?_))))
   ·refine ab.skip (Fin.ah ⟨[(0,_),(1,_),(5,_),(6,_),(30,_),(31,_),(32,_)],[]⟩ rfl (Fin.then ?_))
    obtain ⟨v6,h7,h4⟩:=aO h4
    refine ab.cN (v:=v6) (cF fun (newSize_9:Int) (anyChanges_10:Bool)=>⟨[(0,.b (.cW (eO cA [.sl 1 ([[34],[92]].map eS)]))),(1,.b (.one (.str s0))),(5,I newSize_9),(6,B anyChanges_10),(30,.b (.one (.sl 1 ([[34],[92]].map eS)))),(31,I ([[34],[92]].length:Int)),(32,I x_6)],[]⟩) (fun z=>z) ?_ ?_
    ·refine ab.block (ab.seq (ab.aa ?_))
     obtain ⟨x_11,e8,h7⟩:=aO h7
     refine Oc (bK dT (bb e8) (dH (e:=eS) e8) rfl rfl) (Oc (bm cG rfl rfl) (Oc oa ?_))
     refine ae.aj ⟨[(0,_),(1,_),(5,_),(6,_),(8,.b (.one (.str x_11))),(30,_),(31,_),(32,_)],[]⟩ rfl (ab.seq (ab.aa ?_))
     refine Oc om (Oc om ?_)
     obtain ⟨x_12,e9,h7⟩:=aO h7
     refine Oc (ag (lx e9) CF rfl rfl) (Oc oa ?_)
     refine ae.aj ⟨[(0,_),(1,_),(5,_),(6,_),(8,_),(9,I x_12),(30,_),(31,_),(32,_)],[]⟩ rfl (ab.seq (ab.aa ?_))
     refine Oc om (Oc (dU rfl rfl) ?_)
     refine ae.aj ⟨[(0,_),(1,_),(5,_),(6,_),(8,_),(9,_),(30,_),(31,_),(32,_),(40,B (decide (x_12 ≠ 0)))],[]⟩ rfl (ab.ite h7 rfl (fun _ h7=>?_) (fun _ h7=>?_))
     ·refine ab.seq (ab.ah ⟨[(0,_),(1,_),(5,_),(8,_),(9,_),(30,_),(31,_),(32,_)],[]⟩ rfl ?_)
      obtain ⟨x_13,e10,h7⟩:=aO h7
      refine ab.bR mixed 13 [I newSize_4,I x_12,.b (.cW (eO cA [.sl 1 ([[34],[92]].map eS)])),.b (.one (.str x_11)),.b (.one (.int .u8 (x_13.toNat:Int))),.b (.cW (eO cA [.sl 1 ([[34],[92]].map eS)])),.b (.cW (eO cA [.sl 1 ([[34],[92]].map eS)])),.b (.cW [.slb (cA ((x_13.toNat:Int):Int).toNat)]),.b (.one (.sl 1 ((cA ((x_13.toNat:Int):Int).toNat).map (eK .u8)))),I ((cA ((x_13.toNat:Int):Int).toNat).length:Int),I (IntKind.i64.wrap (((cA ((x_13.toNat:Int):Int).toNat).length:Int) - 1)),I (IntKind.i64.wrap (x_12 * (IntKind.i64.wrap (((cA ((x_13.toNat:Int):Int).toNat).length:Int) - 1)))),I (IntKind.i64.wrap (newSize_4 + (IntKind.i64.wrap (x_12 * (IntKind.i64.wrap (((cA ((x_13.toNat:Int):Int).toNat).length:Int) - 1))))))] [0,1,5,30,31,32] [] (s':=⟨[(0,_),(1,_),(5,I (IntKind.i64.wrap (newSize_4 + (IntKind.i64.wrap (x_12 * (IntKind.i64.wrap (((cA ((x_13.toNat:Int):Int).toNat).length:Int) - 1))))))),(30,_),(31,_),(32,_)],[]⟩) rfl ⟨fun _=>.p om,fun _=>.p om,fun _=>.p om,fun _=>.p om,fun _=>.p (b8 du rfl rfl (bb e10) (fK e10)),fun _=>.p (fi rfl),fun _=>by exact .p (dQ fQ rfl rfl),fun _=>.p (tK jj rfl rfl),fun _=>.p ((bm kI rfl rfl).weak (fun _ _ _ h=>yQ h)),fun _=>.p (cm jy rfl (List.length_map _)),fun _=>.p (cR rfl rfl),fun _=>.p (rT rfl rfl),fun _=>.p (aW rfl rfl),trivial⟩ ⟨_,by exact .p oa,rfl⟩ rfl (ab.aa (Oc oa (ae.nil (Fin.aC ?_))))
      exact Fin.join [0,1,5,6,30,31,32] [] (IntKind.i64.wrap (newSize_4 + (IntKind.i64.wrap (x_12 * (IntKind.i64.wrap (((cA ((x_13.toNat:Int):Int).toNat).length:Int) - 1))))),true) (Option.some.inj h7) rfl
     ·refine ab.skip (Fin.aC ?_)
      exact Fin.join [0,1,5,6,30,31,32] [] (newSize_4,anyChanges_5) (Option.some.inj h7) rfl
    ·rintro ⟨newSize_9,anyChanges_10⟩ hv
     subst v6
     refine ab.aa (Oc (aW rfl rfl) (Oc om ?_))
     refine ae.nil ?_
     exact Fin.cy [0,1,5,6,30,31,32] [] (newSize_9,anyChanges_10,IntKind.i64.wrap (x_6 + 1)) (Option.some.inj h4) rfl
   ·refine ab.exit (Fin.aB ?_)
    obtain rfl:=hy5 _ (Option.some.inj h4).symm
    refine Fin.aB (Fin.aU ?_)
    exact Fin.join [0,1,5,6] [] (newSize_4,anyChanges_5) rfl rfl
  ·refine ab.seq (ab.aa ?_)
   refine Oc oa (ae.aj ⟨[(0,_),(1,_),(5,_),(6,_),(10,I 0)],[]⟩ rfl (ab.block (ab.dM h2 (kr fun (newSize_14:Int) (anyChanges_15:Bool) (i_16:Int)=>⟨[(0,.b (.cW (eO cA [.sl 1 ([[34],[92]].map eS)]))),(1,.b (.one (.str s0))),(5,I newSize_14),(6,B anyChanges_15),(10,I i_16)],[]⟩) [0,1,5,6,10] [] rfl ?_)))
   rintro ⟨newSize_14,anyChanges_15,i_16⟩ o11 h12 hy13
   refine ab.seq (ab.seq (ab.aa ?_))
   refine Oc om (Oc om (Oc (bS du rfl) (Oc (b7 rfl rfl) ?_)))
   refine ae.aj ⟨[(0,_),(1,_),(5,_),(6,_),(10,_),(58,B (decide (i_16 < (s0.length:Int))))],[]⟩ rfl (ab.ite h12 rfl (fun _ h12=>?_) (fun _ h12=>?_))
   ·refine ab.skip (Fin.ah ⟨[(0,_),(1,_),(5,_),(6,_),(10,_)],[]⟩ rfl (Fin.then ?_))
    obtain ⟨v14,h15,h12⟩:=aO h12
    refine ab.cN (v:=v14) (cF fun (newSize_19:Int) (anyChanges_20:Bool)=>⟨[(0,.b (.cW (eO cA [.sl 1 ([[34],[92]].map eS)]))),(1,.b (.one (.str s0))),(5,I newSize_19),(6,B anyChanges_20),(10,I i_16)],[]⟩) (fun z=>z) ?_ ?_
    ·refine ab.block (ab.seq (ab.aa ?_))
     refine Oc om (Oc om ?_)
     obtain ⟨x_21,e16,h15⟩:=aO h15
     refine Oc (b8 du rfl rfl (bb e16) (fK e16)) (Oc oa ?_)
     refine ae.aj ⟨[(0,_),(1,_),(5,_),(6,_),(10,_),(11,.b (.one (.int .u8 (x_21.toNat:Int))))],[]⟩ rfl (ab.seq (ab.aa ?_))
     refine Oc om (Oc om (Oc (fi rfl) (Oc (dQ fQ rfl rfl) (Oc (tK jj rfl rfl) (Oc (bm kI rfl rfl) ?_)))))
     refine Oc (uH jy rfl) (ae.aj ⟨[(0,_),(1,_),(5,_),(6,_),(10,_),(11,_),(70,B (decide (cA ((x_21.toNat:Int):Int).toNat ≠ [])))],[]⟩ rfl (ab.ite h15 rfl (fun _ h15=>?_) (fun _ h15=>?_)))
     ·refine ab.seq (ab.aa ?_)
      refine Oc om (Oc om (Oc om (Oc (fi rfl) (Oc (dQ fQ rfl rfl) (Oc (tK jj rfl rfl) ?_)))))
      refine Oc ((bm kI rfl rfl).weak (fun _ _ _ h=>yQ h)) (ae.ah ⟨[(0,_),(1,_),(5,_),(10,_),(71,I newSize_14),(77,.b (.one (.sl 1 ((cA ((x_21.toNat:Int):Int).toNat).map (eK .u8)))))],[]⟩ rfl (ae.dw .i64 h15 rfl (cm jy rfl (List.length_map _)) (fun x_22 h15=>?_)))
      refine Oc (cR rfl rfl) (ae.dw .i64 h15 rfl (aW rfl rfl) (fun x_23 h15=>?_))
      refine Oc oa (ae.aj ⟨[(0,_),(1,_),(5,I x_23),(10,_)],[]⟩ rfl (ab.aa (Oc oa (ae.nil (Fin.aC ?_)))))
      exact Fin.join [0,1,5,6,10] [] (x_23,true) (Option.some.inj h15) rfl
     ·refine ab.skip (Fin.aC ?_)
      exact Fin.join [0,1,5,6,10] [] (newSize_14,anyChanges_15) (Option.some.inj h15) rfl
    ·rintro ⟨newSize_19,anyChanges_20⟩ hv
     subst v14
     refine ab.aa (Oc om (Oc (aW rfl rfl) (Oc oa ?_)))
     refine ae.nil ?_
     exact Fin.cy [0,1,5,6,10] [] (newSize_19,anyChanges_20,IntKind.i64.wrap (i_16 + 1)) (Option.some.inj h12) rfl
   ·refine ab.exit (Fin.aB ?_)
    obtain rfl:=hy13 _ (Option.some.inj h12).symm
    refine Fin.aB (Fin.aU ?_)
    exact Fin.join [0,1,5,6] [] (newSize_14,anyChanges_15) rfl rfl
 ·rintro ⟨newSize_1,anyChanges_2⟩ hv
  subst v1
  refine ab.seq (ab.seq (ab.aa ?_))
  refine Oc om (Oc (cX rfl) ?_)
  refine ae.aj ⟨[(0,_),(1,_),(5,_),(82,B (!anyChanges_2))],[]⟩ rfl (ab.ite h rfl (fun _ h=>?_) (fun _ h=>?_))
  ·refine ab.seq (ab.aa ?_)
   refine Oc om (Oc oa ?_)
   refine ae.aj ⟨[(4,.b (.one (.str s0)))],[]⟩ rfl (ab.ret (Fin.aI ?_))
   obtain rfl:=Option.some.inj h
   refine Fin.ah ⟨[(4,_)],[]⟩ rfl (Fin.ay [.one (.str s0)] (.inl rfl) rfl (.cons (.tmp rfl) .nil) ⟨rfl,rfl⟩)
  ·refine ab.skip (Fin.ah ⟨[(0,_),(1,_),(5,_)],[]⟩ rfl (Fin.then (ab.seq (ab.aa ?_))))
   refine Oc om ?_
   obtain ⟨x_24,e17,h⟩:=aO h
   refine Oc (ru (k:=101) (enc:=(eK .u8)) kW e17 (by decide) (.cons .refl .nil) rfl rfl rfl) (Oc oa ?_)
   refine ae.aj ⟨[(0,_),(1,_),(12,.b (.row 101))],[(101,.row 5 1 (x_24.map (eK .u8)))]⟩ rfl (ab.seq (ab.aa ?_))
   refine Oc oa (ae.aj ⟨[(0,_),(1,_),(12,_),(13,I 0)],[(101,_)]⟩ rfl ?_)
   obtain ⟨v18,h19,h⟩:=aO h
   refine ab.cN (v:=v18) (fun (buf_25:List Int)=>⟨[(12,.b (.row 101))],[(101,.row 5 1 (buf_25.map (eK .u8)))]⟩) (fun z=>z) ?_ ?_
   ·refine ab.seq (ab.aa ?_)
    refine Oc oa (ae.aj ⟨[(0,_),(1,_),(12,_),(13,_),(14,I 0)],[(101,_)]⟩ rfl (ab.block (ab.dM h19 (kr fun (buf_26:List Int) (j_27:Int) (i_28:Int)=>⟨[(0,.b (.cW (eO cA [.sl 1 ([[34],[92]].map eS)]))),(1,.b (.one (.str s0))),(12,.b (.row 101)),(13,I j_27),(14,I i_28)],[(101,.row 5 1 (buf_26.map (eK .u8)))]⟩) [0,1,12,13,14] [101] rfl ?_)))
    rintro ⟨buf_26,j_27,i_28⟩ o20 h21 hy22
    refine ab.seq (ab.seq (ab.aa ?_))
    refine Oc om (Oc om (Oc (bS du rfl) (Oc (b7 rfl rfl) ?_)))
    refine ae.aj ⟨[(0,_),(1,_),(12,_),(13,_),(14,_),(89,B (decide (i_28 < (s0.length:Int))))],[(101,_)]⟩ rfl (ab.ite h21 rfl (fun _ h21=>?_) (fun _ h21=>?_))
    ·refine ab.skip (Fin.ah ⟨[(0,_),(1,_),(12,_),(13,_),(14,_)],[(101,_)]⟩ rfl (Fin.then ?_))
     obtain ⟨v23,h24,h21⟩:=aO h21
     refine ab.cN (v:=v23) (cF fun (buf_30:List Int) (j_31:Int)=>⟨[(0,.b (.cW (eO cA [.sl 1 ([[34],[92]].map eS)]))),(1,.b (.one (.str s0))),(12,.b (.row 101)),(13,I j_31),(14,I i_28)],[(101,.row 5 1 (buf_30.map (eK .u8)))]⟩) (fun z=>z) ?_ ?_
     ·refine ab.block (ab.seq (ab.aa ?_))
      refine Oc om (Oc om ?_)
      obtain ⟨x_32,e25,h24⟩:=aO h24
      refine Oc (b8 du rfl rfl (bb e25) (fK e25)) (Oc oa ?_)
      refine ae.aj ⟨[(0,_),(1,_),(12,_),(13,_),(14,_),(15,.b (.one (.int .u8 (x_32.toNat:Int))))],[(101,_)]⟩ rfl (ab.seq (ab.aa ?_))
      refine Oc om (Oc om (Oc (fi rfl) (Oc (dQ fQ rfl rfl) (Oc (tK jj rfl rfl) (Oc (bm kI rfl rfl) ?_)))))
      refine Oc (uH jy rfl) (ae.aj ⟨[(0,_),(1,_),(12,_),(13,_),(14,_),(15,_),(101,B (decide (cA ((x_32.toNat:Int):Int).toNat ≠ [])))],[(101,_)]⟩ rfl (ab.ite h24 rfl (fun _ h24=>?_) (fun _ h24=>?_)))
      ·refine ab.ah ⟨[(0,_),(1,_),(12,_),(13,_),(14,_),(15,_)],[(101,_)]⟩ rfl ?_
       obtain ⟨y_33,e26,h24⟩:=aO h24
       refine ab.gq 101 rfl (cpy_pos e26) (fun cap_34 hc27 _=>?_)
       refine ab.ah ⟨[(0,_),(1,_),(12,.b (.part 101 1 0 ((buf_26.map (eK .u8)).length) cap_34)),(13,_),(14,_),(15,_)],[(101,_)]⟩ rfl (ab.qW mixed [false,false,false,false,false,false,false,false,false,false,true,false,true] [I j_27,.b (.part 101 1 0 ((buf_26.map (eK .u8)).length) cap_34),I j_27,.b (.part 101 1 (0 + (j_27:Int).toNat) ((buf_26.map (eK .u8)).length - (j_27:Int).toNat) cap_34),.b (.cW (eO cA [.sl 1 ([[34],[92]].map eS)])),.b (.one (.int .u8 (x_32.toNat:Int))),.b (.cW (eO cA [.sl 1 ([[34],[92]].map eS)])),.b (.cW (eO cA [.sl 1 ([[34],[92]].map eS)])),.b (.cW [.slb (cA ((x_32.toNat:Int):Int).toNat)]),.b (.one (.sl 1 ((cA ((x_32.toNat:Int):Int).toNat).map (eK .u8)))),I ((cA ((x_32.toNat:Int):Int).toNat).length:Int),I (IntKind.i64.wrap (j_27 + ((cA ((x_32.toNat:Int):Int).toNat).length:Int))),I (IntKind.i64.wrap (j_27 + ((cA ((x_32.toNat:Int):Int).toNat).length:Int)))] [⟨[false,false,false,false,false,false,false,false,false,false,false,false,false],[(0,.b (.cW (eO cA [.sl 1 ([[34],[92]].map eS)]))),(1,.b (.one (.str s0))),(12,.b (.part 101 1 0 ((buf_26.map (eK .u8)).length) cap_34)),(13,I j_27),(14,I i_28),(15,.b (.one (.int .u8 (x_32.toNat:Int))))],[(101,.row 5 1 (buf_26.map (eK .u8)))],[true,true,true,true,true,true,true,true,true,true,true,true,true],[],[11,12]⟩,⟨[false,false,false,false,false,false,false,false,false,false,true,false,false],[(0,.b (.cW (eO cA [.sl 1 ([[34],[92]].map eS)]))),(1,.b (.one (.str s0))),(12,.b (.part 101 1 0 ((buf_26.map (eK .u8)).length) cap_34)),(13,I j_27),(14,I i_28),(15,.b (.one (.int .u8 (x_32.toNat:Int))))],[(101,.row 5 1 (y_33.map (eK .u8)))],[true,true,true,true,true,true,true,true,true,true,true,true,true],[1,2,3,4,5,6,7,8,9,10],[]⟩,⟨[false,false,false,false,false,false,false,false,false,false,true,false,true],[(0,.b (.cW (eO cA [.sl 1 ([[34],[92]].map eS)]))),(1,.b (.one (.str s0))),(12,.b (.part 101 1 0 ((buf_26.map (eK .u8)).length) cap_34)),(14,I i_28),(15,.b (.one (.int .u8 (x_32.toNat:Int))))],[(101,.row 5 1 (y_33.map (eK .u8)))],[true,true,true,true,true,true,true,true,true,true,true,true,true],[0,1,2,3,4,5,6,7,8,9,10,11,12],[]⟩] rfl (⟨by kernel_rfl,⟨⟨I j_27,fun _=>rfl,fun _=>.p (by exact c5 rfl)⟩,⟨.b (.part 101 1 0 ((buf_26.map (eK .u8)).length) cap_34),fun _=>rfl,fun _=>.p (by exact c5 rfl)⟩,⟨I j_27,fun _=>rfl,fun _=>.p (by exact c5 rfl)⟩,⟨.b (.part 101 1 (0 + (j_27:Int).toNat) ((buf_26.map (eK .u8)).length - (j_27:Int).toNat) cap_34),fun _=>rfl,fun _=>.p (by exact wW kW e26 hc27 rfl rfl)⟩,⟨.b (.cW (eO cA [.sl 1 ([[34],[92]].map eS)])),fun _=>rfl,fun _=>.p (by exact c5 rfl)⟩,⟨.b (.one (.int .u8 (x_32.toNat:Int))),fun _=>rfl,fun _=>.p (by exact c5 rfl)⟩,⟨.b (.cW (eO cA [.sl 1 ([[34],[92]].map eS)])),fun _=>rfl,fun _=>.p (by exact fi rfl)⟩,⟨.b (.cW (eO cA [.sl 1 ([[34],[92]].map eS)])),fun _=>rfl,fun _=>.p (by exact dQ fQ rfl rfl)⟩,⟨.b (.cW [.slb (cA ((x_32.toNat:Int):Int).toNat)]),fun _=>rfl,fun _=>.p (by exact tK jj rfl rfl)⟩,⟨.b (.one (.sl 1 ((cA ((x_32.toNat:Int):Int).toNat).map (eK .u8)))),fun _=>rfl,fun _=>.p (by exact (bm kI rfl rfl).weak (fun _ _ _ h=>yQ h))⟩,⟨_,[],I ((cA ((x_32.toNat:Int):Int).toNat).length:Int),rfl,fun _=>rfl,rfl,rfl,fun _=>.l5 [101] (by exact .p (by exact op_cpy kW e26 hc27 rfl rfl rfl rfl)) (by exact rfl)⟩,trivial,trivial,trivial⟩,⟨by kernel_rfl,⟨⟨I j_27,fun _=>rfl,fun _=>.p (by exact c5 rfl)⟩,trivial,trivial,trivial,trivial,trivial,trivial,trivial,trivial,trivial,trivial,⟨I (IntKind.i64.wrap (j_27 + ((cA ((x_32.toNat:Int):Int).toNat).length:Int))),fun _=>rfl,fun _=>.p (by exact aW rfl rfl)⟩,⟨_,[],I (IntKind.i64.wrap (j_27 + ((cA ((x_32.toNat:Int):Int).toNat).length:Int))),rfl,fun _=>rfl,rfl,rfl,fun _=>.l5 [101] (by exact .p (by exact r8 rfl)) (by exact rfl)⟩,trivial⟩,⟨by kernel_rfl,⟨trivial,trivial,trivial,trivial,trivial,trivial,trivial,trivial,trivial,trivial,trivial,trivial,trivial,trivial⟩,trivial⟩⟩⟩) rfl rfl rfl [0,1,12,13,14] [101] (s':=⟨[(0,_),(1,_),(12,_),(13,I (IntKind.i64.wrap (j_27 + ((cA ((x_32.toNat:Int):Int).toNat).length:Int)))),(14,_)],[(101,.row 5 1 (y_33.map (eK .u8)))]⟩) rfl ?_)
       refine Fin.nu 12 101 rfl rfl (AJ e26) (Fin.aC ?_)
       exact Fin.join [0,1,12,13,14] [101] (y_33,IntKind.i64.wrap (j_27 + ((cA ((x_32.toNat:Int):Int).toNat).length:Int))) (Option.some.inj h24) rfl
      ·refine ab.seq (ab.aa ?_)
       refine Oc om (Oc om (Oc om ?_))
       obtain ⟨x_35,e28,h24⟩:=aO h24
       refine Oc (uI kW (bb e28) (Cy e28) rfl rfl rfl rfl) (Oc (x8 (i:=(j_27:Int).toNat) yO rfl rfl rfl rfl (ix_lt e28) (map_set _ _ _ _)) ?_)
       refine ae.aj ⟨[(0,_),(1,_),(12,_),(13,_),(14,_)],[(101,.row 5 1 ((buf_26.set (j_27:Int).toNat (x_32.toNat:Int)).map (eK .u8)))]⟩ rfl (ab.aa (Oc om (Oc (aW rfl rfl) (Oc oa ?_))))
       refine ae.nil (Fin.aC ?_)
       exact Fin.join [0,1,12,13,14] [101] (buf_26.set (j_27:Int).toNat (x_32.toNat:Int),IntKind.i64.wrap (j_27 + 1)) (Option.some.inj h24) rfl
     ·rintro ⟨buf_30,j_31⟩ hv
      subst v23
      refine ab.aa (Oc om (Oc (aW rfl rfl) (Oc oa ?_)))
      refine ae.nil ?_
      exact Fin.cy [0,1,12,13,14] [101] (buf_30,j_31,IntKind.i64.wrap (i_28 + 1)) (Option.some.inj h21) rfl
    ·refine ab.exit (Fin.aB ?_)
     obtain rfl:=hy22 _ (Option.some.inj h21).symm
     refine Fin.aB (Fin.aU ?_)
     exact Fin.join [12] [101] buf_26 rfl rfl
   ·rintro buf_25 hv
    subst v18
    refine ab.seq (ab.aa ?_)
    refine Oc om (ae.dV 101 rfl (Oc (iE jy mn du rfl) (Oc oa ?_)))
    refine ae.aj ⟨[(4,.b (.one (.str (toStr buf_25))))],[]⟩ rfl (ab.ret ?_)
    obtain rfl:=Option.some.inj h
    refine Fin.ah ⟨[(4,_)],[]⟩ rfl (Fin.ay [.one (.str (toStr buf_25))] (.inl rfl) rfl (.cons (.tmp rfl) .nil) ⟨rfl,rfl⟩)
def j6 (F:Nat):Option Unit :=
 Option.bind (if (decide ((Int.tmod 4 2) = 1)) = true then (none) else (some ())) (fun _=>some ())
theorem sF {F:Nat} {r:Unit} (h:j6 F = some r):ax Tryz.prog (bh mx) 57 [] [.one (.sl 1 ([[92],[92,92],[34],[92,34]].map eS))] (Is [(60,.box 159 [.int .u32 0,.int .i32 0,.int .u32 0,.raw .nilIface,.sl 1 ([[92],[92,92],[34],[92,34]].map eS)])] (.b (.ptr 60 0))):=by
 unfold j6 at h
 refine ax.intro 12 Tryz.func57 Tryz.ntmps57 rfl (by simp) fun E=>?_
 show ab _ E ⟨12,[],[],[]⟩ _ ⟨[(0,.b (.one (.sl 1 ([[92],[92,92],[34],[92,34]].map eS))))],[]⟩ _
 refine ab.seq (ab.aa ?_)
 refine Oc oa (ae.aj ⟨[(0,.b (.one (.sl 1 ([[92],[92,92],[34],[92,34]].map eS))))],[]⟩ rfl ?_)
 obtain ⟨v1,h2,h⟩:=aO h
 refine ab.cN (v:=v1) (fun (_:Unit)=>⟨[(0,.b (.one (.sl 1 ([[92],[92,92],[34],[92,34]].map eS))))],[]⟩) (fun z=>z) ?_ ?_
 ·refine ab.seq (ab.aa ?_)
  refine Oc om (Oc (cm n3 rfl (List.length_map _)) (Oc (yR (by decide) rfl rfl) (Oc (c9 rfl rfl) ?_)))
  refine ae.aj ⟨[(0,_),(6,B (decide ((Int.tmod 4 2) = 1)))],[]⟩ rfl (ab.ite h2 rfl (fun _ h2=>?_) (fun _ h2=>?_))
  ·cases h2
  ·refine ab.skip ?_
   exact Fin.join [0] [] () (Option.some.inj h2) rfl
 ·rintro _ hv
  subst v1
  refine ab.seq (ab.aa ?_)
  refine Oc om (Oc (yh (k:=101) dT (by decide) (by decide) (by decide) rfl rfl) ?_)
  refine ae.dV 101 rfl (Oc (zz xW rfl rfl) (Oc (bM (k:=102) rfl rfl) (Oc oa ?_)))
  refine ae.aj ⟨[(2,Pt 102 0)],[(102,.box 159 [.int .u32 0,.int .i32 0,.int .u32 0,.raw .nilIface,.sl 1 ([[92],[92,92],[34],[92,34]].map eS)])]⟩ rfl (ab.ret ?_)
  obtain rfl:=Option.some.inj h
  refine Fin.ah ⟨[(2,Pt 102 0)],[(102,.box 159 [.int .u32 0,.int .i32 0,.int .u32 0,.raw .nilIface,.sl 1 ([[92],[92,92],[34],[92,34]].map eS)])]⟩ rfl (Fin.rename 102 60 rfl (by decide) rfl (Fin.ah ⟨[(2,Pt 60 0)],[(60,.box 159 [.int .u32 0,.int .i32 0,.int .u32 0,.raw .nilIface,.sl 1 ([[92],[92,92],[34],[92,34]].map eS)])]⟩ rfl ?_))
  exact Fin.result [.ptr 60 0] (.inl rfl) rfl (.cons (.tmp rfl) .nil) ⟨rfl,rfl⟩
def eD (F:Nat) (s0:Str) (se:Int):Option Str :=
 (pH F se).bind fun u_1=>(fl F s0).bind fun x_2=>some x_2
theorem ob {F:Nat} {s0:Str} {se:Int} {r:Str} (h:eD F s0 se = some r):ax Tryz.prog (bh mx) 58 [(1,.box 159 [.int .u32 0,.int .i32 0,.int .u32 se,.raw .nilIface,.sl 1 ([[92],[92,92],[34],[92,34]].map eS)])] [.ptr 1 0,.one (.str s0)] (Is [(1,.box 159 [.int .u32 1,.int .i32 0,.int .u32 se,.vS 212 (eO cA [.sl 1 ([toStr [34],toStr [92]].map eS)]),.sl 1 ([].map eS)])] (.b (.one (.str r)))):=by
 unfold eD at h
 refine ax.intro 17 Tryz.func58 Tryz.ntmps58 rfl (by simp) fun E=>?_
 show ab _ E ⟨17,[1],[1],[]⟩ _ ⟨[(0,Pt 1 0),(1,.b (.one (.str s0)))],[(1,.box 159 [.int .u32 0,.int .i32 0,.int .u32 se,.raw .nilIface,.sl 1 ([[92],[92,92],[34],[92,34]].map eS)])]⟩ _
 refine ab.seq (ab.aa ?_)
 refine Oc oa (ae.aj ⟨[(0,Pt 1 0),(1,.b (.one (.str s0)))],[(1,.box 159 [.int .u32 0,.int .i32 0,.int .u32 se,.raw .nilIface,.sl 1 ([[92],[92,92],[34],[92,34]].map eS)])]⟩ rfl (ab.seq (ab.aa ?_)))
 refine Oc om (Oc (ar rfl) (Oc (af zj rfl rfl) (Oc om (Oc (gI rfl rfl) ?_))))
 obtain ⟨u_1,e1,h⟩:=aO h
 refine Oc (cz (own_a:=[(1,_)]) (w8 e1) goes117 rfl ⟨rfl,trivial⟩ rfl rfl) (ae.aj ⟨[(0,_),(1,_)],[(1,.box 159 [.int .u32 1,.int .i32 0,.int .u32 se,.vS 212 (eO cA [.sl 1 ([toStr [34],toStr [92]].map eS)]),.sl 1 ([].map eS)])]⟩ rfl (ab.seq (ab.aa ?_)))
 refine Oc om (Oc (ar rfl) (Oc (af uu rfl rfl) (Oc (aq xr rfl rfl rfl) (Oc om ?_))))
 obtain ⟨x_2,e2,h⟩:=aO h
 refine Oc (DD (own_a:=[]) (sD e2) s4 rfl rfl trivial rfl rfl) (Oc oa ?_)
 refine ae.aj ⟨[(4,.b (.one (.str x_2)))],[(1,_)]⟩ rfl (ab.ret ?_)
 obtain rfl:=Option.some.inj h
 refine Fin.ah ⟨[(4,_)],[(1,_)]⟩ rfl ?_
 exact Fin.result [.one (.str x_2)] (.inl rfl) rfl (.cons (.tmp rfl) .nil) ⟨rfl,rfl⟩
def dK (F:Nat) (b0:Int):Option Bool :=
 cu ((decide (97 ≤ (jT .u8 b0 32))) && (decide ((jT .u8 b0 32) ≤ 122))) fun x_1=>some (x_1 && (decide (b0 < 128)))
theorem ju {F:Nat} {b0:Int} {r:Bool} (h:dK F b0 = some r):ax Tryz.prog (bh mx) 91 [] [.one (.int .u8 b0)] (Is [] (.b (.one (.bool r)))):=by
 unfold dK at h
 refine ax.intro 15 Tryz.func91 Tryz.ntmps91 rfl (by simp) fun E=>?_
 show ab _ E ⟨15,[],[],[]⟩ _ ⟨[(0,.b (.one (.int .u8 b0)))],[]⟩ _
 refine ab.seq (ab.aa ?_)
 refine Oc oa (ae.aj ⟨[(0,.b (.one (.int .u8 b0)))],[]⟩ rfl (ab.seq (ab.aa ?_)))
 refine Oc om (Oc (pR rfl rfl) (Oc (jc rfl rfl) (Oc om ?_)))
 refine dE (decide (97 ≤ (jT .u8 b0 32))) [] (fun g1=>trivial) (fun g1=>om) (dE (decide (97 ≤ (jT .u8 b0 32))) [7] (fun g2=>by exact ⟨g2,trivial⟩) (fun g2=>pR rfl rfl) (dE (decide (97 ≤ (jT .u8 b0 32))) [8] (fun g3=>by exact ⟨g3,trivial⟩) (fun g3=>rU rfl rfl) (ae.ah ⟨[(0,_),(6,B (decide (97 ≤ (jT .u8 b0 32)))),(9,.opt (decide (97 ≤ (jT .u8 b0 32))) (.one (.bool (decide ((jT .u8 b0 32) ≤ 122)))))],[]⟩ rfl (ae.lK h rfl (aJ (fun e=>e) rfl rfl rfl rfl) (fun x_1 h=>?_)))))
 refine Oc om (dE x_1 [] (fun g4=>by exact trivial) (fun g4=>om) (dE x_1 [12] (fun g5=>by exact ⟨g5,trivial⟩) (fun g5=>b7 rfl rfl) (Oc (aJ (fun e=>e) rfl rfl rfl rfl) (Oc oa ?_))))
 refine ae.aj ⟨[(2,B (x_1 && (decide (b0 < 128))))],[]⟩ rfl (ab.ret ?_)
 obtain rfl:=Option.some.inj h
 refine Fin.ah ⟨[(2,_)],[]⟩ rfl (Fin.ay [.one (.bool (x_1 && (decide (b0 < 128))))] (.inl rfl) rfl (.cons (.tmp rfl) .nil) ⟨rfl,rfl⟩)
def fj (F:Nat) (b0:Int):Option Bool :=
 some ((decide (48 ≤ b0)) && (decide (b0 ≤ 57)))
theorem jQ {F:Nat} {b0:Int} {r:Bool} (h:fj F b0 = some r):ax Tryz.prog (bh mx) 95 [] [.one (.int .u8 b0)] (Is [] (.b (.one (.bool r)))):=by
 unfold fj at h
 refine ax.intro 9 Tryz.func95 Tryz.ntmps95 rfl (by simp) fun E=>?_
 show ab _ E ⟨9,[],[],[]⟩ _ ⟨[(0,.b (.one (.int .u8 b0)))],[]⟩ _
 refine ab.seq (ab.aa ?_)
 refine Oc oa (ae.aj ⟨[(0,.b (.one (.int .u8 b0)))],[]⟩ rfl (ab.seq (ab.aa ?_)))
 refine Oc om (Oc (jc rfl rfl) (Oc om ?_))
 refine dE (decide (48 ≤ b0)) [] (fun g1=>trivial) (fun g1=>om) (dE (decide (48 ≤ b0)) [6] (fun g2=>by exact ⟨g2,trivial⟩) (fun g2=>rU rfl rfl) (Oc (aJ (fun e=>e) rfl rfl rfl rfl) (Oc oa ?_)))
 refine ae.aj ⟨[(2,B ((decide (48 ≤ b0)) && (decide (b0 ≤ 57))))],[]⟩ rfl (ab.ret ?_)
 obtain rfl:=Option.some.inj h
 refine Fin.ah ⟨[(2,_)],[]⟩ rfl (Fin.ay [.one (.bool ((decide (48 ≤ b0)) && (decide (b0 ≤ 57))))] (.inl rfl) rfl (.cons (.tmp rfl) .nil) ⟨rfl,rfl⟩)
def ee (F:Nat) (b0:Int):Option Bool :=
 (dK F b0).bind fun x_1=>(bx (!x_1) (fj F b0)).bind fun x_2=>some ((x_1 || x_2) || (decide (b0 = 95)))
theorem lH {F:Nat} {b0:Int} {r:Bool} (h:ee F b0 = some r):ax Tryz.prog (bh mx) 94 [] [.one (.int .u8 b0)] (Is [] (.b (.one (.bool r)))):=by
 unfold ee at h
 refine ax.intro 13 Tryz.func94 Tryz.ntmps94 rfl (by simp) fun E=>?_
 show ab _ E ⟨13,[],[],[]⟩ _ ⟨[(0,.b (.one (.int .u8 b0)))],[]⟩ _
 refine ab.seq (ab.aa ?_)
 refine Oc oa (ae.aj ⟨[(0,.b (.one (.int .u8 b0)))],[]⟩ rfl (ab.seq (ab.aa ?_)))
 refine Oc om ?_
 obtain ⟨x_1,e1,h⟩:=aO h
 refine Oc (ag (ju e1) yX rfl rfl) (Oc om ?_)
 refine fU (!x_1) [] (fun g2=>trivial) (fun g2=>om) (ae.ah ⟨[(0,_),(5,B x_1),(6,.opt (!x_1) (.one (.int .u8 b0)))],[]⟩ rfl ?_)
 obtain ⟨x_2,e4,h⟩:=aO h
 refine fU (!x_1) [6] (fun g3=>⟨g3,trivial⟩) (fun g3=>ag (jQ (gc e4 g3)) yW rfl rfl) (Oc (bt (fun e=>by first | (rw [e]; rfl) | (simp only at e; rw [e]; rfl)) rfl rfl rfl rfl) (Oc om ?_))
 refine fU (!(x_1 || x_2)) [] (fun g5=>trivial) (fun g5=>om) (fU (!(x_1 || x_2)) [10] (fun g6=>by exact ⟨g6,trivial⟩) (fun g6=>c9 rfl rfl) (Oc (bt (fun e=>by first | (rw [e]; rfl) | (simp only at e; rw [e]; rfl)) rfl rfl rfl rfl) (Oc oa ?_)))
 refine ae.aj ⟨[(2,B ((x_1 || x_2) || (decide (b0 = 95))))],[]⟩ rfl (ab.ret ?_)
 obtain rfl:=Option.some.inj h
 refine Fin.ah ⟨[(2,_)],[]⟩ rfl (Fin.ay [.one (.bool ((x_1 || x_2) || (decide (b0 = 95))))] (.inl rfl) rfl (.cons (.tmp rfl) .nil) ⟨rfl,rfl⟩)
def fo (F:Nat) (s0:Str) (c0:Int):Option Int :=
 (jP F s0 c0).bind fun x_1=>some x_1
theorem nU {F:Nat} {s0:Str} {c0:Int} {r:Int} (h:fo F s0 c0 = some r):ax Tryz.prog (bh mx) 100 [] [.one (.str s0),.one (.int .u8 c0)] (Is [] (.b (.one (.i r)))):=by
 unfold fo at h
 refine ax.intro 8 Tryz.func100 Tryz.ntmps100 rfl (by simp) fun E=>?_
 show ab _ E ⟨8,[],[],[]⟩ _ ⟨[(0,.b (.one (.str s0))),(1,.b (.one (.int .u8 c0)))],[]⟩ _
 refine ab.seq (ab.aa ?_)
 refine Oc oa (ae.aj ⟨[(0,.b (.one (.str s0))),(1,.b (.one (.int .u8 c0)))],[]⟩ rfl (ab.seq (ab.aa ?_)))
 refine Oc om (Oc om ?_)
 obtain ⟨x_1,e1,h⟩:=aO h
 refine Oc (ag (pK e1) goes138 rfl rfl) (Oc oa ?_)
 refine ae.aj ⟨[(4,I x_1)],[]⟩ rfl (ab.ret ?_)
 obtain rfl:=Option.some.inj h
 refine Fin.ah ⟨[(4,_)],[]⟩ rfl (Fin.ay [.one (.i x_1)] (.inl rfl) rfl (.cons (.tmp rfl) .nil) ⟨rfl,rfl⟩)
def ec (F:Nat) (b0:Int):Option Bool :=
 (fo F [32,9,10,13] b0).bind fun x_1=>some (decide (0 ≤ x_1))
theorem lE {F:Nat} {b0:Int} {r:Bool} (h:ec F b0 = some r):ax Tryz.prog (bh mx) 99 [] [.one (.int .u8 b0)] (Is [] (.b (.one (.bool r)))):=by
 unfold ec at h
 refine ax.intro 6 Tryz.func99 Tryz.ntmps99 rfl (by simp) fun E=>?_
 show ab _ E ⟨6,[],[],[]⟩ _ ⟨[(0,.b (.one (.int .u8 b0)))],[]⟩ _
 refine ab.seq (ab.aa ?_)
 refine Oc oa (ae.aj ⟨[(0,.b (.one (.int .u8 b0)))],[]⟩ rfl (ab.seq (ab.aa ?_)))
 refine Oc om ?_
 obtain ⟨x_1,e1,h⟩:=aO h
 refine Oc (ag (nU e1) goes100 rfl rfl) (Oc (jc rfl rfl) (Oc oa ?_))
 refine ae.aj ⟨[(2,B (decide (0 ≤ x_1)))],[]⟩ rfl (ab.ret ?_)
 obtain rfl:=Option.some.inj h
 refine Fin.ah ⟨[(2,_)],[]⟩ rfl (Fin.ay [.one (.bool (decide (0 ≤ x_1)))] (.inl rfl) rfl (.cons (.tmp rfl) .nil) ⟨rfl,rfl⟩)
def dZ (F:Nat) (b0:Int):Option Bool :=
 some (decide (b0 ≠ 10))
theorem lD {F:Nat} {b0:Int} {r:Bool} (h:dZ F b0 = some r):ax Tryz.prog (bh mx) 101 [] [.one (.int .u8 b0)] (Is [] (.b (.one (.bool r)))):=by
 unfold dZ at h
 refine ax.intro 5 Tryz.func101 Tryz.ntmps101 rfl (by simp) fun E=>?_
 show ab _ E ⟨5,[],[],[]⟩ _ ⟨[(0,.b (.one (.int .u8 b0)))],[]⟩ _
 refine ab.seq (ab.aa ?_)
 refine Oc oa (ae.aj ⟨[(0,.b (.one (.int .u8 b0)))],[]⟩ rfl (ab.seq (ab.aa ?_)))
 refine Oc om (Oc (dU rfl rfl) (Oc oa ?_))
 refine ae.aj ⟨[(2,B (decide (b0 ≠ 10)))],[]⟩ rfl (ab.ret ?_)
 obtain rfl:=Option.some.inj h
 refine Fin.ah ⟨[(2,_)],[]⟩ rfl (Fin.ay [.one (.bool (decide (b0 ≠ 10)))] (.inl rfl) rfl (.cons (.tmp rfl) .nil) ⟨rfl,rfl⟩)
def eY (F:Nat) (fn0:Nat) (b0:Int):Option Bool :=
 if fn0 = 94 then ee F b0 else if fn0 = 95 then fj F b0 else if fn0 = 99 then ec F b0 else if fn0 = 101 then dZ F b0 else none
theorem yq {F:Nat} {fn0:Nat} {b0:Int} {r:Bool} (h:eY F fn0 b0 = some r):ax Tryz.prog (bh mx) fn0 [] [.one (.int .u8 b0)] (Is [] (.b (.one (.bool r)))):=by
 unfold eY at h
 split at h
 ·next e=>subst e; exact lH h
 ·next=>
  split at h
  ·next e=>subst e; exact jQ h
  ·next=>
   split at h
   ·next e=>subst e; exact lE h
   ·next=>
    split at h
    ·next e=>subst e; exact lD h
    ·next=>
     simp at h
theorem yr {F:Nat} {fn0:Nat} {b0:Int} {r:Bool} (h:eY F fn0 b0 = some r):bB Tryz.prog fn0:=by
 unfold eY at h
 split at h
 ·next e=>subst e; exact goes94
 ·next=>
  split at h
  ·next e=>subst e; exact yW
  ·next=>
   split at h
   ·next e=>subst e; exact goes99
   ·next=>
    split at h
    ·next e=>subst e; exact goes101
    ·next=>
     simp at h
def bd (F:Nat) (c0s:Str) (c0at:Int):Option Int :=
 if (decide (c0at = (c0s.length:Int))) = true then (some 0) else ((aZ c0s c0at).bind fun x_1=>some (x_1.toNat:Int))
theorem bD {F:Nat} {c0s:Str} {c0at:Int} {r:Int} (h:bd F c0s c0at = some r):ax Tryz.prog (bh mx) 92 [(1,.box 77 [.str c0s,.i c0at])] [.ptr 1 0] (Is [(1,.box 77 [.str c0s,.i c0at])] (.b (.one (.int .u8 r)))):=by
 unfold bd at h
 refine ax.intro 22 Tryz.func92 Tryz.ntmps92 rfl (by simp) fun E=>?_
 show ab _ E ⟨22,[1],[1],[]⟩ _ ⟨[(0,Pt 1 0)],[(1,.box 77 [.str c0s,.i c0at])]⟩ _
 refine ab.seq (ab.aa ?_)
 refine Oc oa (ae.aj ⟨[(0,Pt 1 0)],[(1,.box 77 [.str c0s,.i c0at])]⟩ rfl (ab.seq (ab.seq ?_)))
 refine ab.ah ⟨[(0,_)],[(1,_)]⟩ rfl (ab.bR mixed 10 [Pt 1 0,Pt 1 0,Pt 1 1,I c0at,Pt 1 0,Pt 1 0,Pt 1 0,.b (.one (.str c0s)),I (c0s.length:Int),B (decide (c0at = (c0s.length:Int)))] [0,12] [1] (s':=⟨[(0,_),(12,B (decide (c0at = (c0s.length:Int))))],[(1,_)]⟩) rfl ⟨fun _=>.p om,fun _=>.p (ar rfl),fun _=>.p (af bu rfl rfl),fun _=>.p (aq b6 rfl rfl rfl),fun _=>.p om,fun _=>.p (ar rfl),fun _=>.p (af fC rfl rfl),fun _=>.p (aq cG rfl rfl rfl),fun _=>.p (bS du rfl),fun _=>.p (c9 rfl rfl),trivial⟩ rfl rfl (ab.ite h rfl (fun _ h=>?_) (fun _ h=>?_)))
 ·refine ab.seq (ab.aa ?_)
  refine Oc oa (ae.aj ⟨[(2,.b (.one (.int .u8 0)))],[(1,_)]⟩ rfl (ab.ret (Fin.aI ?_)))
  obtain rfl:=Option.some.inj h
  refine Fin.ah ⟨[(2,_)],[(1,_)]⟩ rfl ?_
  exact Fin.result [.one (.int .u8 0)] (.inl rfl) rfl (.cons (.tmp rfl) .nil) ⟨rfl,rfl⟩
 ·refine ab.skip (Fin.ah ⟨[(0,_)],[(1,_)]⟩ rfl (Fin.then (ab.seq ?_)))
  refine ab.ah ⟨[(0,_)],[(1,_)]⟩ rfl ?_
  obtain ⟨x_1,e1,h⟩:=aO h
  refine ab.bR mixed 10 [Pt 1 0,Pt 1 0,Pt 1 0,.b (.one (.str c0s)),Pt 1 0,Pt 1 0,Pt 1 1,I c0at,.b (.one (.int .u8 (x_1.toNat:Int))),.b (.one (.int .u8 (x_1.toNat:Int)))] [2] [1] (s':=⟨[(2,.b (.one (.int .u8 (x_1.toNat:Int))))],[(1,_)]⟩) rfl ⟨fun _=>.p om,fun _=>.p (ar rfl),fun _=>.p (af fC rfl rfl),fun _=>.p (aq cG rfl rfl rfl),fun _=>.p om,fun _=>.p (ar rfl),fun _=>.p (af bu rfl rfl),fun _=>.p (aq b6 rfl rfl rfl),fun _=>.p (b8 du rfl rfl (bb e1) (fK e1)),fun _=>.p oa,trivial⟩ rfl rfl (ab.ret ?_)
  obtain rfl:=Option.some.inj h
  refine Fin.ah ⟨[(2,_)],[(1,_)]⟩ rfl ?_
  exact Fin.result [.one (.int .u8 (x_1.toNat:Int))] (.inl rfl) rfl (.cons (.tmp rfl) .nil) ⟨rfl,rfl⟩
def b9 (F:Nat) (is0:Nat) (c0s:Str) (c0at:Int):Option (Int × Str × Int) :=
 Option.bind (iter F (fun c_2=>(bx (decide (c_2.pos < (c_2.s.length:Int))) (aZ c_2.s c_2.pos)).bind fun x_4=>(bx (decide (c_2.pos < (c_2.s.length:Int))) (eY F is0 (x_4.toNat:Int))).bind fun x_5=>if ((decide (c_2.pos < (c_2.s.length:Int))) && x_5) = true then (some (.inl (⟨c_2.s,IntKind.i64.wrap (c_2.pos + 1)⟩:Scan))) else (some (.inr c_2))) (⟨c0s,c0at⟩:Scan)) (fun c_1=>some (IntKind.i64.wrap (c_1.pos - c0at),c_1.s,c_1.pos))
theorem dp {F:Nat} {is0:Nat} {c0s:Str} {c0at:Int} {r:Int × Str × Int} (h:b9 F is0 c0s c0at = some r):ax Tryz.prog (bh mx) 93 [(1,.box 77 [.str c0s,.i c0at])] [.ptr 1 0,.one (.raw (.func (.func is0) #[] #[]))] (Is [(1,.box 77 [.str r.2.1,.i r.2.2])] (.b (.one (.i r.1)))):=by
 unfold b9 at h
 refine ax.intro 46 Tryz.func93 Tryz.ntmps93 rfl (by simp) fun E=>?_
 show ab _ E ⟨46,[1],[1],[]⟩ _ ⟨[(0,Pt 1 0),(1,.b (.one (.raw (.func (.func is0) #[] #[]))))],[(1,.box 77 [.str c0s,.i c0at])]⟩ _
 refine ab.seq (ab.aa ?_)
 refine Oc oa (ae.aj ⟨[(0,Pt 1 0),(1,.b (.one (.raw (.func (.func is0) #[] #[]))))],[(1,.box 77 [.str c0s,.i c0at])]⟩ rfl (ab.seq (ab.aa ?_)))
 refine Oc om (Oc (ar rfl) (Oc (af bu rfl rfl) (Oc (aq b6 rfl rfl rfl) (Oc oa ?_))))
 refine ae.aj ⟨[(0,_),(1,_),(5,I c0at)],[(1,_)]⟩ rfl ?_
 obtain ⟨v1,h2,h⟩:=aO h
 refine ab.cN (v:=v1) (fun (c_1:Scan)=>⟨[(0,Pt 1 0),(5,I c0at)],[(1,.box 77 (iA c_1))]⟩) (fun z=>z) ?_ ?_
 ·refine ab.block (ab.dM h2 (fun (c_2:Scan)=>⟨[(0,Pt 1 0),(1,.b (.one (.raw (.func (.func is0) #[] #[])))),(5,I c0at)],[(1,.box 77 (iA c_2))]⟩) [0,1,5] [1] rfl ?_)
  rintro c_2 o3 h4 hy5
  refine ab.seq (ab.seq ?_)
  refine ab.ah ⟨[(0,_),(1,_),(5,_)],[(1,_)]⟩ rfl ?_
  obtain ⟨x_4,e16,h4⟩:=aO h4
  obtain ⟨x_5,e18,h4⟩:=aO h4
  refine ab.bR mixed 23 [Pt 1 0,Pt 1 0,Pt 1 1,I c_2.pos,Pt 1 0,Pt 1 0,Pt 1 0,.b (.one (.str c_2.s)),I (c_2.s.length:Int),B (decide (c_2.pos < (c_2.s.length:Int))),B (decide (c_2.pos < (c_2.s.length:Int))),.opt (decide (c_2.pos < (c_2.s.length:Int))) (.one (.raw (.func (.func is0) #[] #[]))),.opt (decide (c_2.pos < (c_2.s.length:Int))) (.ptr 1 0),.opt (decide (c_2.pos < (c_2.s.length:Int))) (.ptr 1 0),.opt (decide (c_2.pos < (c_2.s.length:Int))) (.ptr 1 0),.opt (decide (c_2.pos < (c_2.s.length:Int))) (.one (.str c_2.s)),.opt (decide (c_2.pos < (c_2.s.length:Int))) (.ptr 1 0),.opt (decide (c_2.pos < (c_2.s.length:Int))) (.ptr 1 0),.opt (decide (c_2.pos < (c_2.s.length:Int))) (.ptr 1 1),.opt (decide (c_2.pos < (c_2.s.length:Int))) (.one (.i c_2.pos)),.opt (decide (c_2.pos < (c_2.s.length:Int))) (.one (.int .u8 (x_4.toNat:Int))),.opt (decide (c_2.pos < (c_2.s.length:Int))) (.one (.bool x_5)),B ((decide (c_2.pos < (c_2.s.length:Int))) && x_5)] [0,1,5,32] [1] (s':=⟨[(0,_),(1,_),(5,_),(32,B ((decide (c_2.pos < (c_2.s.length:Int))) && x_5))],[(1,_)]⟩) rfl ⟨fun _=>.p om,fun _=>.p (ar rfl),fun _=>.p (af bu rfl rfl),fun _=>.p (aq b6 rfl rfl rfl),fun _=>.p om,fun _=>.p (ar rfl),fun _=>.p (af fC rfl rfl),fun _=>.p (aq cG rfl rfl rfl),fun _=>.p (bS du rfl),fun _=>.p (b7 rfl rfl),fun _=>.p om,fun _=>by exact .guard (decide (c_2.pos < (c_2.s.length:Int))) 1 [] (.plain rfl) (cO _) rfl rfl (fun g6=>trivial) (fun g6=>om),fun _=>by exact .guard (decide (c_2.pos < (c_2.s.length:Int))) 1 [] (.plain rfl) (cO _) rfl rfl (fun g7=>trivial) (fun g7=>om),fun _=>by exact .guard (decide (c_2.pos < (c_2.s.length:Int))) 2 [22] (.plain rfl) (cO _) rfl rfl (fun g8=>⟨g8,trivial⟩) (fun g8=>ar rfl),fun _=>by exact .guard (decide (c_2.pos < (c_2.s.length:Int))) 2 [23] (.plain rfl) (cO _) rfl rfl (fun g9=>⟨g9,trivial⟩) (fun g9=>af fC rfl rfl),fun _=>by exact .guard (decide (c_2.pos < (c_2.s.length:Int))) 2 [24] (.plain rfl) (cO _) rfl rfl (fun g10=>⟨g10,trivial⟩) (fun g10=>aq cG rfl rfl rfl),fun _=>by exact .guard (decide (c_2.pos < (c_2.s.length:Int))) 1 [] (.plain rfl) (cO _) rfl rfl (fun g11=>trivial) (fun g11=>om),fun _=>by exact .guard (decide (c_2.pos < (c_2.s.length:Int))) 2 [26] (.plain rfl) (cO _) rfl rfl (fun g12=>⟨g12,trivial⟩) (fun g12=>ar rfl),fun _=>by exact .guard (decide (c_2.pos < (c_2.s.length:Int))) 2 [27] (.plain rfl) (cO _) rfl rfl (fun g13=>⟨g13,trivial⟩) (fun g13=>af bu rfl rfl),fun _=>by exact .guard (decide (c_2.pos < (c_2.s.length:Int))) 2 [28] (.plain rfl) (cO _) rfl rfl (fun g14=>⟨g14,trivial⟩) (fun g14=>aq b6 rfl rfl rfl),fun _=>by exact .guard (decide (c_2.pos < (c_2.s.length:Int))) 3 [25,29] (.plain rfl) (cO _) rfl rfl (fun g15=>⟨g15,g15,trivial⟩) (fun g15=>b8 du rfl rfl (bb (gc e16 g15)) (fK (gc e16 g15))),fun _=>by exact .guard (decide (c_2.pos < (c_2.s.length:Int))) 4 [21,30] (.plain rfl) (cO _) rfl rfl (fun g17=>⟨g17,g17,trivial⟩) (fun g17=>Bq (yq (gc e18 g17)) (yr (gc e18 g17)) rfl rfl rfl),fun _=>.p (aJ (fun e=>e) rfl rfl rfl rfl),trivial⟩ rfl rfl ?_
  refine ab.ite h4 rfl (fun _ h4=>?_) (fun _ h4=>?_)
  ·refine ab.skip (Fin.ah ⟨[(0,_),(1,_),(5,_)],[(1,_)]⟩ rfl (Fin.then (ab.block (ab.aa ?_))))
   refine Oc om (Oc (ar rfl) (Oc (af bu rfl rfl) (Oc (aq b6 rfl rfl rfl) (Oc (aW rfl rfl) (Oc (ar rfl) ?_)))))
   refine Oc (af bu rfl rfl) (Oc (bA b6 rfl rfl rfl (Nat.le_of_ble_eq_true rfl) rfl) ?_)
   refine ae.nil (Fin.aC ?_)
   exact Fin.cy [0,1,5] [1] (⟨c_2.s,IntKind.i64.wrap (c_2.pos + 1)⟩:Scan) (Option.some.inj h4) rfl
  ·refine ab.exit (Fin.aB ?_)
   obtain rfl:=hy5 _ (Option.some.inj h4).symm
   refine Fin.aB (Fin.aU ?_)
   exact Fin.join [0,5] [1] c_2 rfl rfl
 ·rintro c_1 hv
  subst v1
  refine ab.seq (ab.aa ?_)
  refine Oc om (Oc (ar rfl) (Oc (af bu rfl rfl) (Oc (aq b6 rfl rfl rfl) (Oc om (Oc (cR rfl rfl) ?_)))))
  refine Oc oa (ae.aj ⟨[(4,I (IntKind.i64.wrap (c_1.pos - c0at)))],[(1,_)]⟩ rfl (ab.ret ?_))
  obtain rfl:=Option.some.inj h
  refine Fin.ah ⟨[(4,_)],[(1,_)]⟩ rfl ?_
  exact Fin.result [.one (.i (IntKind.i64.wrap (c_1.pos - c0at)))] (.inl rfl) rfl (.cons (.tmp rfl) .nil) ⟨rfl,rfl⟩
def bg (F:Nat) (at0:Int) (e0:Int) (c0s:Str) (c0at:Int):Option Problem :=
 some (⟨at0,e0⟩:Problem)
theorem ct {F:Nat} {at0:Int} {e0:Int} {c0s:Str} {c0at:Int} {r:Problem} (h:bg F at0 e0 c0s c0at = some r):jf Tryz.prog (bh mx) 96 [(1,.box 77 [.str c0s,.i c0at])] [.ptr 1 0,.one (.i at0),.one (.i e0)] ((fun p:Problem=>.iface 46 (.agg #[.int .i64 p.At,.int .i64 p.E])) r) ((fun p:Problem=>jU .i64 p.At ∧ jU .i64 p.E) r):=by
 unfold bg at h
 refine eu.intro 10 Tryz.func96 Tryz.ntmps96 rfl (by simp) fun E=>?_
 show ab _ E ⟨10,[1],[1],[]⟩ _ ⟨[(0,Pt 1 0),(1,I at0),(2,I e0)],[(1,.box 77 [.str c0s,.i c0at])]⟩ _
 refine ab.aa (Oc om (Oc om (Oc (bz gZ rfl rfl) (Oc (wY conc46 rfl) ?_))))
 refine ae.panic2 rfl (fun hok=>?_)
 obtain rfl:=Option.some.inj h
 exact Fin.oq ⟨rfl,hok⟩
def kq (F:Nat) (x0:Str):Option Bool :=
 some (decide (x0 ≠ x0))
theorem oQ {F:Nat} {x0:Str} {r:Bool} (h:kq F x0 = some r):ax Tryz.prog (bh mx) 149 [] [.one (.str x0)] (Is [] (.b (.one (.bool r)))):=by
 unfold kq at h
 refine ax.intro 6 Tryz.func149 Tryz.ntmps149 rfl (by simp) fun E=>?_
 show ab _ E ⟨6,[],[],[]⟩ _ ⟨[(0,.b (.one (.str x0)))],[]⟩ _
 refine ab.seq (ab.aa ?_)
 refine Oc oa (ae.aj ⟨[(0,.b (.one (.str x0)))],[]⟩ rfl (ab.seq (ab.aa ?_)))
 refine Oc om (Oc om (Oc (ll rfl rfl) (Oc oa ?_)))
 refine ae.aj ⟨[(2,B (decide (x0 ≠ x0)))],[]⟩ rfl (ab.ret ?_)
 obtain rfl:=Option.some.inj h
 refine Fin.ah ⟨[(2,_)],[]⟩ rfl (Fin.ay [.one (.bool (decide (x0 ≠ x0)))] (.inl rfl) rfl (.cons (.tmp rfl) .nil) ⟨rfl,rfl⟩)
def nJ (F:Nat) (x0:Str) (y0:Str):Option Bool :=
 (kq F x0).bind fun x_1=>(bx x_1 (kq F y0)).bind fun x_2=>some ((x_1 && (!x_2)) || (Op.bytesLess x0 y0))
theorem u9 {F:Nat} {x0:Str} {y0:Str} {r:Bool} (h:nJ F x0 y0 = some r):ax Tryz.prog (bh mx) 115 [] [.one (.str x0),.one (.str y0)] (Is [] (.b (.one (.bool r)))):=by
 unfold nJ at h
 refine ax.intro 17 Tryz.func115 Tryz.ntmps115 rfl (by simp) fun E=>?_
 show ab _ E ⟨17,[],[],[]⟩ _ ⟨[(0,.b (.one (.str x0))),(1,.b (.one (.str y0)))],[]⟩ _
 refine ab.seq (ab.aa ?_)
 refine Oc oa (ae.aj ⟨[(0,.b (.one (.str x0))),(1,.b (.one (.str y0)))],[]⟩ rfl (ab.seq (ab.aa ?_)))
 refine Oc om ?_
 obtain ⟨x_1,e1,h⟩:=aO h
 refine Oc (ag (oQ e1) As rfl rfl) (Oc om ?_)
 refine dE x_1 [] (fun g2=>trivial) (fun g2=>om) (ae.ah ⟨[(0,_),(1,_),(7,B x_1),(8,.opt x_1 (.one (.str y0)))],[]⟩ rfl ?_)
 obtain ⟨x_2,e4,h⟩:=aO h
 refine dE x_1 [8] (fun g3=>⟨g3,trivial⟩) (fun g3=>ag (oQ (gc e4 g3)) As rfl rfl) (dE x_1 [9] (fun g5=>⟨g5,trivial⟩) (fun g5=>cX rfl) (Oc (aJ (fun e=>e) rfl rfl rfl rfl) (Oc om ?_)))
 refine fU (!(x_1 && (!x_2))) [] (fun g6=>trivial) (fun g6=>om) (fU (!(x_1 && (!x_2))) [] (fun g7=>by exact trivial) (fun g7=>om) (fU (!(x_1 && (!x_2))) [13,14] (fun g8=>by exact ⟨g8,g8,trivial⟩) (fun g8=>zu rfl rfl) (Oc (bt (fun e=>by first | (rw [e]; rfl) | (simp only at e; rw [e]; rfl)) rfl rfl rfl rfl) (Oc oa ?_))))
 refine ae.aj ⟨[(4,B ((x_1 && (!x_2)) || (Op.bytesLess x0 y0)))],[]⟩ rfl (ab.ret ?_)
 obtain rfl:=Option.some.inj h
 refine Fin.ah ⟨[(4,_)],[]⟩ rfl (Fin.ay [.one (.bool ((x_1 && (!x_2)) || (Op.bytesLess x0 y0)))] (.inl rfl) rfl (.cons (.tmp rfl) .nil) ⟨rfl,rfl⟩)
def gK (F:Nat) (x0:Str):Option Bool :=
 some (decide (x0 ≠ x0))
theorem lZ {F:Nat} {x0:Str} {r:Bool} (h:gK F x0 = some r):ax Tryz.prog (bh mx) 116 [] [.one (.str x0)] (Is [] (.b (.one (.bool r)))):=by
 unfold gK at h
 refine ax.intro 6 Tryz.func116 Tryz.ntmps116 rfl (by simp) fun E=>?_
 show ab _ E ⟨6,[],[],[]⟩ _ ⟨[(0,.b (.one (.str x0)))],[]⟩ _
 refine ab.seq (ab.aa ?_)
 refine Oc oa (ae.aj ⟨[(0,.b (.one (.str x0)))],[]⟩ rfl (ab.seq (ab.aa ?_)))
 refine Oc om (Oc om (Oc (ll rfl rfl) (Oc oa ?_)))
 refine ae.aj ⟨[(2,B (decide (x0 ≠ x0)))],[]⟩ rfl (ab.ret ?_)
 obtain rfl:=Option.some.inj h
 refine Fin.ah ⟨[(2,_)],[]⟩ rfl (Fin.ay [.one (.bool (decide (x0 ≠ x0)))] (.inl rfl) rfl (.cons (.tmp rfl) .nil) ⟨rfl,rfl⟩)
def eG (F:Nat) (x0:List Str) (target0:Str):Option (Int × Bool) :=
 Option.bind (iter F (cF fun i_2 j_3=>if (decide (i_2 < j_3)) = true then (cu (IntKind.u64.wrap (IntKind.i64.wrap (i_2 + j_3))) fun x_5=>(aZ x0 (IntKind.i64.wrap (x_5 / 2))).bind fun x_6=>(nJ F x_6 target0).bind fun x_7=>if x_7 = true then (cu (IntKind.i64.wrap ((IntKind.i64.wrap (x_5 / 2)) + 1)) fun x_8=>some (.inl (x_8,j_3))) else (some (.inl (i_2,IntKind.i64.wrap (x_5 / 2))))) else (some (.inr i_2))) (0,(x0.length:Int))) (fun i_1=>(bx (decide (i_1 < (x0.length:Int))) (aZ x0 i_1)).bind fun x_9=>(bx ((decide (i_1 < (x0.length:Int))) && !(decide (x_9 = target0))) (aZ x0 i_1)).bind fun x_10=>(bx ((decide (i_1 < (x0.length:Int))) && !(decide (x_9 = target0))) (gK F x_10)).bind fun x_11=>(bx (((decide (i_1 < (x0.length:Int))) && !(decide (x_9 = target0))) && x_11) (gK F target0)).bind fun x_12=>cu ((decide (i_1 < (x0.length:Int))) && ((decide (x_9 = target0)) || (x_11 && x_12))) fun x_13=>some (i_1,x_13))
theorem mh {F:Nat} {x0:List Str} {target0:Str} {r:Int × Bool} (h:eG F x0 target0 = some r):ax Tryz.prog (bh mx) 56 [] [.one (.sl 1 (x0.map eS)),.one (.str target0)] (Is [] (.fG [.one (.i r.1),.one (.bool r.2)])):=by
 unfold eG at h
 refine ax.intro 54 Tryz.func56 Tryz.ntmps56 rfl (by simp) fun E=>?_
 show ab _ E ⟨54,[],[],[]⟩ _ ⟨[(0,.b (.one (.sl 1 (x0.map eS)))),(1,.b (.one (.str target0)))],[]⟩ _
 refine ab.seq (ab.aa ?_)
 refine Oc oa (Oc oa ?_)
 refine ae.aj ⟨[(0,.b (.one (.sl 1 (x0.map eS)))),(1,.b (.one (.str target0)))],[]⟩ rfl (ab.seq (ab.aa ?_))
 refine Oc om (Oc (cm n3 rfl (List.length_map _)) (Oc oa ?_))
 refine ae.aj ⟨[(0,_),(1,_),(6,I (x0.length:Int))],[]⟩ rfl (ab.seq (ab.aa ?_))
 refine Oc om (Oc oa (Oc oa ?_))
 refine ae.aj ⟨[(0,_),(1,_),(6,_),(7,I 0),(8,I (x0.length:Int))],[]⟩ rfl ?_
 obtain ⟨v1,h2,h⟩:=aO h
 refine ab.cN (v:=v1) (fun (i_1:Int)=>⟨[(0,.b (.one (.sl 1 (x0.map eS)))),(1,.b (.one (.str target0))),(6,I (x0.length:Int)),(7,I i_1)],[]⟩) (fun z=>z) ?_ ?_
 ·refine ab.block (ab.dM h2 (cF fun (i_2:Int) (j_3:Int)=>⟨[(0,.b (.one (.sl 1 (x0.map eS)))),(1,.b (.one (.str target0))),(6,I (x0.length:Int)),(7,I i_2),(8,I j_3)],[]⟩) [0,1,6,7,8] [] rfl ?_)
  rintro ⟨i_2,j_3⟩ o3 h4 hy5
  refine ab.seq (ab.seq (ab.aa ?_))
  refine Oc om (Oc om (Oc (b7 rfl rfl) ?_))
  refine ae.aj ⟨[(0,_),(1,_),(6,_),(7,_),(8,_),(15,B (decide (i_2 < j_3)))],[]⟩ rfl (ab.ite h4 rfl (fun _ h4=>?_) (fun _ h4=>?_))
  ·refine ab.skip (Fin.ah ⟨[(0,_),(1,_),(6,_),(7,_),(8,_)],[]⟩ rfl (Fin.then (ab.block (ab.seq (ab.aa ?_)))))
   refine Oc om (Oc om (Oc (aW rfl rfl) ?_))
   refine ae.dw .u64 h4 rfl (az pQ Cl rfl) (fun x_5 h4=>?_)
   refine Oc (fM (m:=1) (by decide) rfl rfl rfl) (Oc (az Cl pQ rfl) (Oc oa ?_))
   refine ae.aj ⟨[(0,_),(1,_),(6,_),(7,_),(8,_),(9,I (IntKind.i64.wrap (x_5 / 2)))],[]⟩ rfl (ab.seq (ab.aa ?_))
   refine Oc om (Oc om ?_)
   obtain ⟨x_6,e6,h4⟩:=aO h4
   refine Oc (bK dT (bb e6) (dH (e:=eS) e6) rfl rfl) (Oc (bm cG rfl rfl) (Oc om ?_))
   obtain ⟨x_7,e7,h4⟩:=aO h4
   refine Oc (ag (u9 e7) goes115 rfl rfl) (ae.aj ⟨[(0,_),(1,_),(6,_),(7,_),(8,_),(9,_),(27,B x_7)],[]⟩ rfl (ab.ite h4 rfl (fun _ h4=>?_) (fun _ h4=>?_)))
   ·refine ab.aa (Oc om (ae.dw .i64 h4 rfl (aW rfl rfl) (fun x_8 h4=>?_)))
    refine Oc oa (ae.nil (Fin.aC ?_))
    exact Fin.cy [0,1,6,7,8] [] (x_8,j_3) (Option.some.inj h4) rfl
   ·refine ab.aa (Oc om (Oc oa ?_))
    refine ae.nil (Fin.aC ?_)
    exact Fin.cy [0,1,6,7,8] [] (i_2,IntKind.i64.wrap (x_5 / 2)) (Option.some.inj h4) rfl
  ·refine ab.exit (Fin.aB ?_)
   obtain rfl:=hy5 _ (Option.some.inj h4).symm
   refine Fin.aB (Fin.aU ?_)
   exact Fin.join [0,1,6,7] [] i_2 rfl rfl
 ·rintro i_1 hv
  subst v1
  refine ab.seq (ab.aa ?_)
  refine Oc om (Oc om (Oc om (Oc (b7 rfl rfl) (Oc om ?_))))
  refine dE (decide (i_1 < (x0.length:Int))) [] (fun g8=>trivial) (fun g8=>om) (dE (decide (i_1 < (x0.length:Int))) [] (fun g9=>by exact trivial) (fun g9=>om) (ae.ah ⟨[(0,_),(1,_),(7,_),(31,I i_1),(35,B (decide (i_1 < (x0.length:Int)))),(36,.opt (decide (i_1 < (x0.length:Int))) (.one (.sl 1 (x0.map eS)))),(37,.opt (decide (i_1 < (x0.length:Int))) (.one (.i i_1)))],[]⟩ rfl ?_))
  obtain ⟨x_9,e11,h⟩:=aO h
  refine dE (decide (i_1 < (x0.length:Int))) [36,37] (fun g10=>⟨g10,g10,trivial⟩) (fun g10=>bK dT (bb (gc e11 g10)) (dH (e:=eS) (gc e11 g10)) rfl rfl) (dE (decide (i_1 < (x0.length:Int))) [38] (fun g12=>⟨g12,trivial⟩) (fun g12=>bm cG rfl rfl) (dE (decide (i_1 < (x0.length:Int))) [] (fun g13=>trivial) (fun g13=>om) (dE (decide (i_1 < (x0.length:Int))) [39,40] (fun g14=>by exact ⟨g14,g14,trivial⟩) (fun g14=>jN rfl rfl) (dE (decide (i_1 < (x0.length:Int))) [41] (fun g15=>by exact ⟨g15,trivial⟩) (fun g15=>om) (ae.mu ((decide (i_1 < (x0.length:Int))) && !(decide (x_9 = target0))) 99 [] (.under rfl) (fy _ _) rfl rfl (fun g16=>by exact trivial) (fun g16=>om) ?_)))))
  refine ae.mu ((decide (i_1 < (x0.length:Int))) && !(decide (x_9 = target0))) 99 [] (.under rfl) (fy _ _) rfl rfl (fun g17=>trivial) (fun g17=>om) ?_
  obtain ⟨x_10,e19,h⟩:=aO h
  refine ae.mu ((decide (i_1 < (x0.length:Int))) && !(decide (x_9 = target0))) 99 [43,44] (.under rfl) (fy _ _) rfl rfl (fun g18=>⟨g18,g18,trivial⟩) (fun g18=>bK dT (bb (gc e19 g18)) (dH (e:=eS) (gc e19 g18)) rfl rfl) (ae.ah ⟨[(1,_),(31,_),(35,_),(42,.opt (decide (i_1 < (x0.length:Int))) (.one (.bool (decide (x_9 = target0))))),(45,.opt ((decide (i_1 < (x0.length:Int))) && !(decide (x_9 = target0))) (.cW [.str x_10]))],[]⟩ rfl (ae.mu ((decide (i_1 < (x0.length:Int))) && !(decide (x_9 = target0))) 99 [45] (.under rfl) (fy _ _) rfl rfl (fun g20=>⟨g20,trivial⟩) (fun g20=>bm cG rfl rfl) ?_))
  obtain ⟨x_11,e22,h⟩:=aO h
  refine ae.mu ((decide (i_1 < (x0.length:Int))) && !(decide (x_9 = target0))) 99 [46] (.under rfl) (fy _ _) rfl rfl (fun g21=>⟨g21,trivial⟩) (fun g21=>ag (lZ (gc e22 g21)) Ax rfl rfl) (ae.mu ((decide (i_1 < (x0.length:Int))) && !(decide (x_9 = target0))) 99 [47] (.under rfl) (fy _ _) rfl rfl (fun g23=>⟨g23,trivial⟩) (fun g23=>om) (ae.mu (((decide (i_1 < (x0.length:Int))) && !(decide (x_9 = target0))) && x_11) 99 [] (.under rfl) (zW _ _) rfl rfl (fun g24=>trivial) (fun g24=>om) (ae.ah ⟨[(31,_),(35,_),(42,_),(48,.opt ((decide (i_1 < (x0.length:Int))) && !(decide (x_9 = target0))) (.one (.bool x_11))),(49,.opt (((decide (i_1 < (x0.length:Int))) && !(decide (x_9 = target0))) && x_11) (.one (.str target0)))],[]⟩ rfl ?_)))
  obtain ⟨x_12,e26,h⟩:=aO h
  refine ae.mu (((decide (i_1 < (x0.length:Int))) && !(decide (x_9 = target0))) && x_11) 99 [49] (.under rfl) (zW _ _) rfl rfl (fun g25=>⟨g25,trivial⟩) (fun g25=>ag (lZ (gc e26 g25)) Ax rfl rfl) (ae.mu ((decide (i_1 < (x0.length:Int))) && !(decide (x_9 = target0))) 99 [48] (.under rfl) (fy _ _) rfl rfl (fun g27=>⟨g27,trivial⟩) (fun g27=>aJ (fun e=>by rw [g27,e]; rfl) rfl rfl rfl rfl) (dE (decide (i_1 < (x0.length:Int))) [42] (fun g28=>⟨g28,trivial⟩) (fun g28=>bt (fun e=>by rw [g28,e]; rfl) rfl rfl rfl rfl) (ae.lK h rfl (aJ (fun e=>e) rfl rfl rfl rfl) (fun x_13 h=>?_))))
  refine Oc oa (Oc oa ?_)
  refine ae.aj ⟨[(4,I i_1),(5,B x_13)],[]⟩ rfl (ab.ret ?_)
  obtain rfl:=Option.some.inj h
  refine Fin.ah ⟨[(4,_),(5,_)],[]⟩ rfl (Fin.ay [.one (.i i_1),.one (.bool x_13)] (.inl rfl) rfl (.cons (.tmp rfl) (.cons (.tmp rfl) .nil)) ⟨rfl,rfl⟩)
def dX (F:Nat) (s0:Str):Option Bool :=
 Option.bind (eG F eP s0) (cF fun x_1 x_2=>some x_2)
theorem kC {F:Nat} {s0:Str} {r:Bool} (h:dX F s0 = some r):ax Tryz.prog (bh mx) 25 [] [.one (.str s0)] (Is [] (.b (.one (.bool r)))):=by
 unfold dX at h
 refine ax.intro 12 Tryz.func25 Tryz.ntmps25 rfl (by simp) fun E=>?_
 show ab _ E ⟨12,[],[],[]⟩ _ ⟨[(0,.b (.one (.str s0)))],[]⟩ _
 refine ab.seq (ab.aa ?_)
 refine Oc oa (ae.aj ⟨[(0,.b (.one (.str s0)))],[]⟩ rfl (ab.seq (ab.aa ?_)))
 refine Oc (uF (xs:=eP) (enc:=eS) AV AU tyArr88 rfl rfl (fun _=>rfl) (by rw [cU]; decide)) (Oc om ?_)
 obtain ⟨⟨x_1,x_2⟩,e1,h⟩:=aO h
 refine Oc (ag (mh e1) goes56 rfl rfl) (Oc om (Oc (aF rfl rfl) ?_))
 refine ae.ah ⟨[(5,.fG [.one (.i x_1),.one (.bool x_2)]),(9,I x_1)],[]⟩ rfl (Oc (aF rfl rfl) (Oc oa (Oc oa ?_)))
 refine ae.aj ⟨[(4,B x_2)],[]⟩ rfl (ab.seq (ab.aa ?_))
 refine Oc om (Oc oa ?_)
 refine ae.aj ⟨[(2,B x_2)],[]⟩ rfl (ab.ret ?_)
 obtain rfl:=Option.some.inj h
 refine Fin.ah ⟨[(2,_)],[]⟩ rfl (Fin.ay [.one (.bool x_2)] (.inl rfl) rfl (.cons (.tmp rfl) .nil) ⟨rfl,rfl⟩)
def bZ (F:Nat) (c0s:Str) (c0at:Int):Option ((Token × Bool × Str × Int) ⊕ Problem) :=
 (bd F c0s c0at).bind fun x_1=>(dK F x_1).bind fun x_2=>if (!x_2) = true then (some (.inl ((⟨0,0,[]⟩:Token),false,c0s,c0at))) else (Option.bind (Option.bind (b9 F 94 c0s c0at) (kr fun x_4 x_5 x_6=>if (decide (32 < x_4)) = true then ((bg F c0at 2 x_5 x_6).bind fun p_7=>some (.inr (.inr p_7))) else (some (.inl (⟨x_5,x_6⟩:Scan))))) (eh (fun c_3=>Option.bind (yG c_3.s c0at c_3.pos) (fun x_8=>Option.bind ((dX F x_8).bind fun x_10=>if x_10 = true then (some (⟨1,c0at,x_8⟩:Token)) else (some (⟨2,c0at,x_8⟩:Token))) (fun t_9=>some (.inl (t_9,true,c_3.s,c_3.pos))))) (fun y=>some y)))
theorem iI {F:Nat} {c0s:Str} {c0at:Int} {r:(Token × Bool × Str × Int) ⊕ Problem} (h:bZ F c0s c0at = some r):eu Tryz.prog (bh mx) 41 [(1,.box 77 [.str c0s,.i c0at])] [.ptr 1 0] (IsP r (fun (r:Token × Bool × Str × Int)=>[(1,.box 77 [.str r.2.2.1,.i r.2.2.2])]) (fun (r:Token × Bool × Str × Int)=>.fG [.agg (aE r.1),.one (.bool r.2.1)])) (AT r (fun p:Problem=>.iface 46 (.agg #[.int .i64 p.At,.int .i64 p.E])) (fun p:Problem=>jU .i64 p.At ∧ jU .i64 p.E)):=by
 unfold bZ at h
 refine eu.intro 38 Tryz.func41 Tryz.ntmps41 rfl (by simp) fun E=>?_
 show ab _ E ⟨38,[1],[1],[]⟩ _ ⟨[(0,Pt 1 0)],[(1,.box 77 [.str c0s,.i c0at])]⟩ _
 refine ab.seq (ab.aa ?_)
 refine Oc (aA (k:=101) gz rfl) (Oc oa ?_)
 refine ae.aj ⟨[(0,Pt 1 0),(2,Pt 101 0)],[(1,.box 77 [.str c0s,.i c0at]),(101,.box 31 [.i 0,.i 0,.str []])]⟩ rfl (ab.seq (ab.aa ?_))
 refine Oc om (Oc (ar rfl) (Oc (af bu rfl rfl) (Oc (aq b6 rfl rfl rfl) (Oc oa ?_))))
 refine ae.aj ⟨[(0,_),(2,_),(4,I c0at)],[(1,_),(101,_)]⟩ rfl (ab.seq (ab.seq (ab.aa ?_)))
 refine Oc om ?_
 obtain ⟨x_1,e1,h⟩:=aO h
 refine Oc (cz (own_a:=[(1,_)]) (bD e1) mb rfl ⟨rfl,trivial⟩ rfl rfl) ?_
 obtain ⟨x_2,e2,h⟩:=aO h
 refine Oc (ag (ju e2) yX rfl rfl) (Oc (cX rfl) ?_)
 refine ae.aj ⟨[(0,_),(2,_),(4,_),(13,B (!x_2))],[(1,_),(101,_)]⟩ rfl (ab.ite h rfl (fun _ h=>?_) (fun _ h=>?_))
 ·refine ab.seq (ab.aa ?_)
  refine Oc (bz ck rfl rfl) (Oc (ao bT rfl rfl rfl rfl (Nat.le_of_ble_eq_true rfl) rfl) (Oc oa ?_))
  refine ae.aj ⟨[(2,_),(3,B false)],[(1,_),(101,_)]⟩ rfl (ab.ret (Fin.aI ?_))
  obtain rfl:=Option.some.inj h
  refine Fin.ah ⟨[(2,_),(3,_)],[(1,_),(101,_)]⟩ rfl (Fin.yH (.inl rfl) ?_)
  exact Fin.nq [1] [.agg [.i 0,.i 0,.str []],.one (.bool false)] (.inl rfl) rfl (.cons (.w9 (.agg bT rfl rfl rfl rfl)) (.cons (.w9 (.tmp rfl)) .nil)) ⟨_,rfl,rfl,rfl⟩
 ·refine ab.skip (Fin.ah ⟨[(0,_),(2,_),(4,_)],[(1,_),(101,_)]⟩ rfl (Fin.then ?_))
  obtain ⟨v3,h4,h⟩:=aO h
  refine ab.cN (v:=v3) (fun (c_3:Scan)=>⟨[(0,Pt 1 0),(2,Pt 101 0),(4,I c0at)],[(1,.box 77 (iA c_3)),(101,.box 31 [.i 0,.i 0,.str []])]⟩) (fun z=>.inl z) ?_ ?_
  ·refine ab.seq (ab.aa ?_)
   refine Oc om ?_
   obtain ⟨⟨x_4,x_5,x_6⟩,e5,h4⟩:=aO h4
   refine Oc (cz (own_a:=[(1,_)]) (dp e5) tP rfl ⟨rfl,trivial⟩ rfl rfl) (Oc (fJ rfl rfl) ?_)
   refine ae.aj ⟨[(0,_),(2,_),(4,_),(17,B (decide (32 < x_4)))],[(1,.box 77 [.str x_5,.i x_6]),(101,_)]⟩ rfl (ab.ite h4 rfl (fun _ h4=>?_) (fun _ h4=>?_))
   ·refine ab.aa (Oc om (Oc om ?_))
    obtain ⟨p_7,e6,h4⟩:=aO h4
    refine ae.pr (own_a:=[(1,_)]) (ct e6) qg rfl ⟨rfl,trivial⟩ (fun hok=>?_)
    obtain rfl:=Option.some.inj h4
    refine Fin.bE ?_
    obtain rfl:=Option.some.inj h
    exact Fin.oq ⟨_,rfl,rfl,hok⟩
   ·refine ab.skip ?_
    exact Fin.join [0,2,4] [1,101] (⟨x_5,x_6⟩:Scan) (Option.some.inj h4) rfl
  ·rintro c_3 hv
   subst v3
   refine ab.seq (ab.ah ⟨[(0,_),(2,_),(4,_)],[(1,_),(101,_)]⟩ rfl ?_)
   obtain ⟨x_8,e7,h⟩:=aO h
   refine ab.ji mixed [false,false,false,false,false,false,false,false,false,false,false,false,true,true] [I c0at,Pt 1 0,Pt 1 0,Pt 1 0,.b (.one (.str c_3.s)),I c0at,Pt 1 0,Pt 1 0,Pt 1 1,I c_3.pos,.b (.one (.str x_8)),.b (.agg [.i 2,.i c0at,.str x_8]),Pt 102 0,B true] [⟨[false,false,false,false,false,false,false,false,false,false,false,false,false,false],[(0,Pt 1 0),(2,Pt 101 0),(4,I c0at)],[(1,.box 77 (iA c_3)),(101,.box 31 [.i 0,.i 0,.str []])],[true,true,true,true,true,true,true,true,true,true,true,true,true,true],[],[13]⟩,⟨[false,false,false,false,false,false,false,false,false,false,false,false,true,false],[(0,Pt 1 0),(2,Pt 101 0),(4,I c0at)],[(1,.box 77 (iA c_3)),(101,.box 31 [.i 0,.i 0,.str []]),(102,.box 31 [.i 0,.i 0,.str []])],[true,true,true,true,true,true,true,true,true,true,true,true,true,true],[12],[]⟩,⟨[false,false,false,false,false,false,false,false,false,false,false,false,true,true],[(0,Pt 1 0),(2,Pt 101 0),(4,I c0at)],[(1,.box 77 (iA c_3)),(101,.box 31 [.i 0,.i 0,.str []]),(102,.box 31 [.i 2,.i c0at,.str x_8])],[true,true,true,true,true,true,true,true,true,true,true,true,true,true],[0,1,2,3,4,5,6,7,8,9,10,11,12,13],[]⟩] rfl (⟨by kernel_rfl,⟨⟨I c0at,fun _=>rfl,fun _=>.p (by exact c5 rfl)⟩,⟨Pt 1 0,fun _=>rfl,fun _=>.p (by exact c5 rfl)⟩,⟨Pt 1 0,fun _=>rfl,fun _=>.p (by exact ar rfl)⟩,⟨Pt 1 0,fun _=>rfl,fun _=>.p (by exact af fC rfl rfl)⟩,⟨.b (.one (.str c_3.s)),fun _=>rfl,fun _=>.p (by exact aq cG rfl rfl rfl)⟩,⟨I c0at,fun _=>rfl,fun _=>.p (by exact c5 rfl)⟩,⟨Pt 1 0,fun _=>rfl,fun _=>.p (by exact c5 rfl)⟩,⟨Pt 1 0,fun _=>rfl,fun _=>.p (by exact ar rfl)⟩,⟨Pt 1 1,fun _=>rfl,fun _=>.p (by exact af bu rfl rfl)⟩,⟨I c_3.pos,fun _=>rfl,fun _=>.p (by exact aq b6 rfl rfl rfl)⟩,⟨.b (.one (.str x_8)),fun _=>rfl,fun _=>.p (by exact nL du e7 rfl rfl rfl)⟩,⟨.b (.agg [.i 2,.i c0at,.str x_8]),fun _=>rfl,fun _=>.p (by exact bz ck rfl rfl)⟩,⟨_,[102],Pt 102 0,rfl,fun _=>rfl,rfl,rfl,fun _=>.l5 [1,101,102] (by exact .p (by exact aA (k:=102) gz rfl)) (by exact rfl)⟩,trivial,trivial⟩,⟨by kernel_rfl,⟨⟨I c0at,fun _=>rfl,fun _=>.p (by exact c5 rfl)⟩,⟨Pt 1 0,fun _=>rfl,fun _=>.p (by exact c5 rfl)⟩,⟨Pt 1 0,fun _=>rfl,fun _=>.p (by exact ar rfl)⟩,⟨Pt 1 0,fun _=>rfl,fun _=>.p (by exact af fC rfl rfl)⟩,⟨.b (.one (.str c_3.s)),fun _=>rfl,fun _=>.p (by exact aq cG rfl rfl rfl)⟩,⟨I c0at,fun _=>rfl,fun _=>.p (by exact c5 rfl)⟩,⟨Pt 1 0,fun _=>rfl,fun _=>.p (by exact c5 rfl)⟩,⟨Pt 1 0,fun _=>rfl,fun _=>.p (by exact ar rfl)⟩,⟨Pt 1 1,fun _=>rfl,fun _=>.p (by exact af bu rfl rfl)⟩,⟨I c_3.pos,fun _=>rfl,fun _=>.p (by exact aq b6 rfl rfl rfl)⟩,⟨.b (.one (.str x_8)),fun _=>rfl,fun _=>.p (by exact nL du e7 rfl rfl rfl)⟩,⟨.b (.agg [.i 2,.i c0at,.str x_8]),fun _=>rfl,fun _=>.p (by exact bz ck rfl rfl)⟩,trivial,⟨_,[],.b (.one .any),rfl,(fun e=>by simp at e),rfl,rfl,fun _=>.l5 [1,101,102] (by exact .p (by exact ao bT rfl rfl rfl rfl (Nat.le_of_ble_eq_true rfl) rfl)) (by exact rfl)⟩,trivial⟩,⟨by kernel_rfl,⟨trivial,trivial,trivial,trivial,trivial,trivial,trivial,trivial,trivial,trivial,trivial,trivial,trivial,trivial,trivial⟩,trivial⟩⟩⟩) rfl rfl rfl [2,5] [1,101,102] (s':=⟨[(2,_),(5,Pt 102 0)],[(1,_),(101,_),(102,.box 31 [.i 2,.i c0at,.str x_8])]⟩) rfl ?_
   obtain ⟨v8,h9,h⟩:=aO h
   refine ab.cN (v:=v8) (fun (t_9:Token)=>⟨[(2,Pt 101 0),(5,Pt 102 0)],[(1,.box 77 (iA c_3)),(101,.box 31 [.i 0,.i 0,.str []]),(102,.box 31 (aE t_9))]⟩) (fun z=>z) ?_ ?_
   ·refine ab.seq (ab.aa ?_)
    refine Oc (af jF rfl rfl) (Oc (aq cG rfl rfl rfl) ?_)
    obtain ⟨x_10,e10,h9⟩:=aO h9
    refine Oc (ag (kC e10) yZ rfl rfl) (ae.aj ⟨[(2,_),(5,_),(35,B x_10)],[(1,_),(101,_),(102,_)]⟩ rfl (ab.ite h9 rfl (fun _ h9=>?_) (fun _ h9=>?_)))
    ·refine ab.aa (Oc (af mN rfl rfl) (Oc (bA b6 rfl rfl rfl (Nat.le_of_ble_eq_true rfl) rfl) ?_))
     refine ae.nil ?_
     exact Fin.join [2,5] [1,101,102] (⟨1,c0at,x_8⟩:Token) (Option.some.inj h9) rfl
    ·refine ab.skip ?_
     exact Fin.join [2,5] [1,101,102] (⟨2,c0at,x_8⟩:Token) (Option.some.inj h9) rfl
   ·rintro t_9 hv
    subst v8
    refine ab.seq (ab.aa ?_)
    refine Oc (lp bT) (Oc (ao bT rfl rfl rfl rfl (Nat.le_of_ble_eq_true rfl) rfl) (Oc oa ?_))
    refine ae.aj ⟨[(2,_),(3,B true)],[(1,_),(101,.box 31 (aE t_9))]⟩ rfl (ab.ret ?_)
    obtain rfl:=Option.some.inj h
    refine Fin.ah ⟨[(2,_),(3,_)],[(1,_),(101,_)]⟩ rfl (Fin.yH (.inl rfl) ?_)
    exact Fin.nq [1] [.agg (aE t_9),.one (.bool true)] (.inl rfl) rfl (.cons (.w9 (.agg bT rfl rfl rfl rfl)) (.cons (.w9 (.tmp rfl)) .nil)) ⟨_,rfl,rfl,rfl⟩
theorem mV {F:Nat} {c0s:Str} {c0at:Int} {r:Token × Bool × Str × Int} (h:bZ F c0s c0at = some (.inl r)):ax Tryz.prog (bh mx) 41 [(1,.box 77 [.str c0s,.i c0at])] [.ptr 1 0] (Is [(1,.box 77 [.str r.2.2.1,.i r.2.2.2])] (.fG [.agg (aE r.1),.one (.bool r.2.1)])):=(iI h).spec
theorem nY {F:Nat} {c0s:Str} {c0at:Int} {p:Problem} (h:bZ F c0s c0at = some (.inr p)):jf Tryz.prog (bh mx) 41 [(1,.box 77 [.str c0s,.i c0at])] [.ptr 1 0] ((fun p:Problem=>.iface 46 (.agg #[.int .i64 p.At,.int .i64 p.E])) p) ((fun p:Problem=>jU .i64 p.At ∧ jU .i64 p.E) p):=(iI h).zQ
def bO (F:Nat) (c0s:Str) (c0at:Int):Option ((Token × Bool × Str × Int) ⊕ Problem) :=
 Option.bind (b9 F 95 c0s c0at) (kr fun x_1 x_2 x_3=>if (decide (x_1 = 0)) = true then (some (.inl ((⟨0,0,[]⟩:Token),false,x_2,x_3))) else (Option.bind ((bd F x_2 x_3).bind fun x_6=>(bx ((decide (x_6 = 46)) && (decide ((IntKind.i64.wrap (x_3 + 1)) < (x_2.length:Int)))) (aZ x_2 (IntKind.i64.wrap (x_3 + 1)))).bind fun x_7=>(bx ((decide (x_6 = 46)) && (decide ((IntKind.i64.wrap (x_3 + 1)) < (x_2.length:Int)))) (fj F (x_7.toNat:Int))).bind fun x_8=>if (((decide (x_6 = 46)) && (decide ((IntKind.i64.wrap (x_3 + 1)) < (x_2.length:Int)))) && x_8) = true then (Option.bind (b9 F 95 x_2 (IntKind.i64.wrap (x_3 + 1))) (kr fun x_9 x_10 x_11=>some ((⟨x_10,x_11⟩:Scan),x_9))) else (some ((⟨x_2,x_3⟩:Scan),0))) (cF fun c_4 back_5=>Option.bind (if (decide (40 < (IntKind.i64.wrap (x_1 + back_5)))) = true then ((bg F c0at 2 c_4.s c_4.pos).bind fun p_12=>some (.inr (.inr p_12))) else ((bx (decide (1 < x_1)) (aZ c_4.s c0at)).bind fun x_13=>(bx (!((decide (1 < x_1)) && (decide ((x_13.toNat:Int) = 48)))) (bd F c_4.s c_4.pos)).bind fun x_14=>(bx (!((decide (1 < x_1)) && (decide ((x_13.toNat:Int) = 48)))) (dK F x_14)).bind fun x_15=>cu (((decide (1 < x_1)) && (decide ((x_13.toNat:Int) = 48))) || x_15) fun x_16=>(bx (!x_16) (bd F c_4.s c_4.pos)).bind fun x_17=>if (x_16 || (decide (x_17 = 95))) = true then ((bg F c0at 281 c_4.s c_4.pos).bind fun p_18=>some (.inr (.inr p_18))) else (some (.inl ())))) (eh (fun _=>Option.bind (yG c_4.s c0at c_4.pos) (fun x_19=>some (.inl ((⟨3,c0at,x_19⟩:Token),true,c_4.s,c_4.pos)))) (fun y=>some y)))))
theorem gR {F:Nat} {c0s:Str} {c0at:Int} {r:(Token × Bool × Str × Int) ⊕ Problem} (h:bO F c0s c0at = some r):eu Tryz.prog (bh mx) 42 [(1,.box 77 [.str c0s,.i c0at])] [.ptr 1 0] (IsP r (fun (r:Token × Bool × Str × Int)=>[(1,.box 77 [.str r.2.2.1,.i r.2.2.2])]) (fun (r:Token × Bool × Str × Int)=>.fG [.agg (aE r.1),.one (.bool r.2.1)])) (AT r (fun p:Problem=>.iface 46 (.agg #[.int .i64 p.At,.int .i64 p.E])) (fun p:Problem=>jU .i64 p.At ∧ jU .i64 p.E)):=by
 unfold bO at h
 refine eu.intro 99 Tryz.func42 Tryz.ntmps42 rfl (by simp) fun E=>?_
 show ab _ E ⟨99,[1],[1],[]⟩ _ ⟨[(0,Pt 1 0)],[(1,.box 77 [.str c0s,.i c0at])]⟩ _
 refine ab.seq (ab.aa ?_)
 refine Oc (aA (k:=101) gz rfl) (Oc oa ?_)
 refine ae.aj ⟨[(0,Pt 1 0),(2,Pt 101 0)],[(1,.box 77 [.str c0s,.i c0at]),(101,.box 31 [.i 0,.i 0,.str []])]⟩ rfl (ab.seq (ab.aa ?_))
 refine Oc om (Oc (ar rfl) (Oc (af bu rfl rfl) (Oc (aq b6 rfl rfl rfl) (Oc oa ?_))))
 refine ae.aj ⟨[(0,_),(2,_),(4,I c0at)],[(1,_),(101,_)]⟩ rfl (ab.seq (ab.aa ?_))
 refine Oc om ?_
 obtain ⟨⟨x_1,x_2,x_3⟩,e1,h⟩:=aO h
 refine Oc (cz (own_a:=[(1,_)]) (dp e1) tP rfl ⟨rfl,trivial⟩ rfl rfl) (Oc oa ?_)
 refine ae.aj ⟨[(0,_),(2,_),(4,_),(5,I x_1)],[(1,.box 77 [.str x_2,.i x_3]),(101,_)]⟩ rfl (ab.seq (ab.seq (ab.aa ?_)))
 refine Oc om (Oc (c9 rfl rfl) ?_)
 refine ae.aj ⟨[(0,_),(2,_),(4,_),(5,_),(14,B (decide (x_1 = 0)))],[(1,_),(101,_)]⟩ rfl (ab.ite h rfl (fun _ h=>?_) (fun _ h=>?_))
 ·refine ab.seq (ab.aa ?_)
  refine Oc (bz ck rfl rfl) (Oc (ao bT rfl rfl rfl rfl (Nat.le_of_ble_eq_true rfl) rfl) (Oc oa ?_))
  refine ae.aj ⟨[(2,_),(3,B false)],[(1,_),(101,_)]⟩ rfl (ab.ret (Fin.aI ?_))
  obtain rfl:=Option.some.inj h
  refine Fin.ah ⟨[(2,_),(3,_)],[(1,_),(101,_)]⟩ rfl (Fin.yH (.inl rfl) ?_)
  exact Fin.nq [1] [.agg [.i 0,.i 0,.str []],.one (.bool false)] (.inl rfl) rfl (.cons (.w9 (.agg bT rfl rfl rfl rfl)) (.cons (.w9 (.tmp rfl)) .nil)) ⟨_,rfl,rfl,rfl⟩
 ·refine ab.skip (Fin.ah ⟨[(0,_),(2,_),(4,_),(5,_)],[(1,_),(101,_)]⟩ rfl (Fin.then (ab.seq (ab.aa ?_))))
  refine Oc oa (ae.aj ⟨[(0,_),(2,_),(4,_),(5,_),(6,I 0)],[(1,_),(101,_)]⟩ rfl ?_)
  obtain ⟨v2,h3,h⟩:=aO h
  refine ab.cN (v:=v2) (cF fun (c_4:Scan) (back_5:Int)=>⟨[(0,Pt 1 0),(2,Pt 101 0),(4,I c0at),(5,I x_1),(6,I back_5)],[(1,.box 77 (iA c_4)),(101,.box 31 [.i 0,.i 0,.str []])]⟩) (fun z=>z) ?_ ?_
  ·refine ab.seq (ab.ah ⟨[(0,_),(2,_),(4,_),(5,_),(6,_)],[(1,_),(101,_)]⟩ rfl ?_)
   obtain ⟨x_6,e4,h3⟩:=aO h3
   obtain ⟨x_7,e5,h3⟩:=aO h3
   obtain ⟨x_8,e6,h3⟩:=aO h3
   refine ab.ji mixed [false,true,false,false,false,false,false,false,false,false,false,false,false,false,false,false,false,false,false,false,false,false,false,false,false,false,false,false,false] [Pt 1 0,.b (.one (.int .u8 x_6)),B (decide (x_6 = 46)),B (decide (x_6 = 46)),.opt (decide (x_6 = 46)) (.ptr 1 0),.opt (decide (x_6 = 46)) (.ptr 1 0),.opt (decide (x_6 = 46)) (.ptr 1 1),.opt (decide (x_6 = 46)) (.one (.i x_3)),.opt (decide (x_6 = 46)) (.one (.i (IntKind.i64.wrap (x_3 + 1)))),.opt (decide (x_6 = 46)) (.ptr 1 0),.opt (decide (x_6 = 46)) (.ptr 1 0),.opt (decide (x_6 = 46)) (.ptr 1 0),.opt (decide (x_6 = 46)) (.one (.str x_2)),.opt (decide (x_6 = 46)) (.one (.i (x_2.length:Int))),.opt (decide (x_6 = 46)) (.one (.bool (decide ((IntKind.i64.wrap (x_3 + 1)) < (x_2.length:Int))))),B ((decide (x_6 = 46)) && (decide ((IntKind.i64.wrap (x_3 + 1)) < (x_2.length:Int)))),B ((decide (x_6 = 46)) && (decide ((IntKind.i64.wrap (x_3 + 1)) < (x_2.length:Int)))),.opt ((decide (x_6 = 46)) && (decide ((IntKind.i64.wrap (x_3 + 1)) < (x_2.length:Int)))) (.ptr 1 0),.opt ((decide (x_6 = 46)) && (decide ((IntKind.i64.wrap (x_3 + 1)) < (x_2.length:Int)))) (.ptr 1 0),.opt ((decide (x_6 = 46)) && (decide ((IntKind.i64.wrap (x_3 + 1)) < (x_2.length:Int)))) (.ptr 1 0),.opt ((decide (x_6 = 46)) && (decide ((IntKind.i64.wrap (x_3 + 1)) < (x_2.length:Int)))) (.one (.str x_2)),.opt ((decide (x_6 = 46)) && (decide ((IntKind.i64.wrap (x_3 + 1)) < (x_2.length:Int)))) (.ptr 1 0),.opt ((decide (x_6 = 46)) && (decide ((IntKind.i64.wrap (x_3 + 1)) < (x_2.length:Int)))) (.ptr 1 0),.opt ((decide (x_6 = 46)) && (decide ((IntKind.i64.wrap (x_3 + 1)) < (x_2.length:Int)))) (.ptr 1 1),.opt ((decide (x_6 = 46)) && (decide ((IntKind.i64.wrap (x_3 + 1)) < (x_2.length:Int)))) (.one (.i x_3)),.opt ((decide (x_6 = 46)) && (decide ((IntKind.i64.wrap (x_3 + 1)) < (x_2.length:Int)))) (.one (.i (IntKind.i64.wrap (x_3 + 1)))),.opt ((decide (x_6 = 46)) && (decide ((IntKind.i64.wrap (x_3 + 1)) < (x_2.length:Int)))) (.one (.int .u8 (x_7.toNat:Int))),.opt ((decide (x_6 = 46)) && (decide ((IntKind.i64.wrap (x_3 + 1)) < (x_2.length:Int)))) (.one (.bool x_8)),B (((decide (x_6 = 46)) && (decide ((IntKind.i64.wrap (x_3 + 1)) < (x_2.length:Int)))) && x_8)] [⟨[false,false,false,false,false,false,false,false,false,false,false,false,false,false,false,false,false,false,false,false,false,false,false,false,false,false,false,false,false],[(0,Pt 1 0),(2,Pt 101 0),(4,I c0at),(5,I x_1),(6,I 0)],[(1,.box 77 [.str x_2,.i x_3]),(101,.box 31 [.i 0,.i 0,.str []])],[true,true,true,true,true,true,true,true,true,true,true,true,true,true,true,true,true,true,true,true,true,true,true,true,true,true,true,true,true],[],[2,3,4,5,6,7,8,9,10,11,12,13,14,15,16,17,18,19,20,21,22,23,24,25,26,27,28]⟩,⟨[false,true,false,false,false,false,false,false,false,false,false,false,false,false,false,false,false,false,false,false,false,false,false,false,false,false,false,false,false],[(0,Pt 1 0),(2,Pt 101 0),(4,I c0at),(5,I x_1),(6,I 0)],[(1,.box 77 [.str x_2,.i x_3]),(101,.box 31 [.i 0,.i 0,.str []])],[true,true,true,true,true,true,true,true,true,true,true,true,true,true,true,true,true,true,true,true,true,true,true,true,true,true,true,true,true],[0,1],[]⟩] rfl (⟨by kernel_rfl,⟨⟨Pt 1 0,fun _=>rfl,fun _=>.p (by exact c5 rfl)⟩,⟨_,[],.b (.one (.int .u8 x_6)),rfl,fun _=>rfl,rfl,rfl,fun _=>.l5 [1,101] (by exact .p (by exact cz (own_a:=[(1,_)]) (bD e4) mb rfl ⟨rfl,trivial⟩ rfl rfl)) (by exact rfl)⟩,trivial,trivial,trivial,trivial,trivial,trivial,trivial,trivial,trivial,trivial,trivial,trivial,trivial,trivial,trivial,trivial,trivial,trivial,trivial,trivial,trivial,trivial,trivial,trivial,trivial,trivial,trivial,trivial⟩,⟨by kernel_rfl,⟨trivial,trivial,⟨B (decide (x_6 = 46)),fun _=>rfl,fun _=>.p (by exact c9 rfl rfl)⟩,⟨B (decide (x_6 = 46)),fun _=>rfl,fun _=>.p (by exact c5 rfl)⟩,⟨.opt (decide (x_6 = 46)) (.ptr 1 0),fun _=>rfl,fun _=>by exact .guard (decide (x_6 = 46)) 1 [] (.plain rfl) (cO _) rfl rfl (fun gg4=>trivial) (fun gg4=>om)⟩,⟨.opt (decide (x_6 = 46)) (.ptr 1 0),fun _=>rfl,fun _=>by exact .guard (decide (x_6 = 46)) 2 [20] (.plain rfl) (cO _) rfl rfl (fun gg5=>⟨gg5,trivial⟩) (fun gg5=>ar rfl)⟩,⟨.opt (decide (x_6 = 46)) (.ptr 1 1),fun _=>rfl,fun _=>by exact .guard (decide (x_6 = 46)) 2 [21] (.plain rfl) (cO _) rfl rfl (fun gg6=>⟨gg6,trivial⟩) (fun gg6=>af bu rfl rfl)⟩,⟨.opt (decide (x_6 = 46)) (.one (.i x_3)),fun _=>rfl,fun _=>by exact .guard (decide (x_6 = 46)) 2 [22] (.plain rfl) (cO _) rfl rfl (fun gg7=>⟨gg7,trivial⟩) (fun gg7=>aq b6 rfl rfl rfl)⟩,⟨.opt (decide (x_6 = 46)) (.one (.i (IntKind.i64.wrap (x_3 + 1)))),fun _=>rfl,fun _=>by exact .guard (decide (x_6 = 46)) 2 [23] (.plain rfl) (cO _) rfl rfl (fun gg8=>⟨gg8,trivial⟩) (fun gg8=>aW rfl rfl)⟩,⟨.opt (decide (x_6 = 46)) (.ptr 1 0),fun _=>rfl,fun _=>by exact .guard (decide (x_6 = 46)) 1 [] (.plain rfl) (cO _) rfl rfl (fun gg9=>trivial) (fun gg9=>om)⟩,⟨.opt (decide (x_6 = 46)) (.ptr 1 0),fun _=>rfl,fun _=>by exact .guard (decide (x_6 = 46)) 2 [25] (.plain rfl) (cO _) rfl rfl (fun gg10=>⟨gg10,trivial⟩) (fun gg10=>ar rfl)⟩,⟨.opt (decide (x_6 = 46)) (.ptr 1 0),fun _=>rfl,fun _=>by exact .guard (decide (x_6 = 46)) 2 [26] (.plain rfl) (cO _) rfl rfl (fun gg11=>⟨gg11,trivial⟩) (fun gg11=>af fC rfl rfl)⟩,⟨.opt (decide (x_6 = 46)) (.one (.str x_2)),fun _=>rfl,fun _=>by exact .guard (decide (x_6 = 46)) 2 [27] (.plain rfl) (cO _) rfl rfl (fun gg12=>⟨gg12,trivial⟩) (fun gg12=>aq cG rfl rfl rfl)⟩,⟨.opt (decide (x_6 = 46)) (.one (.i (x_2.length:Int))),fun _=>rfl,fun _=>by exact .guard (decide (x_6 = 46)) 2 [28] (.plain rfl) (cO _) rfl rfl (fun gg13=>⟨gg13,trivial⟩) (fun gg13=>bS du rfl)⟩,⟨.opt (decide (x_6 = 46)) (.one (.bool (decide ((IntKind.i64.wrap (x_3 + 1)) < (x_2.length:Int))))),fun _=>rfl,fun _=>by exact .guard (decide (x_6 = 46)) 3 [24,29] (.plain rfl) (cO _) rfl rfl (fun gg14=>⟨gg14,gg14,trivial⟩) (fun gg14=>b7 rfl rfl)⟩,⟨B ((decide (x_6 = 46)) && (decide ((IntKind.i64.wrap (x_3 + 1)) < (x_2.length:Int)))),fun _=>rfl,fun _=>.p (by exact aJ (fun e=>e) rfl rfl rfl rfl)⟩,⟨B ((decide (x_6 = 46)) && (decide ((IntKind.i64.wrap (x_3 + 1)) < (x_2.length:Int)))),fun _=>rfl,fun _=>.p (by exact c5 rfl)⟩,⟨.opt ((decide (x_6 = 46)) && (decide ((IntKind.i64.wrap (x_3 + 1)) < (x_2.length:Int)))) (.ptr 1 0),fun _=>rfl,fun _=>by exact .guard ((decide (x_6 = 46)) && (decide ((IntKind.i64.wrap (x_3 + 1)) < (x_2.length:Int)))) 1 [] (.plain rfl) (cO _) rfl rfl (fun gg17=>trivial) (fun gg17=>om)⟩,⟨.opt ((decide (x_6 = 46)) && (decide ((IntKind.i64.wrap (x_3 + 1)) < (x_2.length:Int)))) (.ptr 1 0),fun _=>rfl,fun _=>by exact .guard ((decide (x_6 = 46)) && (decide ((IntKind.i64.wrap (x_3 + 1)) < (x_2.length:Int)))) 2 [33] (.plain rfl) (cO _) rfl rfl (fun gg18=>⟨gg18,trivial⟩) (fun gg18=>ar rfl)⟩,⟨.opt ((decide (x_6 = 46)) && (decide ((IntKind.i64.wrap (x_3 + 1)) < (x_2.length:Int)))) (.ptr 1 0),fun _=>rfl,fun _=>by exact .guard ((decide (x_6 = 46)) && (decide ((IntKind.i64.wrap (x_3 + 1)) < (x_2.length:Int)))) 2 [34] (.plain rfl) (cO _) rfl rfl (fun gg19=>⟨gg19,trivial⟩) (fun gg19=>af fC rfl rfl)⟩,⟨.opt ((decide (x_6 = 46)) && (decide ((IntKind.i64.wrap (x_3 + 1)) < (x_2.length:Int)))) (.one (.str x_2)),fun _=>rfl,fun _=>by exact .guard ((decide (x_6 = 46)) && (decide ((IntKind.i64.wrap (x_3 + 1)) < (x_2.length:Int)))) 2 [35] (.plain rfl) (cO _) rfl rfl (fun gg20=>⟨gg20,trivial⟩) (fun gg20=>aq cG rfl rfl rfl)⟩,⟨.opt ((decide (x_6 = 46)) && (decide ((IntKind.i64.wrap (x_3 + 1)) < (x_2.length:Int)))) (.ptr 1 0),fun _=>rfl,fun _=>by exact .guard ((decide (x_6 = 46)) && (decide ((IntKind.i64.wrap (x_3 + 1)) < (x_2.length:Int)))) 1 [] (.plain rfl) (cO _) rfl rfl (fun gg21=>trivial) (fun gg21=>om)⟩,⟨.opt ((decide (x_6 = 46)) && (decide ((IntKind.i64.wrap (x_3 + 1)) < (x_2.length:Int)))) (.ptr 1 0),fun _=>rfl,fun _=>by exact .guard ((decide (x_6 = 46)) && (decide ((IntKind.i64.wrap (x_3 + 1)) < (x_2.length:Int)))) 2 [37] (.plain rfl) (cO _) rfl rfl (fun gg22=>⟨gg22,trivial⟩) (fun gg22=>ar rfl)⟩,⟨.opt ((decide (x_6 = 46)) && (decide ((IntKind.i64.wrap (x_3 + 1)) < (x_2.length:Int)))) (.ptr 1 1),fun _=>rfl,fun _=>by exact .guard ((decide (x_6 = 46)) && (decide ((IntKind.i64.wrap (x_3 + 1)) < (x_2.length:Int)))) 2 [38] (.plain rfl) (cO _) rfl rfl (fun gg23=>⟨gg23,trivial⟩) (fun gg23=>af bu rfl rfl)⟩,⟨.opt ((decide (x_6 = 46)) && (decide ((IntKind.i64.wrap (x_3 + 1)) < (x_2.length:Int)))) (.one (.i x_3)),fun _=>rfl,fun _=>by exact .guard ((decide (x_6 = 46)) && (decide ((IntKind.i64.wrap (x_3 + 1)) < (x_2.length:Int)))) 2 [39] (.plain rfl) (cO _) rfl rfl (fun gg24=>⟨gg24,trivial⟩) (fun gg24=>aq b6 rfl rfl rfl)⟩,⟨.opt ((decide (x_6 = 46)) && (decide ((IntKind.i64.wrap (x_3 + 1)) < (x_2.length:Int)))) (.one (.i (IntKind.i64.wrap (x_3 + 1)))),fun _=>rfl,fun _=>by exact .guard ((decide (x_6 = 46)) && (decide ((IntKind.i64.wrap (x_3 + 1)) < (x_2.length:Int)))) 2 [40] (.plain rfl) (cO _) rfl rfl (fun gg25=>⟨gg25,trivial⟩) (fun gg25=>aW rfl rfl)⟩,⟨.opt ((decide (x_6 = 46)) && (decide ((IntKind.i64.wrap (x_3 + 1)) < (x_2.length:Int)))) (.one (.int .u8 (x_7.toNat:Int))),fun _=>rfl,fun _=>by exact .guard ((decide (x_6 = 46)) && (decide ((IntKind.i64.wrap (x_3 + 1)) < (x_2.length:Int)))) 3 [36,41] (.plain rfl) (cO _) rfl rfl (fun gg26=>⟨gg26,gg26,trivial⟩) (fun gg26=>b8 du rfl rfl (bb (gc e5 gg26)) (fK (gc e5 gg26)))⟩,⟨.opt ((decide (x_6 = 46)) && (decide ((IntKind.i64.wrap (x_3 + 1)) < (x_2.length:Int)))) (.one (.bool x_8)),fun _=>rfl,fun _=>by exact .guard ((decide (x_6 = 46)) && (decide ((IntKind.i64.wrap (x_3 + 1)) < (x_2.length:Int)))) 3 [42] (.plain rfl) (cO _) rfl rfl (fun gg27=>⟨gg27,trivial⟩) (fun gg27=>ag (jQ (gc e6 gg27)) yW rfl rfl)⟩,⟨B (((decide (x_6 = 46)) && (decide ((IntKind.i64.wrap (x_3 + 1)) < (x_2.length:Int)))) && x_8),fun _=>rfl,fun _=>.p (by exact aJ (fun e=>e) rfl rfl rfl rfl)⟩,trivial⟩,trivial⟩⟩) rfl rfl rfl [0,2,4,5,6,44] [1,101] (s':=⟨[(0,_),(2,_),(4,_),(5,_),(6,_),(44,B (((decide (x_6 = 46)) && (decide ((IntKind.i64.wrap (x_3 + 1)) < (x_2.length:Int)))) && x_8))],[(1,_),(101,_)]⟩) rfl ?_
   refine ab.ite h3 rfl (fun _ h3=>?_) (fun _ h3=>?_)
   ·refine ab.seq (ab.aa ?_)
    refine Oc om (Oc (ar rfl) (Oc (af bu rfl rfl) (Oc (aq b6 rfl rfl rfl) (Oc (aW rfl rfl) (Oc (ar rfl) ?_)))))
    refine Oc (af bu rfl rfl) (Oc (bA b6 rfl rfl rfl (Nat.le_of_ble_eq_true rfl) rfl) ?_)
    refine ae.aj ⟨[(0,_),(2,_),(4,_),(5,_)],[(1,.box 77 [.str x_2,.i (IntKind.i64.wrap (x_3 + 1))]),(101,_)]⟩ rfl (ab.aa (Oc om ?_))
    obtain ⟨⟨x_9,x_10,x_11⟩,e7,h3⟩:=aO h3
    refine Oc (cz (own_a:=[(1,_)]) (dp e7) tP rfl ⟨rfl,trivial⟩ rfl rfl) (Oc oa ?_)
    refine ae.nil ?_
    exact Fin.join [0,2,4,5,6] [1,101] ((⟨x_10,x_11⟩:Scan),x_9) (Option.some.inj h3) rfl
   ·refine ab.skip ?_
    exact Fin.join [0,2,4,5,6] [1,101] ((⟨x_2,x_3⟩:Scan),0) (Option.some.inj h3) rfl
  ·rintro ⟨c_4,back_5⟩ hv
   subst v2
   obtain ⟨v8,h9,h⟩:=aO h
   refine ab.cN (v:=v8) (fun (_:Unit)=>⟨[(0,Pt 1 0),(2,Pt 101 0),(4,I c0at)],[(1,.box 77 (iA c_4)),(101,.box 31 [.i 0,.i 0,.str []])]⟩) (fun z=>.inl z) ?_ ?_
   ·refine ab.block (ab.seq (ab.aa ?_))
    refine Oc om (Oc om (Oc (aW rfl rfl) (Oc (fJ rfl rfl) (Oc oa ?_))))
    refine ae.aj ⟨[(0,_),(2,_),(4,_),(5,_),(54,B (decide (40 < (IntKind.i64.wrap (x_1 + back_5)))))],[(1,_),(101,_)]⟩ rfl (ab.ite h9 rfl (fun _ h9=>?_) (fun _ h9=>?_))
    ·refine ab.aa (Oc om (Oc om ?_))
     obtain ⟨p_12,e10,h9⟩:=aO h9
     refine ae.pr (own_a:=[(1,_)]) (ct e10) qg rfl ⟨rfl,trivial⟩ (fun hok=>?_)
     refine Fin.cn ?_
     obtain rfl:=Option.some.inj h9
     refine Fin.bE ?_
     obtain rfl:=Option.some.inj h
     exact Fin.oq ⟨_,rfl,rfl,hok⟩
    ·refine ab.seq (ab.aa ?_)
     refine Oc om (Oc (fJ rfl rfl) (Oc om ?_))
     refine dE (decide (1 < x_1)) [] (fun g11=>trivial) (fun g11=>om) (dE (decide (1 < x_1)) [66] (fun g12=>by exact ⟨g12,trivial⟩) (fun g12=>ar rfl) (dE (decide (1 < x_1)) [67] (fun g13=>by exact ⟨g13,trivial⟩) (fun g13=>af fC rfl rfl) (dE (decide (1 < x_1)) [68] (fun g14=>by exact ⟨g14,trivial⟩) (fun g14=>aq cG rfl rfl rfl) (ae.ah ⟨[(0,_),(2,_),(4,_),(65,B (decide (1 < x_1))),(69,.opt (decide (1 < x_1)) (.one (.str c_4.s)))],[(1,_),(101,_)]⟩ rfl (dE (decide (1 < x_1)) [] (fun g15=>by exact trivial) (fun g15=>om) ?_)))))
     obtain ⟨x_13,e17,h9⟩:=aO h9
     refine dE (decide (1 < x_1)) [69,70] (fun g16=>⟨g16,g16,trivial⟩) (fun g16=>b8 du rfl rfl (bb (gc e17 g16)) (fK (gc e17 g16))) (dE (decide (1 < x_1)) [71] (fun g18=>⟨g18,trivial⟩) (fun g18=>c9 rfl rfl) (Oc (aJ (fun e=>e) rfl rfl rfl rfl) (Oc om ?_)))
     refine fU (!((decide (1 < x_1)) && (decide ((x_13.toNat:Int) = 48)))) [] (fun g19=>trivial) (fun g19=>om) (ae.ah ⟨[(0,_),(2,_),(4,_),(74,B ((decide (1 < x_1)) && (decide ((x_13.toNat:Int) = 48)))),(75,.opt (!((decide (1 < x_1)) && (decide ((x_13.toNat:Int) = 48)))) (.ptr 1 0))],[(1,_),(101,_)]⟩ rfl ?_)
     obtain ⟨x_14,e21,h9⟩:=aO h9
     refine fU (!((decide (1 < x_1)) && (decide ((x_13.toNat:Int) = 48)))) [75] (fun g20=>⟨g20,trivial⟩) (fun g20=>ud (own_a:=[(1,_)]) (bD (gc e21 g20)) mb rfl ⟨rfl,trivial⟩ rfl rfl rfl rfl rfl) ?_
     obtain ⟨x_15,e23,h9⟩:=aO h9
     refine fU (!((decide (1 < x_1)) && (decide ((x_13.toNat:Int) = 48)))) [76] (fun g22=>⟨g22,trivial⟩) (fun g22=>ag (ju (gc e23 g22)) yX rfl rfl) (ae.lK h9 rfl (bt (fun e=>by first | (rw [e]; rfl) | (simp only at e; rw [e]; rfl)) rfl rfl rfl rfl) (fun x_16 h9=>?_))
     refine Oc om (fU (!x_16) [] (fun g24=>by exact trivial) (fun g24=>om) (ae.ah ⟨[(0,_),(2,_),(4,_),(79,B x_16),(80,.opt (!x_16) (.ptr 1 0))],[(1,_),(101,_)]⟩ rfl ?_))
     obtain ⟨x_17,e26,h9⟩:=aO h9
     refine fU (!x_16) [80] (fun g25=>⟨g25,trivial⟩) (fun g25=>ud (own_a:=[(1,_)]) (bD (gc e26 g25)) mb rfl ⟨rfl,trivial⟩ rfl rfl rfl rfl rfl) (fU (!x_16) [81] (fun g27=>⟨g27,trivial⟩) (fun g27=>c9 rfl rfl) (Oc (bt (fun e=>by first | (rw [e]; rfl) | (simp only at e; rw [e]; rfl)) rfl rfl rfl rfl) (Oc oa ?_)))
     refine ae.aj ⟨[(0,_),(2,_),(4,_),(62,B (x_16 || (decide (x_17 = 95))))],[(1,_),(101,_)]⟩ rfl (ab.ite h9 rfl (fun _ h9=>?_) (fun _ h9=>?_))
     ·refine ab.aa (Oc om (Oc om ?_))
      obtain ⟨p_18,e28,h9⟩:=aO h9
      refine ae.pr (own_a:=[(1,_)]) (ct e28) qg rfl ⟨rfl,trivial⟩ (fun hok=>?_)
      refine Fin.cn ?_
      obtain rfl:=Option.some.inj h9
      refine Fin.bE ?_
      obtain rfl:=Option.some.inj h
      exact Fin.oq ⟨_,rfl,rfl,hok⟩
     ·refine ab.skip (Fin.aC ?_)
      exact Fin.join [0,2,4] [1,101] () (Option.some.inj h9) rfl
   ·rintro _ hv
    subst v8
    refine ab.seq (ab.ah ⟨[(0,_),(2,_),(4,_)],[(1,_),(101,_)]⟩ rfl ?_)
    obtain ⟨x_19,e29,h⟩:=aO h
    refine ab.bR mixed 12 [I c0at,Pt 1 0,Pt 1 0,Pt 1 0,.b (.one (.str c_4.s)),I c0at,Pt 1 0,Pt 1 0,Pt 1 1,I c_4.pos,.b (.one (.str x_19)),.b (.agg [.i 3,.i c0at,.str x_19])] [2,3] [1,101] (s':=⟨[(2,_),(3,B true)],[(1,_),(101,.box 31 [.i 3,.i c0at,.str x_19])]⟩) rfl ⟨fun _=>.p om,fun _=>.p om,fun _=>.p (ar rfl),fun _=>.p (af fC rfl rfl),fun _=>.p (aq cG rfl rfl rfl),fun _=>.p om,fun _=>.p om,fun _=>.p (ar rfl),fun _=>.p (af bu rfl rfl),fun _=>.p (aq b6 rfl rfl rfl),fun _=>.p (nL du e29 rfl rfl rfl),fun _=>.p (bz ck rfl rfl),trivial⟩ ⟨_,by exact .p (ao bT rfl rfl rfl rfl (Nat.le_of_ble_eq_true rfl) rfl),⟨_,by exact .p oa,rfl⟩⟩ rfl (ab.ret ?_)
    obtain rfl:=Option.some.inj h
    refine Fin.ah ⟨[(2,_),(3,_)],[(1,_),(101,_)]⟩ rfl (Fin.yH (.inl rfl) ?_)
    exact Fin.nq [1] [.agg [.i 3,.i c0at,.str x_19],.one (.bool true)] (.inl rfl) rfl (.cons (.w9 (.agg bT rfl rfl rfl rfl)) (.cons (.w9 (.tmp rfl)) .nil)) ⟨_,rfl,rfl,rfl⟩
theorem lG {F:Nat} {c0s:Str} {c0at:Int} {r:Token × Bool × Str × Int} (h:bO F c0s c0at = some (.inl r)):ax Tryz.prog (bh mx) 42 [(1,.box 77 [.str c0s,.i c0at])] [.ptr 1 0] (Is [(1,.box 77 [.str r.2.2.1,.i r.2.2.2])] (.fG [.agg (aE r.1),.one (.bool r.2.1)])):=(gR h).spec
theorem mi {F:Nat} {c0s:Str} {c0at:Int} {p:Problem} (h:bO F c0s c0at = some (.inr p)):jf Tryz.prog (bh mx) 42 [(1,.box 77 [.str c0s,.i c0at])] [.ptr 1 0] ((fun p:Problem=>.iface 46 (.agg #[.int .i64 p.At,.int .i64 p.E])) p) ((fun p:Problem=>jU .i64 p.At ∧ jU .i64 p.E) p):=(gR h).zQ
def bY (F:Nat) (c0s:Str) (c0at:Int):Option ((Token × Bool × Str × Int) ⊕ Problem) :=
 (bd F c0s c0at).bind fun x_1=>if (decide (x_1 ≠ 34)) = true then (some (.inl ((⟨0,0,[]⟩:Token),false,c0s,c0at))) else (Option.bind (iter F (cF fun c_4 out_5=>(bd F c_4.s c_4.pos).bind fun x_8=>if (decide (x_8 ≠ 34)) = true then (Option.bind ((bd F c_4.s c_4.pos).bind fun x_11=>Option.bind (if (decide (x_11 = 92)) = true then ((bd F c_4.s (IntKind.i64.wrap (c_4.pos + 1))).bind fun x_14=>if ((decide (x_14 ≠ 34)) && (decide (x_14 ≠ 92))) = true then ((bg F c0at 280 c_4.s (IntKind.i64.wrap (c_4.pos + 1))).bind fun p_15=>some (.inr (.inr p_15))) else (some (.inl ((⟨c_4.s,IntKind.i64.wrap (c_4.pos + 1)⟩:Scan),x_14)))) else (some (.inl (c_4,x_11)))) (eh (cF fun c_12 b_13=>Option.bind (if ((decide (b_13 < 32)) || (decide (126 < b_13))) = true then ((bg F c0at 280 c_12.s c_12.pos).bind fun p_16=>some (.inr (.inr p_16))) else (some (.inl ()))) (eh (fun _=>(iZ out_5 [b_13]).bind fun x_17=>some (.inl (c_12,x_17))) (fun y=>some (.inr y)))) (fun y=>some (.inr y)))) (eh (cF fun c_9 out_10=>some (.inl ((⟨c_9.s,IntKind.i64.wrap (c_9.pos + 1)⟩:Scan),out_10))) (fun y=>some (.inr (.inr y))))) else (some (.inr (.inl (c_4,out_5))))) ((⟨c0s,IntKind.i64.wrap (c0at + 1)⟩:Scan),[])) (eh (cF fun c_2 out_3=>Option.bind (if (decide (80 < (out_3.length:Int))) = true then ((bg F c0at 2 c_2.s (IntKind.i64.wrap (c_2.pos + 1))).bind fun p_18=>some (.inr (.inr p_18))) else (some (.inl ()))) (eh (fun _=>some (.inl ((⟨4,c0at,toStr out_3⟩:Token),true,c_2.s,IntKind.i64.wrap (c_2.pos + 1)))) (fun y=>some y))) (fun y=>some y)))
theorem iG {F:Nat} {c0s:Str} {c0at:Int} {r:(Token × Bool × Str × Int) ⊕ Problem} (h:bY F c0s c0at = some r):eu Tryz.prog (bh mx) 43 [(1,.box 77 [.str c0s,.i c0at])] [.ptr 1 0] (IsP r (fun (r:Token × Bool × Str × Int)=>[(1,.box 77 [.str r.2.2.1,.i r.2.2.2])]) (fun (r:Token × Bool × Str × Int)=>.fG [.agg (aE r.1),.one (.bool r.2.1)])) (AT r (fun p:Problem=>.iface 46 (.agg #[.int .i64 p.At,.int .i64 p.E])) (fun p:Problem=>jU .i64 p.At ∧ jU .i64 p.E)):=by
 unfold bY at h
 refine eu.intro 84 Tryz.func43 Tryz.ntmps43 rfl (by simp) fun E=>?_
 show ab _ E ⟨84,[1],[1],[]⟩ _ ⟨[(0,Pt 1 0)],[(1,.box 77 [.str c0s,.i c0at])]⟩ _
 refine ab.seq (ab.aa ?_)
 refine Oc (aA (k:=101) gz rfl) (Oc oa ?_)
 refine ae.aj ⟨[(0,Pt 1 0),(2,Pt 101 0)],[(1,.box 77 [.str c0s,.i c0at]),(101,.box 31 [.i 0,.i 0,.str []])]⟩ rfl (ab.seq (ab.aa ?_))
 refine Oc om (Oc (ar rfl) (Oc (af bu rfl rfl) (Oc (aq b6 rfl rfl rfl) (Oc oa ?_))))
 refine ae.aj ⟨[(0,_),(2,_),(4,I c0at)],[(1,_),(101,_)]⟩ rfl (ab.seq (ab.seq (ab.aa ?_)))
 refine Oc om ?_
 obtain ⟨x_1,e1,h⟩:=aO h
 refine Oc (cz (own_a:=[(1,_)]) (bD e1) mb rfl ⟨rfl,trivial⟩ rfl rfl) (Oc (dU rfl rfl) ?_)
 refine ae.aj ⟨[(0,_),(2,_),(4,_),(13,B (decide (x_1 ≠ 34)))],[(1,_),(101,_)]⟩ rfl (ab.ite h rfl (fun _ h=>?_) (fun _ h=>?_))
 ·refine ab.seq (ab.aa ?_)
  refine Oc (bz ck rfl rfl) (Oc (ao bT rfl rfl rfl rfl (Nat.le_of_ble_eq_true rfl) rfl) (Oc oa ?_))
  refine ae.aj ⟨[(2,_),(3,B false)],[(1,_),(101,_)]⟩ rfl (ab.ret (Fin.aI ?_))
  obtain rfl:=Option.some.inj h
  refine Fin.ah ⟨[(2,_),(3,_)],[(1,_),(101,_)]⟩ rfl (Fin.yH (.inl rfl) ?_)
  exact Fin.nq [1] [.agg [.i 0,.i 0,.str []],.one (.bool false)] (.inl rfl) rfl (.cons (.w9 (.agg bT rfl rfl rfl rfl)) (.cons (.w9 (.tmp rfl)) .nil)) ⟨_,rfl,rfl,rfl⟩
 ·refine ab.skip (Fin.ah ⟨[(0,_),(2,_),(4,_)],[(1,_),(101,_)]⟩ rfl (Fin.then (ab.seq (ab.aa ?_))))
  refine Oc oa (ae.aj ⟨[(0,_),(2,_),(4,_),(5,.b (.one (.nil)))],[(1,_),(101,_)]⟩ rfl ?_)
  obtain ⟨v2,h3,h⟩:=aO h
  refine ab.cN (v:=v2) (cF fun (c_2:Scan) (out_3:List Int)=>⟨[(0,Pt 1 0),(2,Pt 101 0),(4,I c0at),(5,.b (.row 103))],[(1,.box 77 (iA c_2)),(101,.box 31 [.i 0,.i 0,.str []]),(103,.row 5 1 (out_3.map (eK .u8)))]⟩) (fun z=>.inl z) ?_ ?_
  ·refine ab.seq (ab.aa ?_)
   refine Oc om (Oc (ar rfl) (Oc (af bu rfl rfl) (Oc (aq b6 rfl rfl rfl) (Oc (aW rfl rfl) (Oc (ar rfl) ?_)))))
   refine Oc (af bu rfl rfl) (Oc (bA b6 rfl rfl rfl (Nat.le_of_ble_eq_true rfl) rfl) ?_)
   refine ae.aj ⟨[(0,_),(2,_),(4,_),(5,_)],[(1,.box 77 [.str c0s,.i (IntKind.i64.wrap (c0at + 1))]),(101,_)]⟩ rfl (ab.block (ab.l9 5 103 1 5 rfl (by decide) rfl (ab.dM h3 (cF fun (c_4:Scan) (out_5:List Int)=>⟨[(0,Pt 1 0),(2,Pt 101 0),(4,I c0at),(5,.b (.row 103))],[(1,.box 77 (iA c_4)),(101,.box 31 [.i 0,.i 0,.str []]),(103,.row 5 1 (out_5.map (eK .u8)))]⟩) [0,2,4,5] [1,101,103] rfl ?_)))
   rintro ⟨c_4,out_5⟩ o4 h5 hy6
   refine ab.seq (ab.seq (ab.aa ?_))
   refine Oc om ?_
   obtain ⟨x_8,e7,h5⟩:=aO h5
   refine Oc (cz (own_a:=[(1,_)]) (bD e7) mb rfl ⟨rfl,trivial⟩ rfl rfl) (Oc (dU rfl rfl) ?_)
   refine ae.aj ⟨[(0,_),(2,_),(4,_),(5,_),(24,B (decide (x_8 ≠ 34)))],[(1,_),(101,_),(103,_)]⟩ rfl (ab.ite h5 rfl (fun _ h5=>?_) (fun _ h5=>?_))
   ·refine ab.skip (Fin.ah ⟨[(0,_),(2,_),(4,_),(5,_)],[(1,_),(101,_),(103,_)]⟩ rfl (Fin.then ?_))
    obtain ⟨v8,h9,h5⟩:=aO h5
    refine ab.cN (v:=v8) (cF fun (c_9:Scan) (out_10:List Int)=>⟨[(0,Pt 1 0),(2,Pt 101 0),(4,I c0at),(5,.b (.row 103))],[(1,.box 77 (iA c_9)),(101,.box 31 [.i 0,.i 0,.str []]),(103,.row 5 1 (out_10.map (eK .u8)))]⟩) (fun z=>.inl z) ?_ ?_
    ·refine ab.block (ab.seq (ab.aa ?_))
     refine Oc om ?_
     obtain ⟨x_11,e10,h9⟩:=aO h9
     refine Oc (cz (own_a:=[(1,_)]) (bD e10) mb rfl ⟨rfl,trivial⟩ rfl rfl) (Oc oa ?_)
     refine ae.aj ⟨[(0,_),(2,_),(4,_),(5,_),(6,.b (.one (.int .u8 x_11)))],[(1,_),(101,_),(103,_)]⟩ rfl ?_
     obtain ⟨v11,h12,h9⟩:=aO h9
     refine ab.cN (v:=v11) (cF fun (c_12:Scan) (b_13:Int)=>⟨[(0,Pt 1 0),(2,Pt 101 0),(4,I c0at),(5,.b (.row 103)),(6,.b (.one (.int .u8 b_13)))],[(1,.box 77 (iA c_12)),(101,.box 31 [.i 0,.i 0,.str []]),(103,.row 5 1 (out_5.map (eK .u8)))]⟩) (fun z=>.inl z) ?_ ?_
     ·refine ab.seq (ab.aa ?_)
      refine Oc om (Oc (c9 rfl rfl) ?_)
      refine ae.aj ⟨[(0,_),(2,_),(4,_),(5,_),(6,_),(35,B (decide (x_11 = 92)))],[(1,_),(101,_),(103,_)]⟩ rfl (ab.ite h12 rfl (fun _ h12=>?_) (fun _ h12=>?_))
      ·refine ab.seq (ab.aa ?_)
       refine Oc om (Oc (ar rfl) (Oc (af bu rfl rfl) (Oc (aq b6 rfl rfl rfl) (Oc (aW rfl rfl) (Oc (ar rfl) ?_)))))
       refine Oc (af bu rfl rfl) (Oc (bA b6 rfl rfl rfl (Nat.le_of_ble_eq_true rfl) rfl) ?_)
       refine ae.aj ⟨[(0,_),(2,_),(4,_),(5,_)],[(1,.box 77 [.str c_4.s,.i (IntKind.i64.wrap (c_4.pos + 1))]),(101,_),(103,_)]⟩ rfl (ab.seq (ab.aa ?_))
       refine Oc om ?_
       obtain ⟨x_14,e13,h12⟩:=aO h12
       refine Oc (cz (own_a:=[(1,_)]) (bD e13) mb rfl ⟨rfl,trivial⟩ rfl rfl) (Oc oa ?_)
       refine ae.aj ⟨[(0,_),(2,_),(4,_),(5,_),(6,.b (.one (.int .u8 x_14)))],[(1,_),(101,_),(103,_)]⟩ rfl (ab.seq (ab.aa ?_))
       refine Oc om (Oc (dU rfl rfl) (Oc om ?_))
       refine dE (decide (x_14 ≠ 34)) [] (fun g14=>trivial) (fun g14=>om) (dE (decide (x_14 ≠ 34)) [48] (fun g15=>by exact ⟨g15,trivial⟩) (fun g15=>dU rfl rfl) (Oc (aJ (fun e=>e) rfl rfl rfl rfl) (ae.aj ⟨[(0,_),(2,_),(4,_),(5,_),(6,_),(50,B ((decide (x_14 ≠ 34)) && (decide (x_14 ≠ 92))))],[(1,_),(101,_),(103,_)]⟩ rfl (ab.ite h12 rfl (fun _ h12=>?_) (fun _ h12=>?_)))))
       ·refine ab.aa (Oc om (Oc om ?_))
        obtain ⟨p_15,e16,h12⟩:=aO h12
        refine ae.pr (own_a:=[(1,_)]) (ct e16) qg rfl ⟨rfl,trivial⟩ (fun hok=>?_)
        obtain rfl:=Option.some.inj h12
        refine Fin.bE (Fin.cn ?_)
        obtain rfl:=Option.some.inj h9
        refine Fin.bE ?_
        obtain rfl:=hy6 _ (Option.some.inj h5).symm
        refine Fin.bE (Fin.cn (Fin.bE ?_))
        obtain rfl:=Option.some.inj h
        exact Fin.oq ⟨_,rfl,rfl,hok⟩
       ·refine ab.skip ?_
        exact Fin.join [0,2,4,5,6] [1,101,103] ((⟨c_4.s,IntKind.i64.wrap (c_4.pos + 1)⟩:Scan),x_14) (Option.some.inj h12) rfl
      ·refine ab.skip ?_
       exact Fin.join [0,2,4,5,6] [1,101,103] (c_4,x_11) (Option.some.inj h12) rfl
     ·rintro ⟨c_12,b_13⟩ hv
      subst v11
      obtain ⟨v17,h18,h9⟩:=aO h9
      refine ab.cN (v:=v17) (fun (_:Unit)=>⟨[(0,Pt 1 0),(2,Pt 101 0),(4,I c0at),(5,.b (.row 103)),(6,.b (.one (.int .u8 b_13)))],[(1,.box 77 (iA c_12)),(101,.box 31 [.i 0,.i 0,.str []]),(103,.row 5 1 (out_5.map (eK .u8)))]⟩) (fun z=>.inl z) ?_ ?_
      ·refine ab.seq (ab.aa ?_)
       refine Oc om (Oc (b7 rfl rfl) (Oc om ?_))
       refine fU (!(decide (b_13 < 32))) [] (fun g19=>trivial) (fun g19=>om) (fU (!(decide (b_13 < 32))) [57] (fun g20=>by exact ⟨g20,trivial⟩) (fun g20=>fJ rfl rfl) (Oc (bt (fun e=>by first | (rw [e]; rfl) | (simp only at e; rw [e]; rfl)) rfl rfl rfl rfl) (ae.aj ⟨[(0,_),(2,_),(4,_),(5,_),(6,_),(59,B ((decide (b_13 < 32)) || (decide (126 < b_13))))],[(1,_),(101,_),(103,_)]⟩ rfl (ab.ite h18 rfl (fun _ h18=>?_) (fun _ h18=>?_)))))
       ·refine ab.aa (Oc om (Oc om ?_))
        obtain ⟨p_16,e21,h18⟩:=aO h18
        refine ae.pr (own_a:=[(1,_)]) (ct e21) qg rfl ⟨rfl,trivial⟩ (fun hok=>?_)
        obtain rfl:=Option.some.inj h18
        refine Fin.bE (Fin.cn ?_)
        obtain rfl:=Option.some.inj h9
        refine Fin.bE ?_
        obtain rfl:=hy6 _ (Option.some.inj h5).symm
        refine Fin.bE (Fin.cn (Fin.bE ?_))
        obtain rfl:=Option.some.inj h
        exact Fin.oq ⟨_,rfl,rfl,hok⟩
       ·refine ab.skip ?_
        exact Fin.join [0,2,4,5,6] [1,101,103] () (Option.some.inj h18) rfl
      ·rintro _ hv
       subst v17
       refine ab.aa (Oc om (Oc om (Oc (bp (k:=104) (es:=[b_13].map (eK .u8)) kW rfl rfl (cZ fun _=>rfl) rfl (by decide) (by decide) rfl) ?_)))
       obtain ⟨x_17,e22,h9⟩:=aO h9
       refine Oc (fF kW (sJ e22) (sI e22) rfl rfl rfl rfl (lP e22) rfl) (Oc oa ?_)
       refine ae.nil (Fin.aC ?_)
       exact Fin.join [0,2,4,5] [1,101,103] (c_12,x_17) (Option.some.inj h9) rfl
    ·rintro ⟨c_9,out_10⟩ hv
     subst v8
     refine ab.aa (Oc om (Oc (ar rfl) (Oc (af bu rfl rfl) (Oc (aq b6 rfl rfl rfl) (Oc (aW rfl rfl) (Oc (ar rfl) ?_))))))
     refine Oc (af bu rfl rfl) (Oc (bA b6 rfl rfl rfl (Nat.le_of_ble_eq_true rfl) rfl) ?_)
     refine ae.nil ?_
     exact Fin.cy [0,2,4,5] [1,101,103] ((⟨c_9.s,IntKind.i64.wrap (c_9.pos + 1)⟩:Scan),out_10) (Option.some.inj h5) rfl
   ·refine ab.exit (Fin.aB ?_)
    obtain rfl:=hy6 _ (Option.some.inj h5).symm
    refine Fin.aB (Fin.aU ?_)
    exact Fin.join [0,2,4,5] [1,101,103] (c_4,out_5) rfl rfl
  ·rintro ⟨c_2,out_3⟩ hv
   subst v2
   refine ab.seq (ab.aa ?_)
   refine Oc om (Oc (ar rfl) (Oc (af bu rfl rfl) (Oc (aq b6 rfl rfl rfl) (Oc (aW rfl rfl) (Oc (ar rfl) ?_)))))
   refine Oc (af bu rfl rfl) (Oc (bA b6 rfl rfl rfl (Nat.le_of_ble_eq_true rfl) rfl) ?_)
   refine ae.aj ⟨[(0,_),(2,_),(4,_),(5,_)],[(1,.box 77 [.str c_2.s,.i (IntKind.i64.wrap (c_2.pos + 1))]),(101,_),(103,_)]⟩ rfl ?_
   obtain ⟨v23,h24,h⟩:=aO h
   refine ab.cN (v:=v23) (fun (_:Unit)=>⟨[(2,Pt 101 0),(4,I c0at),(5,.b (.row 103))],[(1,.box 77 [.str c_2.s,.i (IntKind.i64.wrap (c_2.pos + 1))]),(101,.box 31 [.i 0,.i 0,.str []]),(103,.row 5 1 (out_3.map (eK .u8)))]⟩) (fun z=>.inl z) ?_ ?_
   ·refine ab.seq (ab.aa ?_)
    refine Oc om (Oc (vB jy rfl rfl (List.length_map _)) (Oc (fJ rfl rfl) ?_))
    refine ae.aj ⟨[(0,_),(2,_),(4,_),(5,_),(76,B (decide (80 < (out_3.length:Int))))],[(1,_),(101,_),(103,_)]⟩ rfl (ab.ite h24 rfl (fun _ h24=>?_) (fun _ h24=>?_))
    ·refine ab.aa (Oc om (Oc om ?_))
     obtain ⟨p_18,e25,h24⟩:=aO h24
     refine ae.pr (own_a:=[(1,_)]) (ct e25) qg rfl ⟨rfl,trivial⟩ (fun hok=>?_)
     obtain rfl:=Option.some.inj h24
     refine Fin.bE ?_
     obtain rfl:=Option.some.inj h
     exact Fin.oq ⟨_,rfl,rfl,hok⟩
    ·refine ab.skip ?_
     exact Fin.join [2,4,5] [1,101,103] () (Option.some.inj h24) rfl
   ·rintro _ hv
    subst v23
    refine ab.seq (ab.aa ?_)
    refine Oc om (Oc om ?_)
    refine ae.dV 103 rfl (Oc (iE jy mn du rfl) (Oc (bz ck rfl rfl) (Oc (ao bT rfl rfl rfl rfl (Nat.le_of_ble_eq_true rfl) rfl) (Oc oa ?_))))
    refine ae.aj ⟨[(2,Pt 101 0),(3,B true)],[(1,.box 77 [.str c_2.s,.i (IntKind.i64.wrap (c_2.pos + 1))]),(101,.box 31 [.i 4,.i c0at,.str (toStr out_3)])]⟩ rfl (ab.ret ?_)
    obtain rfl:=Option.some.inj h
    refine Fin.ah ⟨[(2,_),(3,_)],[(1,_),(101,_)]⟩ rfl (Fin.yH (.inl rfl) ?_)
    exact Fin.nq [1] [.agg [.i 4,.i c0at,.str (toStr out_3)],.one (.bool true)] (.inl rfl) rfl (.cons (.w9 (.agg bT rfl rfl rfl rfl)) (.cons (.w9 (.tmp rfl)) .nil)) ⟨_,rfl,rfl,rfl⟩
theorem mT {F:Nat} {c0s:Str} {c0at:Int} {r:Token × Bool × Str × Int} (h:bY F c0s c0at = some (.inl r)):ax Tryz.prog (bh mx) 43 [(1,.box 77 [.str c0s,.i c0at])] [.ptr 1 0] (Is [(1,.box 77 [.str r.2.2.1,.i r.2.2.2])] (.fG [.agg (aE r.1),.one (.bool r.2.1)])):=(iG h).spec
theorem nW {F:Nat} {c0s:Str} {c0at:Int} {p:Problem} (h:bY F c0s c0at = some (.inr p)):jf Tryz.prog (bh mx) 43 [(1,.box 77 [.str c0s,.i c0at])] [.ptr 1 0] ((fun p:Problem=>.iface 46 (.agg #[.int .i64 p.At,.int .i64 p.E])) p) ((fun p:Problem=>jU .i64 p.At ∧ jU .i64 p.E) p):=(iG h).zQ
def dn (F:Nat) (s0:Str) (v0cs:Str) (v0cat:Int):Option Bool :=
 (oh v0cs v0cat).bind fun x_1=>(fp F x_1 s0).bind fun x_2=>some x_2
theorem lF {F:Nat} {s0:Str} {v0cs:Str} {v0cat:Int} {r:Bool} (h:dn F s0 v0cs v0cat = some r):ax Tryz.prog (bh mx) 98 [(1,.bq 75 [.ptr 2 0]),(2,.box 77 [.str v0cs,.i v0cat])] [.one (.str s0),.ptr 1 0] (Is [(1,.bq 75 [.ptr 2 0]),(2,.box 77 [.str v0cs,.i v0cat])] (.b (.one (.bool r)))):=by
 unfold dn at h
 refine ax.intro 15 Tryz.func98 Tryz.ntmps98 rfl (by simp) fun E=>?_
 show ab _ E ⟨15,[1,2],[1,2],[]⟩ _ ⟨[(0,.b (.one (.str s0))),(1,Pt 1 0)],[(1,.bq 75 [.ptr 2 0]),(2,.box 77 [.str v0cs,.i v0cat])]⟩ _
 refine ab.seq (ab.aa ?_)
 refine Oc oa (ae.aj ⟨[(0,.b (.one (.str s0))),(1,Pt 1 0)],[(1,.bq 75 [.ptr 2 0]),(2,.box 77 [.str v0cs,.i v0cat])]⟩ rfl (ab.seq ?_))
 obtain ⟨x_1,e1,h⟩:=aO h
 obtain ⟨x_2,e2,h⟩:=aO h
 refine ab.bR mixed 12 [Pt 2 0,Pt 2 0,Pt 2 0,.b (.one (.str v0cs)),Pt 2 0,Pt 2 0,Pt 2 1,I v0cat,.b (.one (.str x_1)),.b (.one (.str s0)),B x_2,B x_2] [3] [1,2] (s':=⟨[(3,B x_2)],[(1,_),(2,_)]⟩) rfl ⟨fun _=>.p (cY np rfl rfl rfl),fun _=>.p (ar rfl),fun _=>.p (af fC rfl rfl),fun _=>.p (aq cG rfl rfl rfl),fun _=>.p (cY np rfl rfl rfl),fun _=>.p (ar rfl),fun _=>.p (af bu rfl rfl),fun _=>.p (aq b6 rfl rfl rfl),fun _=>.p (lr du e1 rfl rfl),fun _=>.p om,fun _=>.p (ag (nV e2) goes71 rfl rfl),fun _=>.p oa,trivial⟩ rfl rfl (ab.ret ?_)
 obtain rfl:=Option.some.inj h
 refine Fin.ah ⟨[(3,_)],[(1,_),(2,_)]⟩ rfl ?_
 exact Fin.result [.one (.bool x_2)] (.inl rfl) rfl (.cons (.tmp rfl) .nil) ⟨rfl,rfl⟩
def fT (F:Nat) (s0:List Str) (f0v0s:Str) (f0v0at:Int):Option Int :=
 Option.bind (iter F (fun x_1=>if (decide (x_1 < (s0.length:Int))) = true then ((aZ s0 x_1).bind fun x_2=>(dn F x_2 f0v0s f0v0at).bind fun x_3=>if x_3 = true then (some (.inr (.inr x_1))) else (some (.inl (IntKind.i64.wrap (x_1 + 1))))) else (some (.inr (.inl ())))) 0) (eh (fun _=>some (-1)) (fun y=>some y))
theorem n9 {F:Nat} {s0:List Str} {f0v0s:Str} {f0v0at:Int} {r:Int} (h:fT F s0 f0v0s f0v0at = some r):ax Tryz.prog (bh mx) 97 [(1,.bq 75 [.ptr 2 0]),(2,.box 77 [.str f0v0s,.i f0v0at])] [.one (.sl 1 (s0.map eS)),.dq 98 [] [.ptr 1 0]] (Is [(1,.bq 75 [.ptr 2 0]),(2,.box 77 [.str f0v0s,.i f0v0at])] (.b (.one (.i r)))):=by
 unfold fT at h
 refine ax.intro 19 Tryz.func97 Tryz.ntmps97 rfl (by simp) fun E=>?_
 show ab _ E ⟨19,[1,2],[1,2],[]⟩ _ ⟨[(0,.b (.one (.sl 1 (s0.map eS)))),(1,.b (.dq 98 [] [.ptr 1 0]))],[(1,.bq 75 [.ptr 2 0]),(2,.box 77 [.str f0v0s,.i f0v0at])]⟩ _
 refine ab.seq (ab.aa ?_)
 refine Oc oa (ae.aj ⟨[(0,.b (.one (.sl 1 (s0.map eS)))),(1,.b (.dq 98 [] [.ptr 1 0]))],[(1,.bq 75 [.ptr 2 0]),(2,.box 77 [.str f0v0s,.i f0v0at])]⟩ rfl ?_)
 obtain ⟨v1,h2,h⟩:=aO h
 refine ab.cN (v:=v1) (fun (_:Unit)=>⟨[],[(1,.bq 75 [.ptr 2 0]),(2,.box 77 [.str f0v0s,.i f0v0at])]⟩) (fun z=>.inl z) ?_ ?_
 ·refine ab.seq (ab.aa ?_)
  refine Oc om (Oc (cm n3 rfl (List.length_map _)) (Oc om ?_))
  refine ae.aj ⟨[(0,_),(1,_),(7,I (s0.length:Int)),(8,I 0)],[(1,_),(2,_)]⟩ rfl (ab.block (ab.dM h2 (fun (x_1:Int)=>⟨[(0,.b (.one (.sl 1 (s0.map eS)))),(1,.b (.dq 98 [] [.ptr 1 0])),(7,I (s0.length:Int)),(8,I x_1)],[(1,.bq 75 [.ptr 2 0]),(2,.box 77 [.str f0v0s,.i f0v0at])]⟩) [0,1,7,8] [1,2] rfl ?_))
  rintro x_1 o3 h4 hy5
  refine ab.seq (ab.aa ?_)
  refine Oc (b7 rfl rfl) (ae.aj ⟨[(0,_),(1,_),(7,_),(8,_),(9,B (decide (x_1 < (s0.length:Int))))],[(1,_),(2,_)]⟩ rfl (ab.seq (ab.ite h4 rfl (fun _ h4=>?_) (fun _ h4=>?_))))
  ·refine ab.skip (Fin.ah ⟨[(0,_),(1,_),(7,_),(8,_)],[(1,_),(2,_)]⟩ rfl (Fin.then (ab.seq (ab.block (ab.seq (ab.aa ?_))))))
   refine Oc om (Oc oa ?_)
   refine ae.aj ⟨[(0,_),(1,_),(5,I x_1),(7,_),(8,_)],[(1,_),(2,_)]⟩ rfl (ab.seq (ab.aa ?_))
   refine Oc om (Oc om (Oc om ?_))
   obtain ⟨x_2,e6,h4⟩:=aO h4
   refine Oc (bK dT (bb e6) (dH (e:=eS) e6) rfl rfl) (Oc (bm cG rfl rfl) ?_)
   obtain ⟨x_3,e7,h4⟩:=aO h4
   refine Oc (mF (own_a:=[(1,_),(2,_)]) (lF e7) goes98 rfl rfl rfl ⟨rfl,rfl,trivial⟩ rfl rfl) (ae.aj ⟨[(0,_),(1,_),(5,_),(7,_),(8,_),(16,B x_3)],[(1,_),(2,_)]⟩ rfl (ab.ite h4 rfl (fun _ h4=>?_) (fun _ h4=>?_)))
   ·refine ab.seq (ab.aa ?_)
    refine Oc om (Oc oa ?_)
    refine ae.aj ⟨[(4,I x_1)],[(1,_),(2,_)]⟩ rfl (ab.ret (Fin.cL (Fin.aI ?_)))
    obtain rfl:=hy5 _ (Option.some.inj h4).symm
    refine Fin.aI (Fin.cL (Fin.aI ?_))
    obtain rfl:=Option.some.inj h
    refine Fin.ah ⟨[(4,_)],[(1,_),(2,_)]⟩ rfl ?_
    exact Fin.result [.one (.i x_1)] (.inl rfl) rfl (.cons (.tmp rfl) .nil) ⟨rfl,rfl⟩
   ·refine ab.skip (Fin.aC (Fin.ah ⟨[(0,_),(1,_),(7,_),(8,_)],[(1,_),(2,_)]⟩ rfl (Fin.then (ab.aa ?_))))
    refine Oc (aW rfl rfl) (Oc om ?_)
    refine ae.nil ?_
    exact Fin.cy [0,1,7,8] [1,2] (IntKind.i64.wrap (x_1 + 1)) (Option.some.inj h4) rfl
  ·refine ab.exit (Fin.aB ?_)
   obtain rfl:=hy5 _ (Option.some.inj h4).symm
   refine Fin.aB (Fin.aU ?_)
   exact Fin.join [] [1,2] () rfl rfl
 ·rintro _ hv
  subst v1
  refine ab.seq (ab.aa ?_)
  refine Oc oa (ae.aj ⟨[(4,I (-1))],[(1,_),(2,_)]⟩ rfl (ab.ret ?_))
  obtain rfl:=Option.some.inj h
  refine Fin.ah ⟨[(4,_)],[(1,_),(2,_)]⟩ rfl ?_
  exact Fin.result [.one (.i (-1))] (.inl rfl) rfl (.cons (.tmp rfl) .nil) ⟨rfl,rfl⟩
def cQ (F:Nat) (c0s:Str) (c0at:Int):Option ((Token × Bool × Int) ⊕ Problem) :=
 (fT F dA c0s c0at).bind fun x_1=>Option.bind (if (decide (x_1 < 0)) = true then ((bg F c0at 280 c0s c0at).bind fun p_2=>some (.inr (.inr p_2))) else (some (.inl ()))) (eh (fun _=>(aZ dA x_1).bind fun x_3=>(aZ dA x_1).bind fun x_4=>some (.inl ((⟨5,c0at,x_3⟩:Token),true,IntKind.i64.wrap (c0at + (x_4.length:Int))))) (fun y=>some y))
theorem iH {F:Nat} {c0s:Str} {c0at:Int} {r:(Token × Bool × Int) ⊕ Problem} (h:cQ F c0s c0at = some r):eu Tryz.prog (bh mx) 44 [(1,.box 77 [.str c0s,.i c0at])] [.ptr 1 0] (IsP r (fun (r:Token × Bool × Int)=>[(1,.box 77 [.str c0s,.i r.2.2])]) (fun (r:Token × Bool × Int)=>.fG [.agg (aE r.1),.one (.bool r.2.1)])) (AT r (fun p:Problem=>.iface 46 (.agg #[.int .i64 p.At,.int .i64 p.E])) (fun p:Problem=>jU .i64 p.At ∧ jU .i64 p.E)):=by
 unfold cQ at h
 refine eu.intro 37 Tryz.func44 Tryz.ntmps44 rfl (by simp) fun E=>?_
 show ab _ E ⟨37,[1],[1],[]⟩ _ ⟨[(0,Pt 1 0)],[(1,.box 77 [.str c0s,.i c0at])]⟩ _
 refine ab.seq (ab.aa ?_)
 refine Oc (Br (k:=101) rfl rfl rfl rfl) (Oc (aA (k:=102) gz rfl) (Oc oa ?_))
 refine ae.aj ⟨[(1,Pt 101 0),(2,Pt 102 0)],[(1,.box 77 [.str c0s,.i c0at]),(101,.bq 75 [.ptr 1 0]),(102,.box 31 [.i 0,.i 0,.str []])]⟩ rfl (ab.seq (ab.aa ?_))
 refine Oc (uF (xs:=dA) (enc:=eS) pB pA qT rfl rfl (fun _=>rfl) (by rw [cU]; decide)) (Oc (gI rfl rfl) ?_)
 obtain ⟨x_1,e1,h⟩:=aO h
 refine Oc (cz (own_a:=[(101,_),(1,_)]) (((n9 e1).sw 1 101).sw 2 1) goes97 rfl ⟨rfl,rfl,trivial⟩ rfl rfl) (Oc oa ?_)
 refine ae.aj ⟨[(1,_),(2,_),(4,I x_1)],[(1,_),(101,_),(102,_)]⟩ rfl ?_
 obtain ⟨v2,h3,h⟩:=aO h
 refine ab.cN (v:=v2) (fun (_:Unit)=>⟨[(1,Pt 101 0),(2,Pt 102 0),(4,I x_1)],[(1,.box 77 [.str c0s,.i c0at]),(101,.bq 75 [.ptr 1 0]),(102,.box 31 [.i 0,.i 0,.str []])]⟩) (fun z=>.inl z) ?_ ?_
 ·refine ab.seq (ab.aa ?_)
  refine Oc om (Oc (b7 rfl rfl) ?_)
  refine ae.aj ⟨[(1,_),(2,_),(4,_),(10,B (decide (x_1 < 0)))],[(1,_),(101,_),(102,_)]⟩ rfl (ab.ite h3 rfl (fun _ h3=>?_) (fun _ h3=>?_))
  ·refine ab.ah ⟨[(1,_),(2,_),(4,_)],[(1,_),(101,_),(102,_)]⟩ rfl ?_
   obtain ⟨p_2,e4,h3⟩:=aO h3
   refine ab.regionP mixed 5 [Pt 1 0,Pt 1 0,Pt 1 0,Pt 1 1,I c0at] rfl ⟨fun _=>.p (cY np rfl rfl rfl),fun _=>.p (cY np rfl rfl rfl),fun _=>.p (ar rfl),fun _=>.p (af bu rfl rfl),fun _=>.p (aq b6 rfl rfl rfl),trivial⟩ ⟨_,.nZ (own_a:=[(1,_)]) (ct e4) qg rfl ⟨rfl,trivial⟩ (fun hok=>?_),rfl⟩
   obtain rfl:=Option.some.inj h3
   refine Fin.bE ?_
   obtain rfl:=Option.some.inj h
   exact Fin.oq ⟨_,rfl,rfl,hok⟩
  ·refine ab.skip ?_
   exact Fin.join [1,2,4] [1,101,102] () (Option.some.inj h3) rfl
 ·rintro _ hv
  subst v2
  refine ab.seq (ab.ah ⟨[(1,_),(2,_),(4,_)],[(1,_),(101,_),(102,_)]⟩ rfl ?_)
  obtain ⟨x_3,e5,h⟩:=aO h
  refine ab.ji mixed [false,false,false,false,false,false,false,false,true,true] [Pt 1 0,Pt 1 0,Pt 1 1,I c0at,I x_1,.b (.cW [.str x_3]),.b (.one (.str x_3)),.b (.agg [.i 5,.i c0at,.str x_3]),Pt 103 0,B true] [⟨[false,false,false,false,false,false,false,false,false,false],[(1,Pt 101 0),(2,Pt 102 0),(4,I x_1)],[(1,.box 77 [.str c0s,.i c0at]),(101,.bq 75 [.ptr 1 0]),(102,.box 31 [.i 0,.i 0,.str []])],[true,true,true,true,true,true,true,true,true,true],[],[9]⟩,⟨[false,false,false,false,false,false,false,false,true,false],[(1,Pt 101 0),(2,Pt 102 0),(4,I x_1)],[(1,.box 77 [.str c0s,.i c0at]),(101,.bq 75 [.ptr 1 0]),(102,.box 31 [.i 0,.i 0,.str []]),(103,.box 31 [.i 0,.i 0,.str []])],[true,true,true,true,true,true,true,true,true,true],[8],[]⟩,⟨[false,false,false,false,false,false,false,false,true,true],[(1,Pt 101 0),(2,Pt 102 0),(4,I x_1)],[(1,.box 77 [.str c0s,.i c0at]),(101,.bq 75 [.ptr 1 0]),(102,.box 31 [.i 0,.i 0,.str []]),(103,.box 31 [.i 5,.i c0at,.str x_3])],[true,true,true,true,true,true,true,true,true,true],[0,1,2,3,4,5,6,7,8,9],[]⟩] rfl (⟨by kernel_rfl,⟨⟨Pt 1 0,fun _=>rfl,fun _=>.p (by exact cY np rfl rfl rfl)⟩,⟨Pt 1 0,fun _=>rfl,fun _=>.p (by exact ar rfl)⟩,⟨Pt 1 1,fun _=>rfl,fun _=>.p (by exact af bu rfl rfl)⟩,⟨I c0at,fun _=>rfl,fun _=>.p (by exact aq b6 rfl rfl rfl)⟩,⟨I x_1,fun _=>rfl,fun _=>.p (by exact c5 rfl)⟩,⟨.b (.cW [.str x_3]),fun _=>rfl,fun _=>.p (by exact oI pB pA qT (bb e5) (cD e5) rfl (wD (e:=eS) (sz:=1) (fun _=>rfl) e5))⟩,⟨.b (.one (.str x_3)),fun _=>rfl,fun _=>.p (by exact bm cG rfl rfl)⟩,⟨.b (.agg [.i 5,.i c0at,.str x_3]),fun _=>rfl,fun _=>.p (by exact bz ck rfl rfl)⟩,⟨_,[103],Pt 103 0,rfl,fun _=>rfl,rfl,rfl,fun _=>.l5 [1,101,102,103] (by exact .p (by exact aA (k:=103) gz rfl)) (by exact rfl)⟩,trivial,trivial⟩,⟨by kernel_rfl,⟨⟨Pt 1 0,fun _=>rfl,fun _=>.p (by exact cY np rfl rfl rfl)⟩,⟨Pt 1 0,fun _=>rfl,fun _=>.p (by exact ar rfl)⟩,⟨Pt 1 1,fun _=>rfl,fun _=>.p (by exact af bu rfl rfl)⟩,⟨I c0at,fun _=>rfl,fun _=>.p (by exact aq b6 rfl rfl rfl)⟩,⟨I x_1,fun _=>rfl,fun _=>.p (by exact c5 rfl)⟩,⟨.b (.cW [.str x_3]),fun _=>rfl,fun _=>.p (by exact oI pB pA qT (bb e5) (cD e5) rfl (wD (e:=eS) (sz:=1) (fun _=>rfl) e5))⟩,⟨.b (.one (.str x_3)),fun _=>rfl,fun _=>.p (by exact bm cG rfl rfl)⟩,⟨.b (.agg [.i 5,.i c0at,.str x_3]),fun _=>rfl,fun _=>.p (by exact bz ck rfl rfl)⟩,trivial,⟨_,[],.b (.one .any),rfl,(fun e=>by simp at e),rfl,rfl,fun _=>.l5 [1,101,102,103] (by exact .p (by exact ao bT rfl rfl rfl rfl (Nat.le_of_ble_eq_true rfl) rfl)) (by exact rfl)⟩,trivial⟩,⟨by kernel_rfl,⟨trivial,trivial,trivial,trivial,trivial,trivial,trivial,trivial,trivial,trivial,trivial⟩,trivial⟩⟩⟩) rfl rfl rfl [1,2,4,5] [1,101,102,103] (s':=⟨[(1,_),(2,_),(4,_),(5,Pt 103 0)],[(1,_),(101,_),(102,_),(103,.box 31 [.i 5,.i c0at,.str x_3])]⟩) rfl ?_
  refine ab.seq (ab.ah ⟨[(1,_),(2,_),(4,_),(5,_)],[(1,_),(101,_),(102,_),(103,_)]⟩ rfl ?_)
  obtain ⟨x_4,e6,h⟩:=aO h
  refine ab.bR mixed 11 [Pt 1 0,Pt 1 0,Pt 1 1,I c0at,I x_1,.b (.cW [.str x_4]),.b (.one (.str x_4)),I (x_4.length:Int),I (IntKind.i64.wrap (c0at + (x_4.length:Int))),Pt 1 0,Pt 1 1] [2,5] [1,102,103] (s':=⟨[(2,_),(5,_)],[(1,.box 77 [.str c0s,.i (IntKind.i64.wrap (c0at + (x_4.length:Int)))]),(102,_),(103,_)]⟩) rfl ⟨fun _=>.p (cY np rfl rfl rfl),fun _=>.p (ar rfl),fun _=>.p (af bu rfl rfl),fun _=>.p (aq b6 rfl rfl rfl),fun _=>.p om,fun _=>.p (oI pB pA qT (bb e6) (cD e6) rfl (wD (e:=eS) (sz:=1) (fun _=>rfl) e6)),fun _=>.p (bm cG rfl rfl),fun _=>.p (bS du rfl),fun _=>.p (aW rfl rfl),fun _=>.p (ar rfl),fun _=>.p (af bu rfl rfl),trivial⟩ ⟨_,by exact .p (bA b6 rfl rfl rfl (Nat.le_of_ble_eq_true rfl) rfl),rfl⟩ rfl (ab.seq (ab.aa ?_))
  refine Oc (lp bT) (Oc (ao bT rfl rfl rfl rfl (Nat.le_of_ble_eq_true rfl) rfl) (Oc oa ?_))
  refine ae.aj ⟨[(2,_),(3,B true)],[(1,_),(102,.box 31 [.i 5,.i c0at,.str x_3])]⟩ rfl (ab.ret ?_)
  obtain rfl:=Option.some.inj h
  refine Fin.ah ⟨[(2,_),(3,_)],[(1,_),(102,_)]⟩ rfl (Fin.yH (.inl rfl) ?_)
  exact Fin.nq [1] [.agg [.i 5,.i c0at,.str x_3],.one (.bool true)] (.inl rfl) rfl (.cons (.w9 (.agg bT rfl rfl rfl rfl)) (.cons (.w9 (.tmp rfl)) .nil)) ⟨_,rfl,rfl,rfl⟩
theorem mU {F:Nat} {c0s:Str} {c0at:Int} {r:Token × Bool × Int} (h:cQ F c0s c0at = some (.inl r)):ax Tryz.prog (bh mx) 44 [(1,.box 77 [.str c0s,.i c0at])] [.ptr 1 0] (Is [(1,.box 77 [.str c0s,.i r.2.2])] (.fG [.agg (aE r.1),.one (.bool r.2.1)])):=(iH h).spec
theorem nX {F:Nat} {c0s:Str} {c0at:Int} {p:Problem} (h:cQ F c0s c0at = some (.inr p)):jf Tryz.prog (bh mx) 44 [(1,.box 77 [.str c0s,.i c0at])] [.ptr 1 0] ((fun p:Problem=>.iface 46 (.agg #[.int .i64 p.At,.int .i64 p.E])) p) ((fun p:Problem=>jU .i64 p.At ∧ jU .i64 p.E) p):=(iH h).zQ
def dd (F:Nat) (c0s:Str) (c0at:Int):Option (Str × Int) :=
 Option.bind (iter F (fun c_1=>Option.bind (b9 F 99 c_1.s c_1.pos) (kr fun x_3 x_4 x_5=>(bx (!(decide (0 < x_3))) (bd F x_4 x_5)).bind fun x_6=>if ((decide (0 < x_3)) || (decide (x_6 = 35))) = true then ((bd F x_4 x_5).bind fun x_7=>if (decide (x_7 = 35)) = true then (Option.bind (b9 F 101 x_4 x_5) (kr fun x_8 x_9 x_10=>some (.inl (⟨x_9,x_10⟩:Scan)))) else (some (.inl (⟨x_4,x_5⟩:Scan)))) else (some (.inr (⟨x_4,x_5⟩:Scan))))) (⟨c0s,c0at⟩:Scan)) (fun y_2=>some (y_2.s,y_2.pos))
theorem iX {F:Nat} {c0s:Str} {c0at:Int} {r:Str × Int} (h:dd F c0s c0at = some r):ax Tryz.prog (bh mx) 45 [(1,.box 77 [.str c0s,.i c0at])] [.ptr 1 0] (Is [(1,.box 77 [.str r.1,.i r.2])] (.fG [])):=by
 unfold dd at h
 refine ax.intro 15 Tryz.func45 Tryz.ntmps45 rfl (by simp) fun E=>?_
 show ab _ E ⟨15,[1],[1],[]⟩ _ ⟨[(0,Pt 1 0)],[(1,.box 77 [.str c0s,.i c0at])]⟩ _
 refine ab.block ?_
 obtain ⟨v1,h2,h⟩:=aO h
 refine ab.dM h2 (fun (c_1:Scan)=>⟨[(0,Pt 1 0)],[(1,.box 77 (iA c_1))]⟩) [0] [1] rfl ?_
 rintro c_1 o3 h4 hy5
 refine ab.seq (ab.seq (ab.aa ?_))
 refine Oc om ?_
 obtain ⟨⟨x_3,x_4,x_5⟩,e6,h4⟩:=aO h4
 refine Oc (cz (own_a:=[(1,_)]) (dp e6) tP rfl ⟨rfl,trivial⟩ rfl rfl) (Oc (fJ rfl rfl) (Oc om ?_))
 refine fU (!(decide (0 < x_3))) [] (fun g7=>trivial) (fun g7=>om) (ae.ah ⟨[(0,_),(5,B (decide (0 < x_3))),(6,.opt (!(decide (0 < x_3))) (.ptr 1 0))],[(1,.box 77 [.str x_4,.i x_5])]⟩ rfl ?_)
 obtain ⟨x_6,e9,h4⟩:=aO h4
 refine fU (!(decide (0 < x_3))) [6] (fun g8=>⟨g8,trivial⟩) (fun g8=>ud (own_a:=[(1,_)]) (bD (gc e9 g8)) mb rfl ⟨rfl,trivial⟩ rfl rfl rfl rfl rfl) (fU (!(decide (0 < x_3))) [7] (fun g10=>⟨g10,trivial⟩) (fun g10=>c9 rfl rfl) (Oc (bt (fun e=>by first | (rw [e]; rfl) | (simp only at e; rw [e]; rfl)) rfl rfl rfl rfl) (ae.aj ⟨[(0,_),(9,B ((decide (0 < x_3)) || (decide (x_6 = 35))))],[(1,_)]⟩ rfl (ab.ite h4 rfl (fun _ h4=>?_) (fun _ h4=>?_)))))
 ·refine ab.skip (Fin.ah ⟨[(0,_)],[(1,_)]⟩ rfl (Fin.then (ab.block (ab.seq (ab.aa ?_)))))
  refine Oc om ?_
  obtain ⟨x_7,e11,h4⟩:=aO h4
  refine Oc (cz (own_a:=[(1,_)]) (bD e11) mb rfl ⟨rfl,trivial⟩ rfl rfl) (Oc (c9 rfl rfl) ?_)
  refine ae.aj ⟨[(0,_),(12,B (decide (x_7 = 35)))],[(1,_)]⟩ rfl (ab.ite h4 rfl (fun _ h4=>?_) (fun _ h4=>?_))
  ·refine ab.aa (Oc om ?_)
   obtain ⟨⟨x_8,x_9,x_10⟩,e12,h4⟩:=aO h4
   refine Oc (cz (own_a:=[(1,_)]) (dp e12) tP rfl ⟨rfl,trivial⟩ rfl rfl) (ae.nil (Fin.aC ?_))
   exact Fin.cy [0] [1] (⟨x_9,x_10⟩:Scan) (Option.some.inj h4) rfl
  ·refine ab.skip (Fin.aC ?_)
   exact Fin.cy [0] [1] (⟨x_4,x_5⟩:Scan) (Option.some.inj h4) rfl
 ·refine ab.exit (Fin.aB ?_)
  obtain rfl:=hy5 _ (Option.some.inj h4).symm
  refine Fin.aB (Fin.aU ?_)
  obtain rfl:=Option.some.inj h
  refine Fin.ah ⟨[],[(1,_)]⟩ rfl ?_
  exact Fin.result [] (.inr rfl) rfl (.nil) ⟨rfl,rfl⟩
def cf (F:Nat) (s0:Str):Option ((List Token) × Problem) :=
 if (decide (100000 < (s0.length:Int))) = true then (some ([],(⟨0,2⟩:Problem))) else (Option.bind (Option.bind (dd F s0 0) (cF fun x_2 x_3=>iter F (cF fun outf0_4 c_5=>if (decide (c_5.pos < (s0.length:Int))) = true then (Option.bind (Option.bind (iter F (cF fun c_9 x_10=>if (decide (x_10 < 4)) = true then (if decide (x_10 = 0) = true then (Option.bind (bZ F c_9.s c_9.pos) (sZ (fun p_14=>some (.inr (.inr ([],(⟨p_14.At,p_14.E⟩:Problem))))) (BT fun x_15 x_16 x_17 x_18=>if x_16 = true then ((iZ outf0_4 [x_15]).bind fun x_19=>some (.inr (.inl (x_19,(⟨x_17,x_18⟩:Scan))))) else (some (.inl ((⟨x_17,x_18⟩:Scan),IntKind.i64.wrap (x_10 + 1))))))) else (if decide (x_10 = 1) = true then (Option.bind (bO F c_9.s c_9.pos) (sZ (fun p_21=>some (.inr (.inr ([],(⟨p_21.At,p_21.E⟩:Problem))))) (BT fun x_22 x_23 x_24 x_25=>if x_23 = true then ((iZ outf0_4 [x_22]).bind fun x_26=>some (.inr (.inl (x_26,(⟨x_24,x_25⟩:Scan))))) else (some (.inl ((⟨x_24,x_25⟩:Scan),IntKind.i64.wrap (x_10 + 1))))))) else (if decide (x_10 = 2) = true then (Option.bind (bY F c_9.s c_9.pos) (sZ (fun p_28=>some (.inr (.inr ([],(⟨p_28.At,p_28.E⟩:Problem))))) (BT fun x_29 x_30 x_31 x_32=>if x_30 = true then ((iZ outf0_4 [x_29]).bind fun x_33=>some (.inr (.inl (x_33,(⟨x_31,x_32⟩:Scan))))) else (some (.inl ((⟨x_31,x_32⟩:Scan),IntKind.i64.wrap (x_10 + 1))))))) else (if decide (x_10 = 3) = true then (Option.bind (cQ F c_9.s c_9.pos) (sZ (fun p_35=>some (.inr (.inr ([],(⟨p_35.At,p_35.E⟩:Problem))))) (kr fun x_36 x_37 x_38=>if x_37 = true then ((iZ outf0_4 [x_36]).bind fun x_39=>some (.inr (.inl (x_39,(⟨c_9.s,x_38⟩:Scan))))) else (some (.inl ((⟨c_9.s,x_38⟩:Scan),IntKind.i64.wrap (x_10 + 1))))))) else (none))))) else (some (.inr (.inl (outf0_4,c_9))))) (c_5,0)) (eh (cF fun outf0_11 c_12=>some (.inl (outf0_11,c_12))) (fun y=>some (.inr y)))) (eh (cF fun outf0_7 c_8=>Option.bind (dd F c_8.s c_8.pos) (cF fun x_40 x_41=>some (.inl (outf0_7,(⟨x_40,x_41⟩:Scan))))) (fun y=>some (.inr (.inr y))))) else (some (.inr (.inl outf0_4)))) ([],(⟨x_2,x_3⟩:Scan)))) (eh (fun outf0_1=>some (outf0_1,(⟨0,0⟩:Problem))) (fun y=>some y)))
theorem pL:xp Tryz.prog 40 2:=xp.intro Tryz.func40 rfl rfl Tryz.underlying20 (by decide) (by decide) (by decide) (by decide) (by decide)
theorem eH {a102i0:Int} {a102i1:Int} {xs107:List Token} {p:Problem} (hok:jU .i64 p.At ∧ jU .i64 p.E):qS Tryz.prog (bh mx) 40 [(101,.bq 22 [.row 107]),(102,.box 46 [.i a102i0,.i a102i1]),(107,.row 31 3 (xs107.map aE))] [.ptr 101 0,.ptr 102 0] (.iface 46 (.agg #[.int .i64 p.At,.int .i64 p.E])) [(101,.bq 22 [.one (.nil)]),(102,.box 46 (bF p))]:=by
 refine qS.intro (z:=.one (.yy 46 (bF p))) 8 Tryz.func40 Tryz.ntmps40 rfl (by decide) (by decide) (by decide) (fun h ρ=>⟨_,rfl,.cons ⟨rfl,hok.1⟩ (.cons ⟨rfl,hok.2⟩ .nil)⟩) fun E=>?_
 show ab _ E ⟨8,[101,102],[101,102,107],[]⟩ _ ⟨[(2,.b (.one (.yy 46 (bF p)))),(0,Pt 101 0),(1,Pt 102 0)],[(101,.bq 22 [.row 107]),(102,.box 46 [.i a102i0,.i a102i1]),(107,.row 31 3 (xs107.map aE))]⟩ _
 refine ab.seq (ab.aa ?_)
 refine Oc om (Oc (zt Tryz.underlying20 rfl) ?_)
 refine ae.aj ⟨[(0,Pt 101 0),(1,Pt 102 0),(2,.b (.one (.yy 46 (bF p)))),(5,B true)],[(101,.bq 22 [.row 107]),(102,.box 46 [.i a102i0,.i a102i1]),(107,.row 31 3 (xs107.map aE))]⟩ rfl (ab.lL rfl (ab.ah ⟨[(0,_),(1,_),(2,_)],[(101,_),(102,_),(107,_)]⟩ rfl (ab.qW mixed [false,false,true,true] [.b (.one (.yy 46 (bF p))),.b (.agg (bF p)),B true,B true] [⟨[false,false,false,false],[(0,Pt 101 0),(1,Pt 102 0),(2,.b (.one (.yy 46 (bF p))))],[(101,.bq 22 [.row 107]),(102,.box 46 [.i a102i0,.i a102i1]),(107,.row 31 3 (xs107.map aE))],[true,true,true,true],[],[3]⟩,⟨[false,false,true,false],[(0,Pt 101 0),(1,Pt 102 0),(2,.b (.one (.yy 46 (bF p))))],[(101,.bq 22 [.one (.nil)]),(102,.box 46 [.i a102i0,.i a102i1]),(107,.row 31 3 (xs107.map aE))],[true,true,true,true],[2],[]⟩,⟨[false,false,true,true],[(0,Pt 101 0),(1,Pt 102 0),(2,.b (.one (.yy 46 (bF p))))],[(101,.bq 22 [.one (.nil)]),(102,.box 46 (bF p)),(107,.row 31 3 (xs107.map aE))],[true,true,true,true],[0,1,2,3],[]⟩] rfl (⟨by kernel_rfl,⟨⟨.b (.one (.yy 46 (bF p))),fun _=>rfl,fun _=>.p (by exact c5 rfl)⟩,⟨.b (.agg (bF p)),fun _=>rfl,fun _=>.p (by exact pY Tryz.underlying46 rfl rfl)⟩,⟨_,[],.b (.one .any),rfl,(fun e=>by simp at e),rfl,rfl,fun _=>.l5 [101,102,107] (by exact .p (by exact ef eE rfl rfl rfl rfl (Nat.le_of_ble_eq_true rfl) rfl)) (by exact rfl)⟩,trivial,trivial⟩,⟨by kernel_rfl,⟨⟨.b (.one (.yy 46 (bF p))),fun _=>rfl,fun _=>.p (by exact c5 rfl)⟩,⟨.b (.agg (bF p)),fun _=>rfl,fun _=>.p (by exact pY Tryz.underlying46 rfl rfl)⟩,trivial,⟨_,[],.b (.one .any),rfl,(fun e=>by simp at e),rfl,rfl,fun _=>.l5 [101,102,107] (by exact .p (by exact ao cT rfl rfl rfl rfl (Nat.le_of_ble_eq_true rfl) rfl)) (by exact rfl)⟩,trivial⟩,⟨by kernel_rfl,⟨trivial,trivial,trivial,trivial,trivial⟩,trivial⟩⟩⟩) rfl rfl rfl [] [101,102] (s':=⟨[],[(101,.bq 22 [.one (.nil)]),(102,.box 46 (bF p))]⟩) rfl (Fin.ah ⟨[],[(101,_),(102,_)]⟩ rfl ?_))))
 exact Fin.result [] (.inr rfl) rfl .nil ⟨rfl,rfl⟩
theorem dk {F:Nat} {s0:Str} {r:(List Token) × Problem} (h:cf F s0 = some r):ax Tryz.prog (bh mx) 13 [] [.one (.str s0)] (Is [] (.fG [.one (.sl 3 (r.1.map aE)),.agg (bF r.2)])):=by
 unfold cf at h
 refine ax.CA 55 Tryz.func13 Tryz.ntmps13 rfl (by simp) fun E=>?_
 show ab _ E ⟨55,[],[],[]⟩ _ ⟨[(0,.b (.one (.str s0)))],[]⟩ _
 refine ab.seq (ab.aa ?_)
 refine Oc (aA (k:=101) Dk rfl) (Oc (aA (k:=102) j9 rfl) ?_)
 refine ae.aj ⟨[(0,.b (.one (.str s0))),(2,Pt 101 0),(3,Pt 102 0)],[(101,.box 22 [.nil]),(102,.box 46 [.i 0,.i 0])]⟩ rfl (ab.seq (ab.seq (ab.aa ?_)))
 refine Oc om (Oc (bS du rfl) (Oc (fJ rfl rfl) ?_))
 refine ae.aj ⟨[(0,_),(2,_),(3,_),(12,B (decide (100000 < (s0.length:Int))))],[(101,_),(102,_)]⟩ rfl (ab.ite h rfl (fun _ h=>?_) (fun _ h=>?_))
 ·refine ab.seq (ab.aa ?_)
  refine Oc (bz gZ rfl rfl) (Oc (bA eE rfl rfl rfl (Nat.le_of_ble_eq_true rfl) rfl) (Oc (ao cT rfl rfl rfl rfl (Nat.le_of_ble_eq_true rfl) rfl) ?_))
  refine ae.aj ⟨[(2,_),(3,_)],[(101,_),(102,.box 46 [.i 0,.i 2])]⟩ rfl (ab.ret (Fin.aI ?_))
  obtain rfl:=Option.some.inj h
  refine Fin.retD (.inl rfl) rfl (Fin.ah ⟨[(2,_),(3,_)],[(101,_),(102,_)]⟩ rfl (Fin.ky 101 0 3 rfl rfl (by decide) (Fin.ay [.one (.sl 3 ([].map aE)),.agg [.i 0,.i 2]] (.inl rfl) rfl (.cons (.one eE rfl rfl rfl) (.cons (.agg cT rfl rfl rfl rfl) .nil)) ⟨rfl,rfl⟩)))
 ·refine ab.skip (Fin.ah ⟨[(0,_),(2,_),(3,_)],[(101,_),(102,_)]⟩ rfl (Fin.then (ab.seq (ab.aa ?_))))
  refine Oc (gI rfl rfl) (ae.defer rfl rfl rfl (fun E' vals hlink hvals=>?_))
  refine ae.aj ⟨[(0,_),(2,_),(3,_)],[(101,_),(102,_)]⟩ rfl (ab.seq (ab.aa ?_))
  refine Oc om (Oc (bz A0 rfl rfl) (Oc (bM (k:=103) rfl rfl) (Oc oa ?_)))
  refine ae.aj ⟨[(0,_),(2,_),(3,_),(4,Pt 103 0)],[(101,_),(102,_),(103,.box 77 [.str s0,.i 0])]⟩ rfl (ab.seq (ab.aa ?_))
  refine Oc om (Oc (gI rfl rfl) (Oc om (Oc (gI rfl rfl) (Oc om (Oc (gI rfl rfl) ?_)))))
  refine Oc om (ae.ah ⟨[(0,_),(2,_),(3,_),(4,_),(19,.b (.dq 41 [.ptr 103 0] [])),(21,.b (.dq 42 [.ptr 103 0] [])),(23,.b (.dq 43 [.ptr 103 0] [])),(24,Pt 103 0)],[(101,_),(102,_),(103,_)]⟩ rfl (Oc (gI rfl rfl) (Oc (yg AZ rfl rfl) (Oc (aA (k:=104) Dj rfl) ?_))))
  refine ae.BX 104 rfl (Oc (sO Aa rfl rfl rfl rfl rfl (Nat.le_of_ble_eq_true rfl) rfl) (ae.aj ⟨[(0,.b (.one (.str s0))),(2,Pt 101 0),(3,Pt 102 0),(4,Pt 103 0),(5,Pt 104 0)],[(101,.box 22 [.nil]),(102,.box 46 [.i 0,.i 0]),(103,.box 77 [.str s0,.i 0]),(104,.bq 79 [.dq 41 [.ptr 103 0] [],.dq 42 [.ptr 103 0] [],.dq 43 [.ptr 103 0] [],.dq 44 [.ptr 103 0] []])]⟩ rfl ?_))
  obtain ⟨v1,h2,h⟩:=aO h
  refine ab.cN (v:=v1) (fun (outf0_1:List Token)=>⟨[(2,Pt 101 0),(3,Pt 102 0)],[(101,.bq 22 [.row 107]),(102,.box 46 [.i 0,.i 0]),(107,.row 31 3 (outf0_1.map aE))]⟩) (fun z=>.inl z) ?_ ?_
  ·refine ab.seq (ab.aa ?_)
   refine Oc om ?_
   obtain ⟨⟨x_2,x_3⟩,e3,h2⟩:=aO h2
   refine Oc (cz (own_a:=[(103,_)]) ((iX e3).sw 1 103) CG rfl ⟨rfl,trivial⟩ rfl rfl) (ae.aj ⟨[(0,.b (.one (.str s0))),(2,Pt 101 0),(3,Pt 102 0),(4,Pt 103 0),(5,Pt 104 0)],[(101,.box 22 [.nil]),(102,.box 46 [.i 0,.i 0]),(103,.box 77 [.str x_2,.i x_3]),(104,.bq 79 [.dq 41 [.ptr 103 0] [],.dq 42 [.ptr 103 0] [],.dq 43 [.ptr 103 0] [],.dq 44 [.ptr 103 0] []])]⟩ rfl (ab.block (ab.BX 101 rfl (ab.nw 101 0 107 3 31 rfl rfl (by decide) (by decide) rfl (ab.dM h2 (cF fun (outf0_4:List Token) (c_5:Scan)=>⟨[(0,.b (.one (.str s0))),(2,Pt 101 0),(3,Pt 102 0),(4,Pt 103 0),(5,Pt 104 0)],[(101,.bq 22 [.row 107]),(102,.box 46 [.i 0,.i 0]),(103,.box 77 (iA c_5)),(104,.bq 79 [.dq 41 [.ptr 103 0] [],.dq 42 [.ptr 103 0] [],.dq 43 [.ptr 103 0] [],.dq 44 [.ptr 103 0] []]),(107,.row 31 3 (outf0_4.map aE))]⟩) [0,2,3,4,5] [101,102,103,104,107] rfl ?_)))))
   rintro ⟨outf0_4,c_5⟩ o4 h5 hy6
   refine ab.seq (ab.seq (ab.aa ?_))
   refine Oc om (Oc (ar rfl) (Oc (af bu rfl rfl) (Oc (aq b6 rfl rfl rfl) (Oc om (Oc (bS du rfl) ?_)))))
   refine Oc (b7 rfl rfl) (ae.aj ⟨[(0,_),(2,_),(3,_),(4,_),(5,_),(35,B (decide (c_5.pos < (s0.length:Int))))],[(101,_),(102,_),(103,_),(104,_),(107,_)]⟩ rfl (ab.ite h5 rfl (fun _ h5=>?_) (fun _ h5=>?_)))
   ·refine ab.skip (Fin.ah ⟨[(0,_),(2,_),(3,_),(4,_),(5,_)],[(101,_),(102,_),(103,_),(104,_),(107,_)]⟩ rfl (Fin.then ?_))
    obtain ⟨v7,h8,h5⟩:=aO h5
    refine ab.cN (v:=v7) (cF fun (outf0_7:List Token) (c_8:Scan)=>⟨[(0,.b (.one (.str s0))),(2,Pt 101 0),(3,Pt 102 0),(4,Pt 103 0),(5,Pt 104 0)],[(101,.bq 22 [.row 107]),(102,.box 46 [.i 0,.i 0]),(103,.box 77 (iA c_8)),(104,.bq 79 [.dq 41 [.ptr 103 0] [],.dq 42 [.ptr 103 0] [],.dq 43 [.ptr 103 0] [],.dq 44 [.ptr 103 0] []]),(107,.row 31 3 (outf0_7.map aE))]⟩) (fun z=>.inl z) ?_ ?_
    ·refine ab.block (ab.seq (ab.aa ?_))
     refine Oc (zv Aa rfl rfl rfl rfl) (Oc om ?_)
     refine ae.aj ⟨[(0,_),(2,_),(3,_),(4,_),(5,_),(38,.gT [.dq 41 [.ptr 103 0] [],.dq 42 [.ptr 103 0] [],.dq 43 [.ptr 103 0] [],.dq 44 [.ptr 103 0] []]),(39,I 0)],[(101,_),(102,_),(103,_),(104,_),(107,_)]⟩ rfl (ab.block ?_)
     obtain ⟨v9,h10,h8⟩:=aO h8
     refine ab.dM h10 (cF fun (c_9:Scan) (x_10:Int)=>⟨[(0,.b (.one (.str s0))),(2,Pt 101 0),(3,Pt 102 0),(4,Pt 103 0),(5,Pt 104 0),(38,.gT [.dq 41 [.ptr 103 0] [],.dq 42 [.ptr 103 0] [],.dq 43 [.ptr 103 0] [],.dq 44 [.ptr 103 0] []]),(39,I x_10)],[(101,.bq 22 [.row 107]),(102,.box 46 [.i 0,.i 0]),(103,.box 77 (iA c_9)),(104,.bq 79 [.dq 41 [.ptr 103 0] [],.dq 42 [.ptr 103 0] [],.dq 43 [.ptr 103 0] [],.dq 44 [.ptr 103 0] []]),(107,.row 31 3 (outf0_4.map aE))]⟩) [0,2,3,4,5,38,39] [101,102,103,104,107] rfl ?_
     rintro ⟨c_9,x_10⟩ o11 h12 hy13
     refine ab.seq (ab.aa ?_)
     refine Oc (b7 rfl rfl) (ae.aj ⟨[(0,_),(2,_),(3,_),(4,_),(5,_),(38,_),(39,_),(40,B (decide (x_10 < 4)))],[(101,_),(102,_),(103,_),(104,_),(107,_)]⟩ rfl (ab.seq (ab.ite h12 rfl (fun _ h12=>?_) (fun _ h12=>?_))))
     ·refine ab.skip (Fin.ah ⟨[(0,_),(2,_),(3,_),(4,_),(5,_),(38,_),(39,_)],[(101,_),(102,_),(103,_),(104,_),(107,_)]⟩ rfl (Fin.then (ab.seq (ab.block (ab.seq ?_)))))
      refine zU h12 (fun hc14 h12=>?_) (fun _ h12=>?_)
      ·refine ab.aa (Oc (lV te td (show x_10 = 0 from of_decide_eq_true hc14) (by decide) rfl rfl rfl) (Oc oa ?_))
       refine ae.aj ⟨[(0,_),(2,_),(3,_),(4,_),(5,_),(7,.b (.dq 41 [.ptr 103 0] [])),(38,_),(39,_)],[(101,_),(102,_),(103,_),(104,_),(107,_)]⟩ rfl (ab.seq (ab.aa ?_))
       refine Oc om ?_
       obtain ⟨o_13,e15,h12⟩:=aO h12
       refine zX h12 (fun p_14 hp16 h12=>?nZ) (fun z hp16 h12=>?_)
       case nZ=>
        subst o_13
        refine ae.q5 (own_a:=[(103,_)]) ((nY e15).sw 1 103) CK rfl rfl rfl ⟨rfl,trivial⟩ (fun hok=>?_)
        refine Fin.bE (Fin.cn (Fin.bE ?_))
        obtain rfl:=hy13 _ (Option.some.inj h12).symm
        refine Fin.bE (Fin.cn (Fin.cn ?_))
        obtain rfl:=Option.some.inj h8
        refine Fin.bE ?_
        obtain rfl:=hy6 _ (Option.some.inj h5).symm
        refine Fin.bE (Fin.cn (Fin.bE (Fin.tu (own_c:=[(101,_),(102,_),(107,_)]) hlink hvals (eH hok) tT rfl rfl ⟨rfl,rfl,rfl,trivial⟩ rfl rfl (tN rfl rfl rfl rfl) ?_)))
        obtain rfl:=Option.some.inj h
        refine Fin.ah ⟨[(2,Pt 101 0),(3,Pt 102 0)],[(101,.bq 22 [.one (.nil)]),(102,.box 46 [.i p_14.At,.i p_14.E])]⟩ rfl (Fin.zK 101 rfl rfl (Fin.ky 101 0 3 rfl rfl (by decide) (Fin.ay [.one (.sl 3 ([].map aE)),.agg [.i p_14.At,.i p_14.E]] (.inl rfl) rfl (.cons (.one eE rfl rfl rfl) (.cons (.agg cT rfl rfl rfl rfl) .nil)) ⟨rfl,rfl⟩)))
       subst o_13
       obtain ⟨x_15,x_16,x_17,x_18⟩:=z
       refine Oc (mF (own_a:=[(103,_)]) ((mV e15).sw 1 103) CK rfl rfl rfl ⟨rfl,trivial⟩ rfl rfl) (Oc om (Oc (aF rfl rfl) (Oc (aF rfl rfl) ?_)))
       refine ae.ah ⟨[(0,.b (.one (.str s0))),(2,_),(3,_),(4,Pt 103 0),(5,Pt 104 0),(38,.gT [.dq 41 [.ptr 103 0] [],.dq 42 [.ptr 103 0] [],.dq 43 [.ptr 103 0] [],.dq 44 [.ptr 103 0] []]),(39,I x_10),(45,.b (.agg (aE x_15))),(46,B x_16)],[(101,.bq 22 [.row 107]),(102,.box 46 [.i 0,.i 0]),(103,.box 77 [.str x_17,.i x_18]),(104,.bq 79 [.dq 41 [.ptr 103 0] [],.dq 42 [.ptr 103 0] [],.dq 43 [.ptr 103 0] [],.dq 44 [.ptr 103 0] []]),(107,.row 31 3 (outf0_4.map aE))]⟩ rfl (Oc (aA (k:=108) gz rfl) (Oc (ao bT rfl rfl rfl rfl (Nat.le_of_ble_eq_true rfl) rfl) (Oc oa ?_)))
       refine ae.aj ⟨[(0,_),(2,_),(3,_),(4,_),(5,_),(8,Pt 108 0),(9,B x_16),(38,_),(39,_)],[(101,_),(102,_),(103,_),(104,_),(107,_),(108,.box 31 (aE x_15))]⟩ rfl (ab.seq (ab.aa ?_))
       refine Oc om (ae.aj ⟨[(0,_),(2,_),(3,_),(4,_),(5,_),(8,_),(38,_),(39,_),(47,B x_16)],[(101,_),(102,_),(103,_),(104,_),(107,_),(108,_)]⟩ rfl (ab.ite h12 rfl (fun _ h12=>?_) (fun _ h12=>?_)))
       ·refine ab.seq (ab.aa ?_)
        refine Oc (cY eE rfl rfl rfl) (Oc (lp bT) (Oc (bp (k:=109) (es:=[x_15].map aE) fH rfl rfl (cZ fun _=>rfl) rfl (by decide) (by decide) rfl) ?_))
        refine ae.forget 101 0 rfl ?_
        obtain ⟨x_19,e17,h12⟩:=aO h12
        refine Oc (fF fH (sJ e17) (sI e17) rfl rfl rfl rfl (lP e17) rfl) (Oc (ef eE rfl rfl rfl rfl (Nat.le_of_ble_eq_true rfl) rfl) ?_)
        refine ae.aj ⟨[(0,.b (.one (.str s0))),(2,Pt 101 0),(3,Pt 102 0),(4,Pt 103 0),(5,Pt 104 0)],[(101,.bq 22 [.row 107]),(102,.box 46 [.i 0,.i 0]),(103,.box 77 [.str x_17,.i x_18]),(104,.bq 79 [.dq 41 [.ptr 103 0] [],.dq 42 [.ptr 103 0] [],.dq 43 [.ptr 103 0] [],.dq 44 [.ptr 103 0] []]),(107,.row 31 3 (x_19.map aE))]⟩ rfl (ab.exit (Fin.iq (by decide) (Fin.aB ?_)))
        obtain rfl:=hy13 _ (Option.some.inj h12).symm
        refine Fin.aB (Fin.aU (Fin.aC ?_))
        exact Fin.join [0,2,3,4,5] [101,102,103,104,107] (x_19,(⟨x_17,x_18⟩:Scan)) (Option.some.inj h8) rfl
       ·refine ab.skip (Fin.aC (Fin.ah ⟨[(0,_),(2,_),(3,_),(4,_),(5,_),(38,_),(39,_)],[(101,_),(102,_),(103,_),(104,_),(107,_)]⟩ rfl (Fin.then (ab.aa ?_))))
        refine Oc (aW rfl rfl) (Oc om ?_)
        refine ae.nil ?_
        exact Fin.cy [0,2,3,4,5,38,39] [101,102,103,104,107] ((⟨x_17,x_18⟩:Scan),IntKind.i64.wrap (x_10 + 1)) (Option.some.inj h12) rfl
      refine zU h12 (fun hc18 h12=>?_) (fun _ h12=>?_)
      ·refine ab.aa (Oc (lV te td (show x_10 = 1 from of_decide_eq_true hc18) (by decide) rfl rfl rfl) (Oc oa ?_))
       refine ae.aj ⟨[(0,_),(2,_),(3,_),(4,_),(5,_),(7,.b (.dq 42 [.ptr 103 0] [])),(38,_),(39,_)],[(101,_),(102,_),(103,.box 77 (iA c_9)),(104,_),(107,_)]⟩ rfl (ab.seq (ab.aa ?_))
       refine Oc om ?_
       obtain ⟨o_20,e19,h12⟩:=aO h12
       refine zX h12 (fun p_21 hp20 h12=>?nZ) (fun z hp20 h12=>?_)
       case nZ=>
        subst o_20
        refine ae.q5 (own_a:=[(103,_)]) ((mi e19).sw 1 103) CJ rfl rfl rfl ⟨rfl,trivial⟩ (fun hok=>?_)
        refine Fin.bE (Fin.cn (Fin.bE ?_))
        obtain rfl:=hy13 _ (Option.some.inj h12).symm
        refine Fin.bE (Fin.cn (Fin.cn ?_))
        obtain rfl:=Option.some.inj h8
        refine Fin.bE ?_
        obtain rfl:=hy6 _ (Option.some.inj h5).symm
        refine Fin.bE (Fin.cn (Fin.bE (Fin.tu (own_c:=[(101,_),(102,_),(107,_)]) hlink hvals (eH hok) tT rfl rfl ⟨rfl,rfl,rfl,trivial⟩ rfl rfl (tN rfl rfl rfl rfl) ?_)))
        obtain rfl:=Option.some.inj h
        refine Fin.ah ⟨[(2,Pt 101 0),(3,Pt 102 0)],[(101,.bq 22 [.one (.nil)]),(102,.box 46 [.i p_21.At,.i p_21.E])]⟩ rfl (Fin.zK 101 rfl rfl (Fin.ky 101 0 3 rfl rfl (by decide) (Fin.ay [.one (.sl 3 ([].map aE)),.agg [.i p_21.At,.i p_21.E]] (.inl rfl) rfl (.cons (.one eE rfl rfl rfl) (.cons (.agg cT rfl rfl rfl rfl) .nil)) ⟨rfl,rfl⟩)))
       subst o_20
       obtain ⟨x_22,x_23,x_24,x_25⟩:=z
       refine Oc (mF (own_a:=[(103,_)]) ((lG e19).sw 1 103) CJ rfl rfl rfl ⟨rfl,trivial⟩ rfl rfl) (Oc om (Oc (aF rfl rfl) (Oc (aF rfl rfl) ?_)))
       refine ae.ah ⟨[(0,.b (.one (.str s0))),(2,_),(3,_),(4,Pt 103 0),(5,Pt 104 0),(38,.gT [.dq 41 [.ptr 103 0] [],.dq 42 [.ptr 103 0] [],.dq 43 [.ptr 103 0] [],.dq 44 [.ptr 103 0] []]),(39,I x_10),(45,.b (.agg (aE x_22))),(46,B x_23)],[(101,.bq 22 [.row 107]),(102,.box 46 [.i 0,.i 0]),(103,.box 77 [.str x_24,.i x_25]),(104,.bq 79 [.dq 41 [.ptr 103 0] [],.dq 42 [.ptr 103 0] [],.dq 43 [.ptr 103 0] [],.dq 44 [.ptr 103 0] []]),(107,.row 31 3 (outf0_4.map aE))]⟩ rfl (Oc (aA (k:=110) gz rfl) (Oc (ao bT rfl rfl rfl rfl (Nat.le_of_ble_eq_true rfl) rfl) (Oc oa ?_)))
       refine ae.aj ⟨[(0,_),(2,_),(3,_),(4,_),(5,_),(8,Pt 110 0),(9,B x_23),(38,_),(39,_)],[(101,_),(102,_),(103,_),(104,_),(107,_),(110,.box 31 (aE x_22))]⟩ rfl (ab.seq (ab.aa ?_))
       refine Oc om (ae.aj ⟨[(0,_),(2,_),(3,_),(4,_),(5,_),(8,_),(38,_),(39,_),(47,B x_23)],[(101,_),(102,_),(103,_),(104,_),(107,_),(110,_)]⟩ rfl (ab.ite h12 rfl (fun _ h12=>?_) (fun _ h12=>?_)))
       ·refine ab.seq (ab.aa ?_)
        refine Oc (cY eE rfl rfl rfl) (Oc (lp bT) (Oc (bp (k:=111) (es:=[x_22].map aE) fH rfl rfl (cZ fun _=>rfl) rfl (by decide) (by decide) rfl) ?_))
        refine ae.forget 101 0 rfl ?_
        obtain ⟨x_26,e21,h12⟩:=aO h12
        refine Oc (fF fH (sJ e21) (sI e21) rfl rfl rfl rfl (lP e21) rfl) (Oc (ef eE rfl rfl rfl rfl (Nat.le_of_ble_eq_true rfl) rfl) ?_)
        refine ae.aj ⟨[(0,.b (.one (.str s0))),(2,Pt 101 0),(3,Pt 102 0),(4,Pt 103 0),(5,Pt 104 0)],[(101,.bq 22 [.row 107]),(102,.box 46 [.i 0,.i 0]),(103,.box 77 [.str x_24,.i x_25]),(104,.bq 79 [.dq 41 [.ptr 103 0] [],.dq 42 [.ptr 103 0] [],.dq 43 [.ptr 103 0] [],.dq 44 [.ptr 103 0] []]),(107,.row 31 3 (x_26.map aE))]⟩ rfl (ab.exit (Fin.iq (by decide) (Fin.aB ?_)))
        obtain rfl:=hy13 _ (Option.some.inj h12).symm
        refine Fin.aB (Fin.aU (Fin.aC ?_))
        exact Fin.join [0,2,3,4,5] [101,102,103,104,107] (x_26,(⟨x_24,x_25⟩:Scan)) (Option.some.inj h8) rfl
       ·refine ab.skip (Fin.aC (Fin.ah ⟨[(0,_),(2,_),(3,_),(4,_),(5,_),(38,_),(39,_)],[(101,_),(102,_),(103,_),(104,_),(107,_)]⟩ rfl (Fin.then (ab.aa ?_))))
        refine Oc (aW rfl rfl) (Oc om ?_)
        refine ae.nil ?_
        exact Fin.cy [0,2,3,4,5,38,39] [101,102,103,104,107] ((⟨x_24,x_25⟩:Scan),IntKind.i64.wrap (x_10 + 1)) (Option.some.inj h12) rfl
      refine zU h12 (fun hc22 h12=>?_) (fun _ h12=>?_)
      ·refine ab.aa (Oc (lV te td (show x_10 = 2 from of_decide_eq_true hc22) (by decide) rfl rfl rfl) (Oc oa ?_))
       refine ae.aj ⟨[(0,_),(2,_),(3,_),(4,_),(5,_),(7,.b (.dq 43 [.ptr 103 0] [])),(38,_),(39,_)],[(101,_),(102,_),(103,.box 77 (iA c_9)),(104,_),(107,_)]⟩ rfl (ab.seq (ab.aa ?_))
       refine Oc om ?_
       obtain ⟨o_27,e23,h12⟩:=aO h12
       refine zX h12 (fun p_28 hp24 h12=>?nZ) (fun z hp24 h12=>?_)
       case nZ=>
        subst o_27
        refine ae.q5 (own_a:=[(103,_)]) ((nW e23).sw 1 103) CI rfl rfl rfl ⟨rfl,trivial⟩ (fun hok=>?_)
        refine Fin.bE (Fin.cn (Fin.bE ?_))
        obtain rfl:=hy13 _ (Option.some.inj h12).symm
        refine Fin.bE (Fin.cn (Fin.cn ?_))
        obtain rfl:=Option.some.inj h8
        refine Fin.bE ?_
        obtain rfl:=hy6 _ (Option.some.inj h5).symm
        refine Fin.bE (Fin.cn (Fin.bE (Fin.tu (own_c:=[(101,_),(102,_),(107,_)]) hlink hvals (eH hok) tT rfl rfl ⟨rfl,rfl,rfl,trivial⟩ rfl rfl (tN rfl rfl rfl rfl) ?_)))
        obtain rfl:=Option.some.inj h
        refine Fin.ah ⟨[(2,Pt 101 0),(3,Pt 102 0)],[(101,.bq 22 [.one (.nil)]),(102,.box 46 [.i p_28.At,.i p_28.E])]⟩ rfl (Fin.zK 101 rfl rfl (Fin.ky 101 0 3 rfl rfl (by decide) (Fin.ay [.one (.sl 3 ([].map aE)),.agg [.i p_28.At,.i p_28.E]] (.inl rfl) rfl (.cons (.one eE rfl rfl rfl) (.cons (.agg cT rfl rfl rfl rfl) .nil)) ⟨rfl,rfl⟩)))
       subst o_27
       obtain ⟨x_29,x_30,x_31,x_32⟩:=z
       refine Oc (mF (own_a:=[(103,_)]) ((mT e23).sw 1 103) CI rfl rfl rfl ⟨rfl,trivial⟩ rfl rfl) (Oc om (Oc (aF rfl rfl) (Oc (aF rfl rfl) ?_)))
       refine ae.ah ⟨[(0,.b (.one (.str s0))),(2,_),(3,_),(4,Pt 103 0),(5,Pt 104 0),(38,.gT [.dq 41 [.ptr 103 0] [],.dq 42 [.ptr 103 0] [],.dq 43 [.ptr 103 0] [],.dq 44 [.ptr 103 0] []]),(39,I x_10),(45,.b (.agg (aE x_29))),(46,B x_30)],[(101,.bq 22 [.row 107]),(102,.box 46 [.i 0,.i 0]),(103,.box 77 [.str x_31,.i x_32]),(104,.bq 79 [.dq 41 [.ptr 103 0] [],.dq 42 [.ptr 103 0] [],.dq 43 [.ptr 103 0] [],.dq 44 [.ptr 103 0] []]),(107,.row 31 3 (outf0_4.map aE))]⟩ rfl (Oc (aA (k:=112) gz rfl) (Oc (ao bT rfl rfl rfl rfl (Nat.le_of_ble_eq_true rfl) rfl) (Oc oa ?_)))
       refine ae.aj ⟨[(0,_),(2,_),(3,_),(4,_),(5,_),(8,Pt 112 0),(9,B x_30),(38,_),(39,_)],[(101,_),(102,_),(103,_),(104,_),(107,_),(112,.box 31 (aE x_29))]⟩ rfl (ab.seq (ab.aa ?_))
       refine Oc om (ae.aj ⟨[(0,_),(2,_),(3,_),(4,_),(5,_),(8,_),(38,_),(39,_),(47,B x_30)],[(101,_),(102,_),(103,_),(104,_),(107,_),(112,_)]⟩ rfl (ab.ite h12 rfl (fun _ h12=>?_) (fun _ h12=>?_)))
       ·refine ab.seq (ab.aa ?_)
        refine Oc (cY eE rfl rfl rfl) (Oc (lp bT) (Oc (bp (k:=113) (es:=[x_29].map aE) fH rfl rfl (cZ fun _=>rfl) rfl (by decide) (by decide) rfl) ?_))
        refine ae.forget 101 0 rfl ?_
        obtain ⟨x_33,e25,h12⟩:=aO h12
        refine Oc (fF fH (sJ e25) (sI e25) rfl rfl rfl rfl (lP e25) rfl) (Oc (ef eE rfl rfl rfl rfl (Nat.le_of_ble_eq_true rfl) rfl) ?_)
        refine ae.aj ⟨[(0,.b (.one (.str s0))),(2,Pt 101 0),(3,Pt 102 0),(4,Pt 103 0),(5,Pt 104 0)],[(101,.bq 22 [.row 107]),(102,.box 46 [.i 0,.i 0]),(103,.box 77 [.str x_31,.i x_32]),(104,.bq 79 [.dq 41 [.ptr 103 0] [],.dq 42 [.ptr 103 0] [],.dq 43 [.ptr 103 0] [],.dq 44 [.ptr 103 0] []]),(107,.row 31 3 (x_33.map aE))]⟩ rfl (ab.exit (Fin.iq (by decide) (Fin.aB ?_)))
        obtain rfl:=hy13 _ (Option.some.inj h12).symm
        refine Fin.aB (Fin.aU (Fin.aC ?_))
        exact Fin.join [0,2,3,4,5] [101,102,103,104,107] (x_33,(⟨x_31,x_32⟩:Scan)) (Option.some.inj h8) rfl
       ·refine ab.skip (Fin.aC (Fin.ah ⟨[(0,_),(2,_),(3,_),(4,_),(5,_),(38,_),(39,_)],[(101,_),(102,_),(103,_),(104,_),(107,_)]⟩ rfl (Fin.then (ab.aa ?_))))
        refine Oc (aW rfl rfl) (Oc om ?_)
        refine ae.nil ?_
        exact Fin.cy [0,2,3,4,5,38,39] [101,102,103,104,107] ((⟨x_31,x_32⟩:Scan),IntKind.i64.wrap (x_10 + 1)) (Option.some.inj h12) rfl
      refine zU h12 (fun hc26 h12=>?_) (fun _ h12=>?_)
      ·refine ab.aa (Oc (lV te td (show x_10 = 3 from of_decide_eq_true hc26) (by decide) rfl rfl rfl) (Oc oa ?_))
       refine ae.aj ⟨[(0,_),(2,_),(3,_),(4,_),(5,_),(7,.b (.dq 44 [.ptr 103 0] [])),(38,_),(39,_)],[(101,_),(102,_),(103,.box 77 (iA c_9)),(104,_),(107,_)]⟩ rfl (ab.seq (ab.aa ?_))
       refine Oc om ?_
       obtain ⟨o_34,e27,h12⟩:=aO h12
       refine zX h12 (fun p_35 hp28 h12=>?nZ) (fun z hp28 h12=>?_)
       case nZ=>
        subst o_34
        refine ae.q5 (own_a:=[(103,_)]) ((nX e27).sw 1 103) CH rfl rfl rfl ⟨rfl,trivial⟩ (fun hok=>?_)
        refine Fin.bE (Fin.cn (Fin.bE ?_))
        obtain rfl:=hy13 _ (Option.some.inj h12).symm
        refine Fin.bE (Fin.cn (Fin.cn ?_))
        obtain rfl:=Option.some.inj h8
        refine Fin.bE ?_
        obtain rfl:=hy6 _ (Option.some.inj h5).symm
        refine Fin.bE (Fin.cn (Fin.bE (Fin.tu (own_c:=[(101,_),(102,_),(107,_)]) hlink hvals (eH hok) tT rfl rfl ⟨rfl,rfl,rfl,trivial⟩ rfl rfl (tN rfl rfl rfl rfl) ?_)))
        obtain rfl:=Option.some.inj h
        refine Fin.ah ⟨[(2,Pt 101 0),(3,Pt 102 0)],[(101,.bq 22 [.one (.nil)]),(102,.box 46 [.i p_35.At,.i p_35.E])]⟩ rfl (Fin.zK 101 rfl rfl (Fin.ky 101 0 3 rfl rfl (by decide) (Fin.ay [.one (.sl 3 ([].map aE)),.agg [.i p_35.At,.i p_35.E]] (.inl rfl) rfl (.cons (.one eE rfl rfl rfl) (.cons (.agg cT rfl rfl rfl rfl) .nil)) ⟨rfl,rfl⟩)))
       subst o_34
       obtain ⟨x_36,x_37,x_38⟩:=z
       refine Oc (mF (own_a:=[(103,_)]) ((mU e27).sw 1 103) CH rfl rfl rfl ⟨rfl,trivial⟩ rfl rfl) (Oc om (Oc (aF rfl rfl) (Oc (aF rfl rfl) ?_)))
       refine ae.ah ⟨[(0,.b (.one (.str s0))),(2,_),(3,_),(4,Pt 103 0),(5,Pt 104 0),(38,.gT [.dq 41 [.ptr 103 0] [],.dq 42 [.ptr 103 0] [],.dq 43 [.ptr 103 0] [],.dq 44 [.ptr 103 0] []]),(39,I x_10),(45,.b (.agg (aE x_36))),(46,B x_37)],[(101,.bq 22 [.row 107]),(102,.box 46 [.i 0,.i 0]),(103,.box 77 [.str c_9.s,.i x_38]),(104,.bq 79 [.dq 41 [.ptr 103 0] [],.dq 42 [.ptr 103 0] [],.dq 43 [.ptr 103 0] [],.dq 44 [.ptr 103 0] []]),(107,.row 31 3 (outf0_4.map aE))]⟩ rfl (Oc (aA (k:=114) gz rfl) (Oc (ao bT rfl rfl rfl rfl (Nat.le_of_ble_eq_true rfl) rfl) (Oc oa ?_)))
       refine ae.aj ⟨[(0,_),(2,_),(3,_),(4,_),(5,_),(8,Pt 114 0),(9,B x_37),(38,_),(39,_)],[(101,_),(102,_),(103,_),(104,_),(107,_),(114,.box 31 (aE x_36))]⟩ rfl (ab.seq (ab.aa ?_))
       refine Oc om (ae.aj ⟨[(0,_),(2,_),(3,_),(4,_),(5,_),(8,_),(38,_),(39,_),(47,B x_37)],[(101,_),(102,_),(103,_),(104,_),(107,_),(114,_)]⟩ rfl (ab.ite h12 rfl (fun _ h12=>?_) (fun _ h12=>?_)))
       ·refine ab.seq (ab.aa ?_)
        refine Oc (cY eE rfl rfl rfl) (Oc (lp bT) (Oc (bp (k:=115) (es:=[x_36].map aE) fH rfl rfl (cZ fun _=>rfl) rfl (by decide) (by decide) rfl) ?_))
        refine ae.forget 101 0 rfl ?_
        obtain ⟨x_39,e29,h12⟩:=aO h12
        refine Oc (fF fH (sJ e29) (sI e29) rfl rfl rfl rfl (lP e29) rfl) (Oc (ef eE rfl rfl rfl rfl (Nat.le_of_ble_eq_true rfl) rfl) ?_)
        refine ae.aj ⟨[(0,.b (.one (.str s0))),(2,Pt 101 0),(3,Pt 102 0),(4,Pt 103 0),(5,Pt 104 0)],[(101,.bq 22 [.row 107]),(102,.box 46 [.i 0,.i 0]),(103,.box 77 [.str c_9.s,.i x_38]),(104,.bq 79 [.dq 41 [.ptr 103 0] [],.dq 42 [.ptr 103 0] [],.dq 43 [.ptr 103 0] [],.dq 44 [.ptr 103 0] []]),(107,.row 31 3 (x_39.map aE))]⟩ rfl (ab.exit (Fin.iq (by decide) (Fin.aB ?_)))
        obtain rfl:=hy13 _ (Option.some.inj h12).symm
        refine Fin.aB (Fin.aU (Fin.aC ?_))
        exact Fin.join [0,2,3,4,5] [101,102,103,104,107] (x_39,(⟨c_9.s,x_38⟩:Scan)) (Option.some.inj h8) rfl
       ·refine ab.skip (Fin.aC (Fin.ah ⟨[(0,_),(2,_),(3,_),(4,_),(5,_),(38,_),(39,_)],[(101,_),(102,_),(103,_),(104,_),(107,_)]⟩ rfl (Fin.then (ab.aa ?_))))
        refine Oc (aW rfl rfl) (Oc om ?_)
        refine ae.nil ?_
        exact Fin.cy [0,2,3,4,5,38,39] [101,102,103,104,107] ((⟨c_9.s,x_38⟩:Scan),IntKind.i64.wrap (x_10 + 1)) (Option.some.inj h12) rfl
      exact absurd h12 (by simp)
     ·refine ab.exit (Fin.aB ?_)
      obtain rfl:=hy13 _ (Option.some.inj h12).symm
      refine Fin.aB (Fin.aU (Fin.aC ?_))
      exact Fin.join [0,2,3,4,5] [101,102,103,104,107] (outf0_4,c_9) (Option.some.inj h8) rfl
    ·rintro ⟨outf0_7,c_8⟩ hv
     subst v7
     refine ab.aa (Oc om ?_)
     obtain ⟨⟨x_40,x_41⟩,e30,h5⟩:=aO h5
     refine Oc (cz (own_a:=[(103,_)]) ((iX e30).sw 1 103) CG rfl ⟨rfl,trivial⟩ rfl rfl) (ae.nil ?_)
     exact Fin.cy [0,2,3,4,5] [101,102,103,104,107] (outf0_7,(⟨x_40,x_41⟩:Scan)) (Option.some.inj h5) rfl
   ·refine ab.exit (Fin.aB ?_)
    obtain rfl:=hy6 _ (Option.some.inj h5).symm
    refine Fin.aB (Fin.aU ?_)
    exact Fin.join [2,3] [101,102,107] outf0_4 rfl rfl
  ·rintro outf0_1 hv
   subst v1
   refine ab.seq (ab.ah ⟨[(2,_),(3,_)],[(101,_),(102,_),(107,_)]⟩ rfl (ab.ji mixed [false,false,true,true] [.b (.row 107),.b (.agg [.i 0,.i 0]),B true,B true] [⟨[false,false,false,false],[(2,Pt 101 0),(3,Pt 102 0)],[(101,.bq 22 [.row 107]),(102,.box 46 [.i 0,.i 0]),(107,.row 31 3 (outf0_1.map aE))],[true,true,true,true],[],[3]⟩,⟨[false,false,true,false],[(2,Pt 101 0),(3,Pt 102 0)],[(101,.bq 22 [.row 107]),(102,.box 46 [.i 0,.i 0]),(107,.row 31 3 (outf0_1.map aE))],[true,true,true,true],[0,2],[]⟩,⟨[false,false,true,true],[(2,Pt 101 0),(3,Pt 102 0)],[(101,.bq 22 [.row 107]),(102,.box 46 [.i 0,.i 0]),(107,.row 31 3 (outf0_1.map aE))],[true,true,true,true],[0,1,2,3],[]⟩] rfl (⟨by kernel_rfl,⟨⟨.b (.row 107),fun _=>rfl,fun _=>.p (by exact cY eE rfl rfl rfl)⟩,⟨.b (.agg [.i 0,.i 0]),fun _=>rfl,fun _=>.p (by exact aK cT rfl rfl rfl rfl)⟩,⟨_,[],.b (.one .any),rfl,(fun e=>by simp at e),rfl,rfl,fun _=>.l5 [101,102,107] (by exact .p (by exact ef eE rfl rfl rfl rfl (Nat.le_of_ble_eq_true rfl) rfl)) (by exact rfl)⟩,trivial,trivial⟩,⟨by kernel_rfl,⟨trivial,⟨.b (.agg [.i 0,.i 0]),fun _=>rfl,fun _=>.p (by exact aK cT rfl rfl rfl rfl)⟩,trivial,⟨_,[],.b (.one .any),rfl,(fun e=>by simp at e),rfl,rfl,fun _=>.l5 [101,102,107] (by exact .p (by exact ao cT rfl rfl rfl rfl (Nat.le_of_ble_eq_true rfl) rfl)) (by exact rfl)⟩,trivial⟩,⟨by kernel_rfl,⟨trivial,trivial,trivial,trivial,trivial⟩,trivial⟩⟩⟩) rfl rfl rfl [2,3] [101,102,107] (s':=⟨[(2,_),(3,_)],[(101,_),(102,_),(107,_)]⟩) rfl (ab.ret ?_)))
   obtain rfl:=Option.some.inj h
   refine Fin.doorRet hlink pL (by rw [← hvals.length]; rfl) tT (.inl rfl) (tN rfl rfl rfl rfl) (Fin.ah ⟨[(2,Pt 101 0),(3,Pt 102 0)],[(101,.bq 22 [.row 107]),(102,.box 46 [.i 0,.i 0]),(107,.row 31 3 (outf0_1.map aE))]⟩ rfl (Fin.dV 107 rfl (Fin.zK 101 rfl rfl (Fin.ay [.one (.sl 3 (outf0_1.map aE)),.agg [.i 0,.i 0]] (.inl rfl) rfl (.cons (.one eE rfl rfl rfl) (.cons (.agg cT rfl rfl rfl rfl) .nil)) ⟨rfl,rfl⟩))))
def ff (F:Nat) (a0:List Token) (b0:List Token):Option Bool :=
 if (decide ((a0.length:Int) ≠ (b0.length:Int))) = true then (some false) else (Option.bind (iter F (fun i_1=>if (decide (i_1 < (a0.length:Int))) = true then ((aZ a0 i_1).bind fun x_2=>(aZ b0 i_1).bind fun x_3=>(bx (!(decide (x_2.Kind ≠ x_3.Kind))) (aZ a0 i_1)).bind fun x_4=>(bx (!(decide (x_2.Kind ≠ x_3.Kind))) (aZ b0 i_1)).bind fun x_5=>if ((decide (x_2.Kind ≠ x_3.Kind)) || (decide (x_4.S ≠ x_5.S))) = true then (some (.inr (.inr false))) else (some (.inl (IntKind.i64.wrap (i_1 + 1))))) else (some (.inr (.inl ())))) 0) (eh (fun _=>some true) (fun y=>some y)))
theorem iW {F:Nat} {a0:List Token} {b0:List Token} {r:Bool} (h:ff F a0 b0 = some r):ax Tryz.prog (bh mx) 14 [] [.one (.sl 3 (a0.map aE)),.one (.sl 3 (b0.map aE))] (Is [] (.b (.one (.bool r)))):=by
 unfold ff at h
 refine ax.intro 41 Tryz.func14 Tryz.ntmps14 rfl (by simp) fun E=>?_
 show ab _ E ⟨41,[],[],[]⟩ _ ⟨[(0,.b (.one (.sl 3 (a0.map aE)))),(1,.b (.one (.sl 3 (b0.map aE))))],[]⟩ _
 refine ab.seq (ab.aa ?_)
 refine Oc oa (ae.aj ⟨[(0,.b (.one (.sl 3 (a0.map aE)))),(1,.b (.one (.sl 3 (b0.map aE))))],[]⟩ rfl (ab.seq (ab.seq (ab.aa ?_))))
 refine Oc om (Oc (cm vf rfl (List.length_map _)) (Oc om (Oc (cm vf rfl (List.length_map _)) (Oc (dU rfl rfl) ?_))))
 refine ae.aj ⟨[(0,_),(1,_),(10,B (decide ((a0.length:Int) ≠ (b0.length:Int))))],[]⟩ rfl (ab.ite h rfl (fun _ h=>?_) (fun _ h=>?_))
 ·refine ab.seq (ab.aa ?_)
  refine Oc oa (ae.aj ⟨[(4,B false)],[]⟩ rfl (ab.ret (Fin.aI ?_)))
  obtain rfl:=Option.some.inj h
  refine Fin.ah ⟨[(4,_)],[]⟩ rfl (Fin.ay [.one (.bool false)] (.inl rfl) rfl (.cons (.tmp rfl) .nil) ⟨rfl,rfl⟩)
 ·refine ab.skip (Fin.ah ⟨[(0,_),(1,_)],[]⟩ rfl (Fin.then ?_))
  obtain ⟨v1,h2,h⟩:=aO h
  refine ab.cN (v:=v1) (fun (_:Unit)=>⟨[],[]⟩) (fun z=>.inl z) ?_ ?_
  ·refine ab.seq (ab.aa ?_)
   refine Oc oa (ae.aj ⟨[(0,_),(1,_),(5,I 0)],[]⟩ rfl (ab.block (ab.dM h2 (fun (i_1:Int)=>⟨[(0,.b (.one (.sl 3 (a0.map aE)))),(1,.b (.one (.sl 3 (b0.map aE)))),(5,I i_1)],[]⟩) [0,1,5] [] rfl ?_)))
   rintro i_1 o3 h4 hy5
   refine ab.seq (ab.seq (ab.aa ?_))
   refine Oc om (Oc om (Oc (cm vf rfl (List.length_map _)) (Oc (b7 rfl rfl) ?_)))
   refine ae.aj ⟨[(0,_),(1,_),(5,_),(14,B (decide (i_1 < (a0.length:Int))))],[]⟩ rfl (ab.ite h4 rfl (fun _ h4=>?_) (fun _ h4=>?_))
   ·refine ab.skip (Fin.ah ⟨[(0,_),(1,_),(5,_)],[]⟩ rfl (Fin.then (ab.seq (ab.block (ab.seq ?_)))))
    refine ab.ah ⟨[(0,_),(1,_),(5,_)],[]⟩ rfl ?_
    obtain ⟨x_2,e6,h4⟩:=aO h4
    obtain ⟨x_3,e7,h4⟩:=aO h4
    obtain ⟨x_4,e11,h4⟩:=aO h4
    obtain ⟨x_5,e17,h4⟩:=aO h4
    refine ab.bR mixed 24 [.b (.one (.sl 3 (a0.map aE))),I i_1,.b (.cW (aE x_2)),.b (.cW (aE x_2)),I x_2.Kind,.b (.one (.sl 3 (b0.map aE))),I i_1,.b (.cW (aE x_3)),.b (.cW (aE x_3)),I x_3.Kind,B (decide (x_2.Kind ≠ x_3.Kind)),B (decide (x_2.Kind ≠ x_3.Kind)),.opt (!(decide (x_2.Kind ≠ x_3.Kind))) (.one (.sl 3 (a0.map aE))),.opt (!(decide (x_2.Kind ≠ x_3.Kind))) (.one (.i i_1)),.opt (!(decide (x_2.Kind ≠ x_3.Kind))) (.cW (aE x_4)),.opt (!(decide (x_2.Kind ≠ x_3.Kind))) (.cW [.str x_4.S]),.opt (!(decide (x_2.Kind ≠ x_3.Kind))) (.one (.str x_4.S)),.opt (!(decide (x_2.Kind ≠ x_3.Kind))) (.one (.sl 3 (b0.map aE))),.opt (!(decide (x_2.Kind ≠ x_3.Kind))) (.one (.i i_1)),.opt (!(decide (x_2.Kind ≠ x_3.Kind))) (.cW (aE x_5)),.opt (!(decide (x_2.Kind ≠ x_3.Kind))) (.cW [.str x_5.S]),.opt (!(decide (x_2.Kind ≠ x_3.Kind))) (.one (.str x_5.S)),.opt (!(decide (x_2.Kind ≠ x_3.Kind))) (.one (.bool (decide (x_4.S ≠ x_5.S)))),B ((decide (x_2.Kind ≠ x_3.Kind)) || (decide (x_4.S ≠ x_5.S)))] [0,1,5,40] [] (s':=⟨[(0,_),(1,_),(5,_),(40,B ((decide (x_2.Kind ≠ x_3.Kind)) || (decide (x_4.S ≠ x_5.S))))],[]⟩) rfl ⟨fun _=>.p om,fun _=>.p om,fun _=>.p (bK fH (bb e6) (dH (e:=aE) e6) rfl rfl),fun _=>by exact .p (dQ mN rfl rfl),fun _=>.p (bm b6 rfl rfl),fun _=>.p om,fun _=>.p om,fun _=>.p (bK fH (bb e7) (dH (e:=aE) e7) rfl rfl),fun _=>by exact .p (dQ mN rfl rfl),fun _=>.p (bm b6 rfl rfl),fun _=>.p (dU rfl rfl),fun _=>.p om,fun _=>by exact .guard (!(decide (x_2.Kind ≠ x_3.Kind))) 1 [] (.plain rfl) (sY _) rfl rfl (fun g8=>trivial) (fun g8=>om),fun _=>by exact .guard (!(decide (x_2.Kind ≠ x_3.Kind))) 1 [] (.plain rfl) (sY _) rfl rfl (fun g9=>trivial) (fun g9=>om),fun _=>by exact .guard (!(decide (x_2.Kind ≠ x_3.Kind))) 3 [29,30] (.plain rfl) (sY _) rfl rfl (fun g10=>⟨g10,g10,trivial⟩) (fun g10=>bK fH (bb (gc e11 g10)) (dH (e:=aE) (gc e11 g10)) rfl rfl),fun _=>by exact .guard (!(decide (x_2.Kind ≠ x_3.Kind))) 2 [31] (.plain rfl) (sY _) rfl rfl (fun g12=>⟨g12,trivial⟩) (fun g12=>dQ jF rfl rfl),fun _=>by exact .guard (!(decide (x_2.Kind ≠ x_3.Kind))) 2 [32] (.plain rfl) (sY _) rfl rfl (fun g13=>⟨g13,trivial⟩) (fun g13=>bm cG rfl rfl),fun _=>by exact .guard (!(decide (x_2.Kind ≠ x_3.Kind))) 1 [] (.plain rfl) (sY _) rfl rfl (fun g14=>trivial) (fun g14=>om),fun _=>by exact .guard (!(decide (x_2.Kind ≠ x_3.Kind))) 1 [] (.plain rfl) (sY _) rfl rfl (fun g15=>trivial) (fun g15=>om),fun _=>by exact .guard (!(decide (x_2.Kind ≠ x_3.Kind))) 3 [34,35] (.plain rfl) (sY _) rfl rfl (fun g16=>⟨g16,g16,trivial⟩) (fun g16=>bK fH (bb (gc e17 g16)) (dH (e:=aE) (gc e17 g16)) rfl rfl),fun _=>by exact .guard (!(decide (x_2.Kind ≠ x_3.Kind))) 2 [36] (.plain rfl) (sY _) rfl rfl (fun g18=>⟨g18,trivial⟩) (fun g18=>dQ jF rfl rfl),fun _=>by exact .guard (!(decide (x_2.Kind ≠ x_3.Kind))) 2 [37] (.plain rfl) (sY _) rfl rfl (fun g19=>⟨g19,trivial⟩) (fun g19=>bm cG rfl rfl),fun _=>by exact .guard (!(decide (x_2.Kind ≠ x_3.Kind))) 3 [33,38] (.plain rfl) (sY _) rfl rfl (fun g20=>⟨g20,g20,trivial⟩) (fun g20=>ll rfl rfl),fun _=>.p (bt (fun e=>by first | (rw [e]; rfl) | (simp only at e; rw [e]; rfl)) rfl rfl rfl rfl),trivial⟩ rfl rfl ?_
    refine ab.ite h4 rfl (fun _ h4=>?_) (fun _ h4=>?_)
    ·refine ab.seq (ab.aa ?_)
     refine Oc oa (ae.aj ⟨[(4,B false)],[]⟩ rfl (ab.ret (Fin.cL (Fin.aI ?_))))
     obtain rfl:=hy5 _ (Option.some.inj h4).symm
     refine Fin.aI (Fin.cL (Fin.aI ?_))
     obtain rfl:=Option.some.inj h
     refine Fin.ah ⟨[(4,_)],[]⟩ rfl (Fin.ay [.one (.bool false)] (.inl rfl) rfl (.cons (.tmp rfl) .nil) ⟨rfl,rfl⟩)
    ·refine ab.skip (Fin.aC (Fin.ah ⟨[(0,_),(1,_),(5,_)],[]⟩ rfl (Fin.then (ab.aa ?_))))
     refine Oc om (Oc (aW rfl rfl) (Oc oa ?_))
     refine ae.nil ?_
     exact Fin.cy [0,1,5] [] (IntKind.i64.wrap (i_1 + 1)) (Option.some.inj h4) rfl
   ·refine ab.exit (Fin.aB ?_)
    obtain rfl:=hy5 _ (Option.some.inj h4).symm
    refine Fin.aB (Fin.aU ?_)
    exact Fin.join [] [] () rfl rfl
  ·rintro _ hv
   subst v1
   refine ab.seq (ab.aa ?_)
   refine Oc oa (ae.aj ⟨[(4,B true)],[]⟩ rfl (ab.ret ?_))
   obtain rfl:=Option.some.inj h
   refine Fin.ah ⟨[(4,_)],[]⟩ rfl (Fin.ay [.one (.bool true)] (.inl rfl) rfl (.cons (.tmp rfl) .nil) ⟨rfl,rfl⟩)
def eR (F:Nat) (t0:Token):Option Str :=
 if (decide (t0.Kind ≠ 4)) = true then (some t0.S) else ((j6 F).bind fun u_1=>(eD F t0.S 0).bind fun x_2=>(iZ [34] x_2).bind fun x_3=>(iZ x_3 [34]).bind fun x_4=>some x_4)
theorem ly {F:Nat} {t0:Token} {r:Str} (h:eR F t0 = some r):ax Tryz.prog (bh mx) 27 [] [.agg (aE t0)] (Is [] (.b (.one (.str r)))):=by
 unfold eR at h
 refine ax.intro 15 Tryz.func27 Tryz.ntmps27 rfl (by simp) fun E=>?_
 show ab _ E ⟨15,[],[],[]⟩ _ ⟨[(0,.b (.agg (aE t0)))],[]⟩ _
 refine ab.seq (ab.aa ?_)
 refine Oc (bM (k:=101) rfl rfl) (Oc oa ?_)
 refine ae.aj ⟨[(1,Pt 101 0)],[(101,.box 31 (aE t0))]⟩ rfl (ab.seq (ab.seq (ab.aa ?_)))
 refine Oc (af mN rfl rfl) (Oc (aq b6 rfl rfl rfl) (Oc (dU rfl rfl) ?_))
 refine ae.aj ⟨[(1,_),(5,B (decide (t0.Kind ≠ 4)))],[(101,_)]⟩ rfl (ab.ite h rfl (fun _ h=>?_) (fun _ h=>?_))
 ·refine ab.seq (ab.aa ?_)
  refine Oc (af jF rfl rfl) (Oc (aq cG rfl rfl rfl) (Oc oa ?_))
  refine ae.aj ⟨[(2,.b (.one (.str t0.S)))],[]⟩ rfl (ab.ret (Fin.aI ?_))
  obtain rfl:=Option.some.inj h
  refine Fin.ah ⟨[(2,_)],[]⟩ rfl (Fin.ay [.one (.str t0.S)] (.inl rfl) rfl (.cons (.tmp rfl) .nil) ⟨rfl,rfl⟩)
 ·refine ab.skip (Fin.ah ⟨[(1,_)],[(101,_)]⟩ rfl (Fin.then (ab.seq ?_)))
  refine ab.ah ⟨[(1,_)],[(101,_)]⟩ rfl ?_
  obtain ⟨u_1,e1,h⟩:=aO h
  obtain ⟨x_2,e2,h⟩:=aO h
  obtain ⟨x_3,e3,h⟩:=aO h
  obtain ⟨x_4,e4,h⟩:=aO h
  refine ab.ji mixed [false,true,false,false,true,false,false,false] [.b (.one (.sl 1 ([[92],[92,92],[34],[92,34]].map eS))),Pt 103 0,Pt 101 2,.b (.one (.str t0.S)),.b (.one (.str x_2)),.b (.one (.str x_3)),.b (.one (.str x_4)),.b (.one (.str x_4))] [⟨[false,false,false,false,false,false,false,false],[(1,Pt 101 0)],[(101,.box 31 (aE t0))],[true,true,true,true,true,true,true,true],[],[4,5,6,7]⟩,⟨[false,true,false,false,false,false,false,false],[(1,Pt 101 0)],[(101,.box 31 (aE t0)),(103,.box 159 [.int .u32 0,.int .i32 0,.int .u32 0,.raw .nilIface,.sl 1 ([[92],[92,92],[34],[92,34]].map eS)])],[true,true,true,true,true,true,true,true],[0,1],[5,6,7]⟩,⟨[false,true,false,false,true,false,false,false],[(1,Pt 101 0)],[(101,.box 31 (aE t0)),(103,.box 159 [.int .u32 1,.int .i32 0,.int .u32 0,.vS 212 (eO cA [.sl 1 ([toStr [34],toStr [92]].map eS)]),.sl 1 ([].map eS)])],[true,true,true,true,true,true,true,true],[0,1,2,3,4],[]⟩] rfl (⟨by kernel_rfl,⟨⟨.b (.one (.sl 1 ([[92],[92,92],[34],[92,34]].map eS))),fun _=>rfl,fun _=>.p (by exact oO (es:=[[92],[92,92],[34],[92,34]].map eS) dT rfl rfl (cZ fun _=>rfl) rfl (by decide) (by decide))⟩,⟨_,[103],Pt 103 0,rfl,fun _=>rfl,rfl,rfl,fun _=>.l5 [101,103] (by exact .p (by exact cz (own_a:=[]) ((sF e1).sw 60 103) goes57 rfl trivial rfl rfl)) (by exact rfl)⟩,⟨Pt 101 2,fun _=>rfl,fun _=>.p (by exact af jF rfl rfl)⟩,⟨.b (.one (.str t0.S)),fun _=>rfl,fun _=>.p (by exact aq cG rfl rfl rfl)⟩,trivial,trivial,trivial,trivial,trivial⟩,⟨by kernel_rfl,⟨trivial,trivial,⟨Pt 101 2,fun _=>rfl,fun _=>.p (by exact af jF rfl rfl)⟩,⟨.b (.one (.str t0.S)),fun _=>rfl,fun _=>.p (by exact aq cG rfl rfl rfl)⟩,⟨_,[],.b (.one (.str x_2)),rfl,fun _=>rfl,rfl,rfl,fun _=>.l5 [101,103] (by exact .p (by exact cz (own_a:=[(103,_)]) ((ob e2).sw 1 103) goes58 rfl ⟨rfl,trivial⟩ rfl rfl)) (by exact rfl)⟩,trivial,trivial,trivial,trivial⟩,⟨by kernel_rfl,⟨trivial,trivial,trivial,trivial,trivial,⟨.b (.one (.str x_3)),fun _=>rfl,fun _=>.p (by exact gJ e3 rfl rfl)⟩,⟨.b (.one (.str x_4)),fun _=>rfl,fun _=>.p (by exact gJ e4 rfl rfl)⟩,⟨.b (.one (.str x_4)),fun _=>rfl,fun _=>.p (by exact r8 rfl)⟩,trivial⟩,trivial⟩⟩⟩) rfl rfl rfl [2] [] (s':=⟨[(2,.b (.one (.str x_4)))],[]⟩) rfl (ab.ret ?_)
  obtain rfl:=Option.some.inj h
  refine Fin.ah ⟨[(2,_)],[]⟩ rfl (Fin.ay [.one (.str x_4)] (.inl rfl) rfl (.cons (.tmp rfl) .nil) ⟨rfl,rfl⟩)
def dD (F:Nat) (t0:Token):Option Bool :=
 (eR F t0).bind fun x_1=>Option.bind (cf F x_1) (cF fun x_2 x_3=>(bx ((decide (x_3 = (⟨0,0⟩:Problem))) && (decide ((x_2.length:Int) = 1))) (aZ x_2 0)).bind fun x_4=>some (((decide (x_3 = (⟨0,0⟩:Problem))) && (decide ((x_2.length:Int) = 1))) && (decide (x_4 = (⟨t0.Kind,0,t0.S⟩:Token)))))
theorem kG {F:Nat} {t0:Token} {r:Bool} (h:dD F t0 = some r):ax Tryz.prog (bh mx) 26 [] [.agg (aE t0)] (Is [] (.b (.one (.bool r)))):=by
 unfold dD at h
 refine ax.intro 27 Tryz.func26 Tryz.ntmps26 rfl (by simp) fun E=>?_
 show ab _ E ⟨27,[],[],[]⟩ _ ⟨[(0,.b (.agg (aE t0)))],[]⟩ _
 refine ab.seq (ab.aa ?_)
 refine Oc (bM (k:=101) rfl rfl) (Oc oa ?_)
 refine ae.aj ⟨[(1,Pt 101 0)],[(101,.box 31 (aE t0))]⟩ rfl (ab.seq (ab.aa ?_))
 refine Oc (lp bT) ?_
 obtain ⟨x_1,e1,h⟩:=aO h
 refine Oc (ag (ly e1) CM rfl rfl) ?_
 obtain ⟨⟨x_2,x_3⟩,e2,h⟩:=aO h
 refine Oc (ag (dk e2) qi rfl rfl) (ae.ah ⟨[(1,_),(8,.fG [.one (.sl 3 (x_2.map aE)),.agg (bF x_3)])],[(101,_)]⟩ rfl (Oc om (Oc (aF rfl rfl) (Oc (aF rfl rfl) (Oc (aA (k:=102) j9 rfl) (Oc oa (Oc (ao cT rfl rfl rfl rfl (Nat.le_of_ble_eq_true rfl) rfl) ?_)))))))
 refine ae.aj ⟨[(1,_),(3,.b (.one (.sl 3 (x_2.map aE)))),(4,Pt 102 0)],[(101,_),(102,.box 46 (bF x_3))]⟩ rfl (ab.seq (ab.aa ?_))
 refine Oc (af vt rfl rfl) (Oc (bA b6 rfl rfl rfl (Nat.le_of_ble_eq_true rfl) rfl) ?_)
 refine ae.aj ⟨[(1,_),(3,_),(4,_)],[(101,.box 31 [.i t0.Kind,.i 0,.str t0.S]),(102,_)]⟩ rfl (ab.seq ?_)
 obtain ⟨x_4,e8,h⟩:=aO h
 refine ab.bR mixed 16 [.b (.agg (bF x_3)),.b (.agg [.i 0,.i 0]),B (decide (x_3 = (⟨0,0⟩:Problem))),B (decide (x_3 = (⟨0,0⟩:Problem))),.opt (decide (x_3 = (⟨0,0⟩:Problem))) (.one (.sl 3 (x_2.map aE))),.opt (decide (x_3 = (⟨0,0⟩:Problem))) (.one (.i (x_2.length:Int))),.opt (decide (x_3 = (⟨0,0⟩:Problem))) (.one (.bool (decide ((x_2.length:Int) = 1)))),B ((decide (x_3 = (⟨0,0⟩:Problem))) && (decide ((x_2.length:Int) = 1))),B ((decide (x_3 = (⟨0,0⟩:Problem))) && (decide ((x_2.length:Int) = 1))),.opt ((decide (x_3 = (⟨0,0⟩:Problem))) && (decide ((x_2.length:Int) = 1))) (.one (.sl 3 (x_2.map aE))),.opt ((decide (x_3 = (⟨0,0⟩:Problem))) && (decide ((x_2.length:Int) = 1))) (.cW (aE x_4)),.opt ((decide (x_3 = (⟨0,0⟩:Problem))) && (decide ((x_2.length:Int) = 1))) (.agg (aE x_4)),.opt ((decide (x_3 = (⟨0,0⟩:Problem))) && (decide ((x_2.length:Int) = 1))) (.agg [.i t0.Kind,.i 0,.str t0.S]),.opt ((decide (x_3 = (⟨0,0⟩:Problem))) && (decide ((x_2.length:Int) = 1))) (.one (.bool (decide (x_4 = (⟨t0.Kind,0,t0.S⟩:Token))))),B (((decide (x_3 = (⟨0,0⟩:Problem))) && (decide ((x_2.length:Int) = 1))) && (decide (x_4 = (⟨t0.Kind,0,t0.S⟩:Token)))),B (((decide (x_3 = (⟨0,0⟩:Problem))) && (decide ((x_2.length:Int) = 1))) && (decide (x_4 = (⟨t0.Kind,0,t0.S⟩:Token))))] [2] [] (s':=⟨[(2,B (((decide (x_3 = (⟨0,0⟩:Problem))) && (decide ((x_2.length:Int) = 1))) && (decide (x_4 = (⟨t0.Kind,0,t0.S⟩:Token)))))],[]⟩) rfl ⟨fun _=>.p (lp cT),fun _=>.p (bz gZ rfl rfl),fun _=>.p (dC (nC x_3 (⟨0,0⟩:Problem)) rfl rfl),fun _=>.p om,fun _=>by exact .guard (decide (x_3 = (⟨0,0⟩:Problem))) 1 [] (.plain rfl) (cO _) rfl rfl (fun g3=>trivial) (fun g3=>om),fun _=>by exact .guard (decide (x_3 = (⟨0,0⟩:Problem))) 2 [16] (.plain rfl) (cO _) rfl rfl (fun g4=>⟨g4,trivial⟩) (fun g4=>cm vf rfl (List.length_map _)),fun _=>by exact .guard (decide (x_3 = (⟨0,0⟩:Problem))) 2 [17] (.plain rfl) (cO _) rfl rfl (fun g5=>⟨g5,trivial⟩) (fun g5=>c9 rfl rfl),fun _=>.p (aJ (fun e=>e) rfl rfl rfl rfl),fun _=>.p om,fun _=>by exact .guard ((decide (x_3 = (⟨0,0⟩:Problem))) && (decide ((x_2.length:Int) = 1))) 1 [] (.plain rfl) (cO _) rfl rfl (fun g6=>trivial) (fun g6=>om),fun _=>by exact .guard ((decide (x_3 = (⟨0,0⟩:Problem))) && (decide ((x_2.length:Int) = 1))) 2 [21] (.plain rfl) (cO _) rfl rfl (fun g7=>⟨g7,trivial⟩) (fun g7=>bK fH (bb (gc e8 g7)) (dH (e:=aE) (gc e8 g7)) rfl rfl),fun _=>by exact .guard ((decide (x_3 = (⟨0,0⟩:Problem))) && (decide ((x_2.length:Int) = 1))) 2 [22] (.plain rfl) (cO _) rfl rfl (fun g9=>⟨g9,trivial⟩) (fun g9=>pC bT rfl rfl rfl),fun _=>by exact .guard ((decide (x_3 = (⟨0,0⟩:Problem))) && (decide ((x_2.length:Int) = 1))) 1 [] (.plain rfl) (cO _) rfl rfl (fun g10=>trivial) (fun g10=>lp bT),fun _=>by exact .guard ((decide (x_3 = (⟨0,0⟩:Problem))) && (decide ((x_2.length:Int) = 1))) 3 [23,24] (.plain rfl) (cO _) rfl rfl (fun g11=>⟨g11,g11,trivial⟩) (fun g11=>dC (eqAgg31 x_4 (⟨t0.Kind,0,t0.S⟩:Token)) rfl rfl),fun _=>.p (aJ (fun e=>e) rfl rfl rfl rfl),fun _=>.p oa,trivial⟩ rfl rfl ?_
 refine ab.ret ?_
 obtain rfl:=Option.some.inj h
 refine Fin.ah ⟨[(2,_)],[]⟩ rfl (Fin.ay [.one (.bool (((decide (x_3 = (⟨0,0⟩:Problem))) && (decide ((x_2.length:Int) = 1))) && (decide (x_4 = (⟨t0.Kind,0,t0.S⟩:Token)))))] (.inl rfl) rfl (.cons (.tmp rfl) .nil) ⟨rfl,rfl⟩)
def dY (F:Nat) (s0:Str) (c0:Int):Option Str :=
 Option.bind (iter F (fun s_2=>(bx (decide (0 < (s_2.length:Int))) (aZ s_2 0)).bind fun x_4=>cu ((decide (0 < (s_2.length:Int))) && (decide ((x_4.toNat:Int) = c0))) fun x_5=>if x_5 = true then ((oh s_2 1).bind fun x_6=>some (.inl x_6)) else (some (.inr s_2))) s0) (fun s_1=>some s_1)
theorem lB {F:Nat} {s0:Str} {c0:Int} {r:Str} (h:dY F s0 c0 = some r):ax Tryz.prog (bh mx) 64 [] [.one (.str s0),.one (.int .u8 c0)] (Is [] (.b (.one (.str r)))):=by
 unfold dY at h
 refine ax.intro 17 Tryz.func64 Tryz.ntmps64 rfl (by simp) fun E=>?_
 show ab _ E ⟨17,[],[],[]⟩ _ ⟨[(0,.b (.one (.str s0))),(1,.b (.one (.int .u8 c0)))],[]⟩ _
 refine ab.seq (ab.aa ?_)
 refine Oc oa (ae.aj ⟨[(0,.b (.one (.str s0))),(1,.b (.one (.int .u8 c0)))],[]⟩ rfl ?_)
 obtain ⟨v1,h2,h⟩:=aO h
 refine ab.cN (v:=v1) (fun (s_1:Str)=>⟨[(0,.b (.one (.str s_1)))],[]⟩) (fun z=>z) ?_ ?_
 ·refine ab.block (ab.dM h2 (fun (s_2:Str)=>⟨[(0,.b (.one (.str s_2))),(1,.b (.one (.int .u8 c0)))],[]⟩) [0,1] [] rfl ?_)
  rintro s_2 o3 h4 hy5
  refine ab.seq (ab.seq (ab.aa ?_))
  refine Oc om (Oc (bS du rfl) (Oc (fJ rfl rfl) (Oc om ?_)))
  refine dE (decide (0 < (s_2.length:Int))) [] (fun g6=>trivial) (fun g6=>om) ?_
  obtain ⟨x_4,e8,h4⟩:=aO h4
  refine dE (decide (0 < (s_2.length:Int))) [9] (fun g7=>⟨g7,trivial⟩) (fun g7=>b8 du rfl rfl (bb (gc e8 g7)) (fK (gc e8 g7))) (ae.ah ⟨[(0,_),(1,_),(8,B (decide (0 < (s_2.length:Int)))),(10,.opt (decide (0 < (s_2.length:Int))) (.one (.int .u8 (x_4.toNat:Int))))],[]⟩ rfl (dE (decide (0 < (s_2.length:Int))) [] (fun g9=>trivial) (fun g9=>om) (dE (decide (0 < (s_2.length:Int))) [10,11] (fun g10=>by exact ⟨g10,g10,trivial⟩) (fun g10=>c9 rfl rfl) (ae.lK h4 rfl (aJ (fun e=>e) rfl rfl rfl rfl) (fun x_5 h4=>?_)))))
  refine ae.aj ⟨[(0,_),(1,_),(13,B x_5)],[]⟩ rfl (ab.ite h4 rfl (fun _ h4=>?_) (fun _ h4=>?_))
  ·refine ab.skip (Fin.ah ⟨[(0,_),(1,_)],[]⟩ rfl (Fin.then (ab.block (ab.aa ?_))))
   refine Oc om ?_
   obtain ⟨x_6,e11,h4⟩:=aO h4
   refine Oc (lr du e11 rfl rfl) (Oc oa ?_)
   refine ae.nil (Fin.aC ?_)
   exact Fin.cy [0,1] [] x_6 (Option.some.inj h4) rfl
  ·refine ab.exit (Fin.aB ?_)
   obtain rfl:=hy5 _ (Option.some.inj h4).symm
   refine Fin.aB (Fin.aU ?_)
   exact Fin.join [0] [] s_2 rfl rfl
 ·rintro s_1 hv
  subst v1
  refine ab.seq (ab.aa ?_)
  refine Oc om (Oc oa ?_)
  refine ae.aj ⟨[(4,.b (.one (.str s_1)))],[]⟩ rfl (ab.ret ?_)
  obtain rfl:=Option.some.inj h
  refine Fin.ah ⟨[(4,_)],[]⟩ rfl (Fin.ay [.one (.str s_1)] (.inl rfl) rfl (.cons (.tmp rfl) .nil) ⟨rfl,rfl⟩)
def eC (F:Nat) (s0:Str) (cutset0:Str):Option Str :=
 if ((decide (s0 = [])) || (decide (cutset0 = []))) = true then (some s0) else ((bx (decide ((cutset0.length:Int) = 1)) (aZ cutset0 0)).bind fun x_1=>cu ((decide ((cutset0.length:Int) = 1)) && (decide ((x_1.toNat:Int) < 128))) fun x_2=>if x_2 = true then ((aZ cutset0 0).bind fun x_3=>(dY F s0 (x_3.toNat:Int)).bind fun x_4=>some x_4) else (none))
theorem n8 {F:Nat} {s0:Str} {cutset0:Str} {r:Str} (h:eC F s0 cutset0 = some r):ax Tryz.prog (bh mx) 32 [] [.one (.str s0),.one (.str cutset0)] (Is [] (.b (.one (.str r)))):=by
 unfold eC at h
 refine ax.intro 37 Tryz.func32 Tryz.ntmps32 rfl (by simp) fun E=>?_
 show ab _ E ⟨37,[],[],[]⟩ _ ⟨[(0,.b (.one (.str s0))),(1,.b (.one (.str cutset0)))],[]⟩ _
 refine ab.seq (ab.aa ?_)
 refine Oc oa (ae.aj ⟨[(0,.b (.one (.str s0))),(1,.b (.one (.str cutset0)))],[]⟩ rfl (ab.seq (ab.seq (ab.aa ?_))))
 refine Oc om (Oc (jN rfl rfl) (Oc om ?_))
 refine fU (!(decide (s0 = []))) [] (fun g1=>trivial) (fun g1=>om) (fU (!(decide (s0 = []))) [10] (fun g2=>by exact ⟨g2,trivial⟩) (fun g2=>jN rfl rfl) (Oc (bt (fun e=>by first | (rw [e]; rfl) | (simp only at e; rw [e]; rfl)) rfl rfl rfl rfl) (ae.aj ⟨[(0,_),(1,_),(12,B ((decide (s0 = [])) || (decide (cutset0 = []))))],[]⟩ rfl (ab.ite h rfl (fun _ h=>?_) (fun _ h=>?_)))))
 ·refine ab.seq (ab.aa ?_)
  refine Oc om (Oc oa ?_)
  refine ae.aj ⟨[(4,.b (.one (.str s0)))],[]⟩ rfl (ab.ret (Fin.aI ?_))
  obtain rfl:=Option.some.inj h
  refine Fin.ah ⟨[(4,_)],[]⟩ rfl (Fin.ay [.one (.str s0)] (.inl rfl) rfl (.cons (.tmp rfl) .nil) ⟨rfl,rfl⟩)
 ·refine ab.skip (Fin.ah ⟨[(0,_),(1,_)],[]⟩ rfl (Fin.then (ab.seq (ab.seq (ab.aa ?_)))))
  refine Oc om (Oc (bS du rfl) (Oc (c9 rfl rfl) (Oc om ?_)))
  refine dE (decide ((cutset0.length:Int) = 1)) [] (fun g3=>trivial) (fun g3=>om) ?_
  obtain ⟨x_1,e5,h⟩:=aO h
  refine dE (decide ((cutset0.length:Int) = 1)) [18] (fun g4=>⟨g4,trivial⟩) (fun g4=>b8 du rfl rfl (bb (gc e5 g4)) (fK (gc e5 g4))) (dE (decide ((cutset0.length:Int) = 1)) [19] (fun g6=>⟨g6,trivial⟩) (fun g6=>b7 rfl rfl) (ae.lK h rfl (aJ (fun e=>e) rfl rfl rfl rfl) (fun x_2 h=>?_)))
  refine ae.aj ⟨[(0,_),(1,_),(21,B x_2)],[]⟩ rfl (ab.ite h rfl (fun _ h=>?_) (fun _ h=>?_))
  ·refine ab.seq (ab.aa ?_)
   refine Oc om (Oc om ?_)
   obtain ⟨x_3,e7,h⟩:=aO h
   refine Oc (b8 du rfl rfl (bb e7) (fK e7)) ?_
   obtain ⟨x_4,e8,h⟩:=aO h
   refine Oc (ag (lB e8) goes64 rfl rfl) (Oc oa ?_)
   refine ae.aj ⟨[(4,.b (.one (.str x_4)))],[]⟩ rfl (ab.ret (Fin.aI ?_))
   obtain rfl:=Option.some.inj h
   refine Fin.ah ⟨[(4,_)],[]⟩ rfl (Fin.ay [.one (.str x_4)] (.inl rfl) rfl (.cons (.tmp rfl) .nil) ⟨rfl,rfl⟩)
  ·cases h
def fm (F:Nat):Option cV :=
 some (⟨true,false,aT.zero⟩:cV)
theorem dB {F:Nat} {r:cV} (h:fm F = some r):ax Tryz.prog (bh mx) 68 [] [] (Is [] (.b (.agg (au r)))):=by
 unfold fm at h
 refine ax.intro 2 Tryz.func68 Tryz.ntmps68 rfl (by simp) fun E=>?_
 show ab _ E ⟨2,[],[],[]⟩ _ ⟨[],[]⟩ _
 refine ab.seq (ab.aa ?_)
 refine Oc (aA (k:=101) bP rfl) (ae.aj ⟨[(0,Pt 101 0)],[(101,.box 35 dF)]⟩ rfl (ab.seq (ab.aa ?_)))
 refine Oc (bz vu rfl rfl) (Oc (ao an rfl rfl rfl rfl (Nat.le_of_ble_eq_true rfl) rfl) ?_)
 refine ae.aj ⟨[(0,_)],[(101,.box 35 (.bool true :: .bool false :: (eW aT.zero)))]⟩ rfl (ab.ret ?_)
 obtain rfl:=Option.some.inj h
 refine Fin.ah ⟨[(0,_)],[(101,_)]⟩ rfl (Fin.ay [.agg (.bool true :: .bool false :: (eW aT.zero))] (.inl rfl) rfl (.cons (.agg an rfl rfl rfl rfl) .nil) ⟨rfl,rfl⟩)
def cH (F:Nat) (neg0:Bool) (w0:aT):Option cV :=
 some (⟨false,neg0 && (decide (w0 ≠ aT.zero)),w0⟩:cV)
theorem cC {F:Nat} {neg0:Bool} {w0:aT} {r:cV} (h:cH F neg0 w0 = some r):ax Tryz.prog (bh mx) 69 [] [.one (.bool neg0),.agg (eW w0)] (Is [] (.b (.agg (au r)))):=by
 unfold cH at h
 refine ax.intro 13 Tryz.func69 Tryz.ntmps69 rfl (by simp) fun E=>?_
 show ab _ E ⟨13,[],[],[]⟩ _ ⟨[(0,B neg0),(1,.b (.agg (eW w0)))],[]⟩ _
 refine ab.seq (ab.aa ?_)
 refine Oc (bM (k:=101) rfl rfl) (Oc (aA (k:=102) bP rfl) ?_)
 refine ae.aj ⟨[(0,B neg0),(3,Pt 101 0),(4,Pt 102 0)],[(101,.box 33 (eW w0)),(102,.box 35 dF)]⟩ rfl (ab.seq (ab.bR mixed 8 [B neg0,B neg0,.opt neg0 (.agg (eW w0)),.opt neg0 (.agg (eW aT.zero)),.opt neg0 (.one (.bool (decide (w0 ≠ aT.zero)))),B (neg0 && (decide (w0 ≠ aT.zero))),.b (.agg (eW w0)),.b (.agg (.bool false :: .bool (neg0 && (decide (w0 ≠ aT.zero))) :: (eW w0)))] [4] [102] (s':=⟨[(4,_)],[(102,.box 35 (.bool false :: .bool (neg0 && (decide (w0 ≠ aT.zero))) :: (eW w0)))]⟩) rfl ⟨fun _=>.p om,fun _=>.p om,fun _=>by exact .guard neg0 1 [] (.plain rfl) (cO _) rfl rfl (fun g1=>trivial) (fun g1=>lp aD),fun _=>by exact .guard neg0 1 [] (.plain rfl) (cO _) rfl rfl (fun g2=>trivial) (fun g2=>gg gf rfl rfl),fun _=>by exact .guard neg0 3 [7,8] (.plain rfl) (cO _) rfl rfl (fun g3=>⟨g3,g3,trivial⟩) (fun g3=>lq (po w0 aT.zero) rfl rfl qN),fun _=>.p (aJ (fun e=>e) rfl rfl rfl rfl),fun _=>.p (lp aD),fun _=>.p (bz vu rfl rfl),trivial⟩ ⟨_,by exact .p (ao an rfl rfl rfl rfl (Nat.le_of_ble_eq_true rfl) rfl),rfl⟩ rfl (ab.ret ?_)))
 obtain rfl:=Option.some.inj h
 refine Fin.ah ⟨[(4,_)],[(102,_)]⟩ rfl (Fin.ay [.agg (.bool false :: .bool (neg0 && (decide (w0 ≠ aT.zero))) :: (eW w0))] (.inl rfl) rfl (.cons (.agg an rfl rfl rfl rfl) .nil) ⟨rfl,rfl⟩)
def iL (F:Nat) (n0:Int):Option cV :=
 Option.bind (if (decide (n0 < 0)) = true then (cu (IntKind.u64.wrap (-(IntKind.u64.wrap n0))) fun x_2=>some x_2) else (some (IntKind.u64.wrap n0))) (fun u_1=>cu (⟨IntKind.u32.wrap u_1,IntKind.u32.wrap (u_1 / 4294967296),0,0,0,0,0,0,0,0,0,0,0,0,0,0⟩:aT) fun x_3=>(cH F (decide (n0 < 0)) x_3).bind fun x_4=>some x_4)
theorem fZ {F:Nat} {n0:Int} {r:cV} (h:iL F n0 = some r):ax Tryz.prog (bh mx) 47 [] [.one (.i n0)] (Is [] (.b (.agg (au r)))):=by
 unfold iL at h
 refine ax.intro 19 Tryz.func47 Tryz.ntmps47 rfl (by simp) fun E=>?_
 show ab _ E ⟨19,[],[],[]⟩ _ ⟨[(0,I n0)],[]⟩ _
 refine ab.seq (ab.aa ?_)
 refine Oc (aA (k:=101) bP rfl) (ae.aj ⟨[(0,I n0),(2,Pt 101 0)],[(101,.box 35 dF)]⟩ rfl (ab.seq (ab.aa ?_)))
 refine Oc om (Oc (az pQ bJ rfl) (Oc oa ?_))
 refine ae.aj ⟨[(0,_),(2,_),(3,.b (.one (.int .u64 (IntKind.u64.wrap n0))))],[(101,_)]⟩ rfl ?_
 obtain ⟨v1,h2,h⟩:=aO h
 refine ab.cN (v:=v1) (fun (u_1:Int)=>⟨[(0,I n0),(2,Pt 101 0),(3,.b (.one (.int .u64 u_1)))],[(101,.box 35 dF)]⟩) (fun z=>z) ?_ ?_
 ·refine ab.seq (ab.aa ?_)
  refine Oc om (Oc (b7 rfl rfl) ?_)
  refine ae.aj ⟨[(0,_),(2,_),(3,_),(7,B (decide (n0 < 0)))],[(101,_)]⟩ rfl (ab.ite h2 rfl (fun _ h2=>?_) (fun _ h2=>?_))
  ·refine ab.aa (Oc om (ae.dw .u64 h2 rfl (Ct rfl) (fun x_2 h2=>?_)))
   refine Oc oa (ae.nil ?_)
   exact Fin.join [0,2,3] [101] x_2 (Option.some.inj h2) rfl
  ·refine ab.skip ?_
   exact Fin.join [0,2,3] [101] (IntKind.u64.wrap n0) (Option.some.inj h2) rfl
 ·rintro u_1 hv
  subst v1
  refine ab.seq (ab.aa ?_)
  refine Oc om (Oc (b7 rfl rfl) (Oc om (Oc (az bJ bL rfl) (Oc om (Oc (fM (m:=32) (by decide) rfl rfl rfl) ?_)))))
  refine Oc (az bJ bL rfl) (ae.ah ⟨[(2,_),(11,B (decide (n0 < 0))),(13,.b (.one (.int .u32 (IntKind.u32.wrap u_1)))),(16,.b (.one (.int .u32 (IntKind.u32.wrap (u_1 / 4294967296)))))],[(101,_)]⟩ rfl (ae.vm eW h rfl (gg gf rfl rfl) (fun x_3 h=>?_)))
  obtain ⟨x_4,e3,h⟩:=aO h
  refine Oc (ag (cC e3) jC rfl rfl) (Oc (ao an rfl rfl rfl rfl (Nat.le_of_ble_eq_true rfl) rfl) ?_)
  refine ae.aj ⟨[(2,_)],[(101,.box 35 (au x_4))]⟩ rfl (ab.ret ?_)
  obtain rfl:=Option.some.inj h
  refine Fin.ah ⟨[(2,_)],[(101,_)]⟩ rfl (Fin.ay [.agg (au x_4)] (.inl rfl) rfl (.cons (.agg an rfl rfl rfl rfl) .nil) ⟨rfl,rfl⟩)
def kT (F:Nat) (x0:cV):Option Bool :=
 if x0.Bad = true then (some ((decide (x0.W = aT.zero)) && (!x0.Neg))) else (some ((!(decide (x0.W = aT.zero))) || (!x0.Neg)))
theorem rf {F:Nat} {x0:cV} {r:Bool} (h:kT F x0 = some r):ax Tryz.prog (bh mx) 130 [] [.agg (au x0)] (Is [] (.b (.one (.bool r)))):=by
 unfold kT at h
 refine ax.intro 23 Tryz.func130 Tryz.ntmps130 rfl (by simp) fun E=>?_
 show ab _ E ⟨23,[],[],[]⟩ _ ⟨[(0,.b (.agg (au x0)))],[]⟩ _
 refine ab.seq (ab.aa ?_)
 refine Oc (bM (k:=101) rfl rfl) (Oc oa ?_)
 refine ae.aj ⟨[(1,Pt 101 0)],[(101,.box 35 (au x0))]⟩ rfl (ab.seq (ab.aa ?_))
 refine Oc (af ba rfl rfl) (Oc (lp aD) (Oc (gg gf rfl rfl) (Oc (dC (po x0.W aT.zero) rfl rfl) (Oc oa ?_))))
 refine ae.aj ⟨[(1,_),(3,B (decide (x0.W = aT.zero)))],[(101,_)]⟩ rfl (ab.seq (ab.seq (ab.aa ?_)))
 refine Oc (af kU rfl rfl) (Oc (aq dG rfl rfl rfl) ?_)
 refine ae.aj ⟨[(1,_),(3,_),(9,B x0.Bad)],[(101,_)]⟩ rfl (ab.ite h rfl (fun _ h=>?_) (fun _ h=>?_))
 ·refine ab.seq (ab.aa ?_)
  refine Oc om (Oc om ?_)
  refine dE (decide (x0.W = aT.zero)) [] (fun g1=>trivial) (fun g1=>af c6 rfl rfl) (dE (decide (x0.W = aT.zero)) [12] (fun g2=>⟨g2,trivial⟩) (fun g2=>aq dG rfl rfl rfl) (dE (decide (x0.W = aT.zero)) [13] (fun g3=>⟨g3,trivial⟩) (fun g3=>cX rfl) (Oc (aJ (fun e=>e) rfl rfl rfl rfl) (Oc oa ?_))))
  refine ae.aj ⟨[(2,B ((decide (x0.W = aT.zero)) && (!x0.Neg)))],[]⟩ rfl (ab.ret (Fin.aI ?_))
  obtain rfl:=Option.some.inj h
  refine Fin.ah ⟨[(2,_)],[]⟩ rfl (Fin.ay [.one (.bool ((decide (x0.W = aT.zero)) && (!x0.Neg)))] (.inl rfl) rfl (.cons (.tmp rfl) .nil) ⟨rfl,rfl⟩)
 ·refine ab.skip (Fin.ah ⟨[(1,_),(3,_)],[(101,_)]⟩ rfl (Fin.then (ab.seq (ab.aa ?_))))
  refine Oc om (Oc (cX rfl) (Oc om ?_))
  refine fU (!(!(decide (x0.W = aT.zero)))) [] (fun g4=>trivial) (fun g4=>af c6 rfl rfl) (fU (!(!(decide (x0.W = aT.zero)))) [19] (fun g5=>⟨g5,trivial⟩) (fun g5=>aq dG rfl rfl rfl) (fU (!(!(decide (x0.W = aT.zero)))) [20] (fun g6=>⟨g6,trivial⟩) (fun g6=>cX rfl) (Oc (bt (fun e=>by first | (rw [e]; rfl) | (simp only at e; rw [e]; rfl)) rfl rfl rfl rfl) (Oc oa ?_))))
  refine ae.aj ⟨[(2,B ((!(decide (x0.W = aT.zero))) || (!x0.Neg)))],[]⟩ rfl (ab.ret ?_)
  obtain rfl:=Option.some.inj h
  refine Fin.ah ⟨[(2,_)],[]⟩ rfl (Fin.ay [.one (.bool ((!(decide (x0.W = aT.zero))) || (!x0.Neg)))] (.inl rfl) rfl (.cons (.tmp rfl) .nil) ⟨rfl,rfl⟩)
def ew (F:Nat) (l0:List cV):Option Bool :=
 Option.bind (iter F (fun x_1=>if (decide (x_1 < (l0.length:Int))) = true then ((aZ l0 x_1).bind fun x_2=>(bx (!x_2.Bad) (kT F x_2)).bind fun x_3=>if (x_2.Bad || (!x_3)) = true then (some (.inr (.inr false))) else (some (.inl (IntKind.i64.wrap (x_1 + 1))))) else (some (.inr (.inl ())))) 0) (eh (fun _=>some true) (fun y=>some y))
theorem fc {F:Nat} {l0:List cV} {r:Bool} (h:ew F l0 = some r):ax Tryz.prog (bh mx) 103 [] [.one (.sl 18 (l0.map au))] (Is [] (.b (.one (.bool r)))):=by
 unfold ew at h
 refine ax.intro 19 Tryz.func103 Tryz.ntmps103 rfl (by simp) fun E=>?_
 show ab _ E ⟨19,[],[],[]⟩ _ ⟨[(0,.b (.one (.sl 18 (l0.map au))))],[]⟩ _
 refine ab.seq (ab.aa ?_)
 refine Oc oa (ae.aj ⟨[(0,.b (.one (.sl 18 (l0.map au))))],[]⟩ rfl ?_)
 obtain ⟨v1,h2,h⟩:=aO h
 refine ab.cN (v:=v1) (fun (_:Unit)=>⟨[],[]⟩) (fun z=>.inl z) ?_ ?_
 ·refine ab.seq (ab.aa ?_)
  refine Oc om (Oc (cm und178 rfl (List.length_map _)) (Oc om ?_))
  refine ae.aj ⟨[(5,.b (.one (.sl 18 (l0.map au)))),(6,I (l0.length:Int)),(7,I 0)],[]⟩ rfl (ab.block (ab.dM h2 (fun (x_1:Int)=>⟨[(5,.b (.one (.sl 18 (l0.map au)))),(6,I (l0.length:Int)),(7,I x_1)],[]⟩) [5,6,7] [] rfl ?_))
  rintro x_1 o3 h4 hy5
  refine ab.seq (ab.aa ?_)
  refine Oc (b7 rfl rfl) (ae.aj ⟨[(5,_),(6,_),(7,_),(8,B (decide (x_1 < (l0.length:Int))))],[]⟩ rfl (ab.seq (ab.ite h4 rfl (fun _ h4=>?_) (fun _ h4=>?_))))
  ·refine ab.skip (Fin.ah ⟨[(5,_),(6,_),(7,_)],[]⟩ rfl (Fin.then (ab.seq (ab.block (ab.seq (ab.aa ?_))))))
   obtain ⟨x_2,e6,h4⟩:=aO h4
   refine Oc (bK jW (bb e6) (dH (e:=au) e6) rfl rfl) (Oc (pC an rfl rfl rfl) (Oc (aA (k:=101) bP rfl) (Oc (ao an rfl rfl rfl rfl (Nat.le_of_ble_eq_true rfl) rfl) ?_)))
   refine ae.aj ⟨[(4,Pt 101 0),(5,_),(6,_),(7,_)],[(101,.box 35 (au x_2))]⟩ rfl (ab.seq (ab.aa ?_))
   refine Oc (af kU rfl rfl) (Oc (aq dG rfl rfl rfl) (Oc om ?_))
   refine fU (!x_2.Bad) [] (fun g7=>trivial) (fun g7=>lp an) ?_
   obtain ⟨x_3,e9,h4⟩:=aO h4
   refine fU (!x_2.Bad) [14] (fun g8=>⟨g8,trivial⟩) (fun g8=>ag (rf (gc e9 g8)) Aw rfl rfl) (fU (!x_2.Bad) [15] (fun g10=>⟨g10,trivial⟩) (fun g10=>cX rfl) (Oc (bt (fun e=>by first | (rw [e]; rfl) | (simp only at e; rw [e]; rfl)) rfl rfl rfl rfl) (ae.aj ⟨[(5,_),(6,_),(7,_),(17,B (x_2.Bad || (!x_3)))],[]⟩ rfl (ab.ite h4 rfl (fun _ h4=>?_) (fun _ h4=>?_)))))
   ·refine ab.seq (ab.aa ?_)
    refine Oc oa (ae.aj ⟨[(2,B false)],[]⟩ rfl (ab.ret (Fin.cL (Fin.aI ?_))))
    obtain rfl:=hy5 _ (Option.some.inj h4).symm
    refine Fin.aI (Fin.cL (Fin.aI ?_))
    obtain rfl:=Option.some.inj h
    refine Fin.ah ⟨[(2,_)],[]⟩ rfl (Fin.ay [.one (.bool false)] (.inl rfl) rfl (.cons (.tmp rfl) .nil) ⟨rfl,rfl⟩)
   ·refine ab.skip (Fin.aC (Fin.ah ⟨[(5,_),(6,_),(7,_)],[]⟩ rfl (Fin.then (ab.aa ?_))))
    refine Oc (aW rfl rfl) (Oc om ?_)
    refine ae.nil ?_
    exact Fin.cy [5,6,7] [] (IntKind.i64.wrap (x_1 + 1)) (Option.some.inj h4) rfl
  ·refine ab.exit (Fin.aB ?_)
   obtain rfl:=hy5 _ (Option.some.inj h4).symm
   refine Fin.aB (Fin.aU ?_)
   exact Fin.join [] [] () rfl rfl
 ·rintro _ hv
  subst v1
  refine ab.seq (ab.aa ?_)
  refine Oc oa (ae.aj ⟨[(2,B true)],[]⟩ rfl (ab.ret ?_))
  obtain rfl:=Option.some.inj h
  refine Fin.ah ⟨[(2,_)],[]⟩ rfl (Fin.ay [.one (.bool true)] (.inl rfl) rfl (.cons (.tmp rfl) .nil) ⟨rfl,rfl⟩)
def gy (F:Nat) (w0:aT):Option Int :=
 Option.bind (iter F (fun n_2=>(bx (decide (0 < n_2)) (aZ w0.l (IntKind.i64.wrap (n_2 - 1)))).bind fun x_4=>if ((decide (0 < n_2)) && (decide (x_4 = 0))) = true then (some (.inl (IntKind.i64.wrap (n_2 - 1)))) else (some (.inr n_2))) 16) (fun n_1=>some n_1)
theorem gH {F:Nat} {w0:aT} {r:Int} (h:gy F w0 = some r):ax Tryz.prog (bh mx) 104 [] [.agg (eW w0)] (Is [] (.b (.one (.i r)))):=by
 unfold gy at h
 refine ax.intro 16 Tryz.func104 Tryz.ntmps104 rfl (by simp) fun E=>?_
 show ab _ E ⟨16,[],[],[]⟩ _ ⟨[(0,.b (.agg (eW w0)))],[]⟩ _
 refine ab.seq (ab.aa ?_)
 refine Oc (bM (k:=101) rfl rfl) (Oc oa ?_)
 refine ae.aj ⟨[(1,Pt 101 0)],[(101,.box 33 (eW w0))]⟩ rfl (ab.seq (ab.aa ?_))
 refine Oc oa (ae.aj ⟨[(1,_),(3,I 16)],[(101,_)]⟩ rfl ?_)
 obtain ⟨v1,h2,h⟩:=aO h
 refine ab.cN (v:=v1) (fun (n_1:Int)=>⟨[(3,I n_1)],[]⟩) (fun z=>z) ?_ ?_
 ·refine ab.block (ab.dM h2 (fun (n_2:Int)=>⟨[(1,Pt 101 0),(3,I n_2)],[(101,.box 33 (eW w0))]⟩) [1,3] [101] rfl ?_)
  rintro n_2 o3 h4 hy5
  refine ab.seq (ab.seq (ab.aa ?_))
  refine Oc om (Oc (fJ rfl rfl) (Oc om ?_))
  refine dE (decide (0 < n_2)) [] (fun g6=>trivial) (fun g6=>om) (dE (decide (0 < n_2)) [7] (fun g7=>by exact ⟨g7,trivial⟩) (fun g7=>cR rfl rfl) ?_)
  obtain ⟨x_4,e9,h4⟩:=aO h4
  refine dE (decide (0 < n_2)) [8] (fun g8=>⟨g8,trivial⟩) (fun g8=>aN bQ (bb (gc e9 g8)) (cD (gc e9 g8)) rfl rfl rfl) (dE (decide (0 < n_2)) [9] (fun g10=>⟨g10,trivial⟩) (fun g10=>aq bn rfl rfl (cI (post:=[]) (k:=.u32) [] (gc e9 g10) rfl rfl rfl)) (dE (decide (0 < n_2)) [10] (fun g11=>⟨g11,trivial⟩) (fun g11=>c9 rfl rfl) (Oc (aJ (fun e=>e) rfl rfl rfl rfl) (ae.aj ⟨[(1,_),(3,_),(12,B ((decide (0 < n_2)) && (decide (x_4 = 0))))],[(101,_)]⟩ rfl (ab.ite h4 rfl (fun _ h4=>?_) (fun _ h4=>?_))))))
  ·refine ab.skip (Fin.ah ⟨[(1,_),(3,_)],[(101,_)]⟩ rfl (Fin.then (ab.block (ab.aa ?_))))
   refine Oc om (Oc (cR rfl rfl) (Oc oa ?_))
   refine ae.nil (Fin.aC ?_)
   exact Fin.cy [1,3] [101] (IntKind.i64.wrap (n_2 - 1)) (Option.some.inj h4) rfl
  ·refine ab.exit (Fin.aB ?_)
   obtain rfl:=hy5 _ (Option.some.inj h4).symm
   refine Fin.aB (Fin.aU ?_)
   exact Fin.join [3] [] n_2 rfl rfl
 ·rintro n_1 hv
  subst v1
  refine ab.seq (ab.aa ?_)
  refine Oc om (Oc oa ?_)
  refine ae.aj ⟨[(2,I n_1)],[]⟩ rfl (ab.ret ?_)
  obtain rfl:=Option.some.inj h
  refine Fin.ah ⟨[(2,_)],[]⟩ rfl (Fin.ay [.one (.i n_1)] (.inl rfl) rfl (.cons (.tmp rfl) .nil) ⟨rfl,rfl⟩)
end Go.Proofs.YtbcdabflmkgkiaaGreatDoor

