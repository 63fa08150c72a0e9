/- printed walks -/
import Derived.Test.YtcbbilehdaaffaaGreatDoorT1
namespace Go.Proofs.YtcbbilehdaaffaaGreatDoor
open Go.Sk
set_option maxHeartbeats 1000000
set_option maxRecDepth 4000
set_option linter.unusedSimpArgs false
set_option linter.unusedVariables false
variable {mx : Int}
/-- the named units -/
def cE:List gv:=[⟨[109,109],1,1000,⟨1,0,0⟩⟩,⟨[99,109],1,100,⟨1,0,0⟩⟩,⟨[109],1,1,⟨1,0,0⟩⟩,⟨[107,109],1000,1,⟨1,0,0⟩⟩,⟨[103],1,1000,⟨0,1,0⟩⟩,⟨[107,103],1,1,⟨0,1,0⟩⟩,⟨[116],1000,1,⟨0,1,0⟩⟩,⟨[109,115],1,1000,⟨0,0,1⟩⟩,⟨[115],1,1,⟨0,0,1⟩⟩,⟨[109,105,110],60,1,⟨0,0,1⟩⟩,⟨[104],3600,1,⟨0,0,1⟩⟩,⟨[78],1,1,⟨1,1,(-2)⟩⟩,⟨[107,78],1000,1,⟨1,1,(-2)⟩⟩,⟨[77,78],1000000,1,⟨1,1,(-2)⟩⟩,⟨[80,97],1,1,⟨(-1),1,(-2)⟩⟩,⟨[107,80,97],1000,1,⟨(-1),1,(-2)⟩⟩,⟨[77,80,97],1000000,1,⟨(-1),1,(-2)⟩⟩,⟨[74],1,1,⟨2,1,(-2)⟩⟩,⟨[107,74],1000,1,⟨2,1,(-2)⟩⟩,⟨[87],1,1,⟨2,1,(-3)⟩⟩,⟨[107,87],1000,1,⟨2,1,(-3)⟩⟩,⟨[49],1,1,⟨0,0,0⟩⟩,⟨[37],1,100,⟨0,0,0⟩⟩]
/-- the cells of a named unit -/
def qo (x:gv):List Value:=[.string ⟨⟨x.name⟩⟩,.int .i64 x.n,.int .i64 x.d,.int .i64 x.unit.M,.int .i64 x.unit.Kg,.int .i64 x.unit.S]
/-- the tables (mx: what internal/bytealg.MaxLen holds,whatever it is) -/
def bj (mx:Int):cG:=[(3,Lib.deBruijn32tab.map fun z:Nat=>Value.int .u8 (z:Int)),(2,Lib.pow10Tab.map fun z:Int=>Value.int .u64 z),(0,(cE.map qo).flatten),(1,[Value.int .i64 mx])]
theorem BN:(0,(cE.map qo).flatten) ∈ bj mx:=by simp [bj]
def u5 (z:Int):Bool:=decide (IntKind.min .i64 ≤ z ∧ z ≤ IntKind.max .i64)
def okNm (x:gv):Bool:=decide (x.name.length ≤ maxLen) && u5 x.n && u5 x.d && u5 x.unit.M && u5 x.unit.Kg && u5 x.unit.S
theorem nm_rel (h:PH) {x:gv} (ok:okNm x = true):bd h (ky x) (qo x):=by
 simp only [okNm,u5,Bool.and_eq_true,decide_eq_true_eq] at ok
 exact .cons ⟨rfl,ok.1.1.1.1.1⟩ (.cons ⟨rfl,ok.1.1.1.1.2⟩ (.cons ⟨rfl,ok.1.1.1.2⟩ (.cons ⟨rfl,ok.1.1.2⟩ (.cons ⟨rfl,ok.1.2⟩ (.cons ⟨rfl,ok.2⟩ .nil)))))
theorem Ax (h:PH):∀ {l:List gv},l.all okNm = true → bd h (l.map ky).flatten (l.map qo).flatten
 | [],_=>.nil
 | x :: l,ok=>by
  simp only [List.all_cons,Bool.and_eq_true] at ok
  exact bT.append (nm_rel h ok.1) (Ax h ok.2)
theorem BM (h:PH):bd h (cE.map ky).flatten (cE.map qo).flatten:=Ax h (by decide)
theorem ba:cX Tryz.prog 25 2 2 23:=⟨⟨_,_,Tryz.t23,Tryz.underlying25,rfl,rfl,rfl,by kernel_rfl,by decide⟩⟩
theorem aK:gJ Tryz.prog 23 16:=⟨⟨_,Tryz.underlying23,rfl⟩,⟨Tryz.t23,by kernel_rfl,by kernel_rfl⟩⟩
theorem gh:rA Tryz.prog 23 1 (eW aP.zero):=⟨⟨Tryz.t23,_,_,_,Tryz.t22,by kernel_rfl,rfl,rfl,Tryz.underlying23,by kernel_rfl,by kernel_rfl⟩⟩
theorem bl:fG Tryz.prog 22:=⟨⟨_,Tryz.underlying22,rfl⟩,⟨Tryz.t22,by kernel_rfl,by kernel_rfl⟩⟩
theorem xM (x y:aP) {d:Nat}:dx Tryz.prog (d + 2) 23 16 (eW x) (eW y) (decide (x = y)) :=
 (dx.arr (l:=x.l) (l':=y.l) aK Tryz.underlying23 bl Tryz.underlying22).cast (by rw [Bool.eq_iff_iff]; simp [aP.u6])
theorem nF (x y:aP):kD Tryz.prog 23 (eW x) (eW y) (decide (x = y)):=kD.tO (by kernel_rfl) aK (xM x y (d:=9998)) rfl rfl
theorem ji:cX Tryz.prog 25 0 0 4:=⟨⟨_,_,Tryz.t4,Tryz.underlying25,rfl,rfl,rfl,by kernel_rfl,by decide⟩⟩
theorem cC:fG Tryz.prog 4:=⟨⟨_,Tryz.underlying4,rfl⟩,⟨Tryz.t4,by kernel_rfl,by kernel_rfl⟩⟩
theorem bM:cX Tryz.prog 25 1 1 4:=⟨⟨_,_,Tryz.t4,Tryz.underlying25,rfl,rfl,rfl,by kernel_rfl,by decide⟩⟩
theorem ao:gJ Tryz.prog 25 18:=⟨⟨_,Tryz.underlying25,rfl⟩,⟨Tryz.t25,by kernel_rfl,by kernel_rfl⟩⟩
theorem AS:bn Tryz.prog 166:=⟨Tryz.call166⟩
theorem und170:Tryz.prog.underlying 170 = some (.slice 25):=Tryz.underlying170
theorem ju:og Tryz.prog 170 25 18 68 cO:=⟨Tryz.underlying170,⟨Tryz.t25,_,by kernel_rfl,rfl,rfl,rfl,rfl,by decide,rfl⟩⟩
theorem bx:jL Tryz.prog 25 cO:=⟨⟨Tryz.t25,_,by kernel_rfl,rfl,rfl⟩⟩
theorem jV:bn Tryz.prog 124:=⟨Tryz.call124⟩
theorem pQ:jY Tryz.prog 25 [(0,1),(1,1),(2,16)] cO:=⟨⟨Tryz.t25,_,_,by kernel_rfl,rfl,rfl,Tryz.underlying25,by kernel_rfl⟩⟩
theorem bE:mC Tryz.prog 23 22 16 1:=⟨Tryz.underlying23,⟨Tryz.t22,by kernel_rfl,by kernel_rfl⟩⟩
theorem mixed:Tryz.prog.follows .mixedOrders = true:=by kernel_rfl
theorem AK:bn Tryz.prog 203:=⟨Tryz.call203⟩
theorem goes183:bn Tryz.prog 183:=⟨Tryz.call183⟩
theorem cD:jL Tryz.prog 23 (eW aP.zero):=⟨⟨Tryz.t23,_,by kernel_rfl,rfl,rfl⟩⟩
theorem bG:Tryz.prog.underlying 22 = some (.int .u32):=Tryz.underlying22
theorem bu:Tryz.prog.underlying 145 = some (.int .u64):=Tryz.underlying145
theorem u4:Tryz.prog.underlying 5 = some (.int .u8):=Tryz.underlying5
theorem eg:Tryz.prog.underlying 9 = some .string:=Tryz.underlying9
theorem lc:Tryz.prog.underlying 3 = some (.int .i64):=Tryz.underlying3
theorem AL:bn Tryz.prog 201:=⟨Tryz.call201⟩
theorem fI:mC Tryz.prog 186 22 17 1:=⟨Tryz.underlying186,⟨Tryz.t22,by kernel_rfl,by kernel_rfl⟩⟩
theorem nC:bn Tryz.prog 137:=⟨Tryz.call137⟩
theorem AX:bn Tryz.prog 142:=⟨Tryz.call142⟩
theorem AZ:bn Tryz.prog 125:=⟨Tryz.call125⟩
theorem goes175:bn Tryz.prog 175:=⟨Tryz.call175⟩
theorem AQ:bn Tryz.prog 176:=⟨Tryz.call176⟩
theorem Bw:jL Tryz.prog 186 ((jn .u32) cA.zero):=⟨⟨Tryz.t186,_,by kernel_rfl,rfl,rfl⟩⟩
theorem tySl158:og Tryz.prog 158 22 1 4 [.int .u32 0]:=⟨Tryz.underlying158,⟨Tryz.t22,_,by kernel_rfl,rfl,rfl,rfl,rfl,by decide,rfl⟩⟩
theorem goes177:bn Tryz.prog 177:=⟨Tryz.call177⟩
theorem goes178:bn Tryz.prog 178:=⟨Tryz.call178⟩
theorem goes179:bn Tryz.prog 179:=⟨Tryz.call179⟩
theorem goes180:bn Tryz.prog 180:=⟨Tryz.call180⟩
theorem iu:bn Tryz.prog 136:=⟨Tryz.call136⟩
theorem iw:bn Tryz.prog 135:=⟨Tryz.call135⟩
theorem AY:bn Tryz.prog 138:=⟨Tryz.call138⟩
theorem vM:bn Tryz.prog 77:=⟨Tryz.call77⟩
theorem goes139:bn Tryz.prog 139:=⟨Tryz.call139⟩
theorem mq:bn Tryz.prog 74:=⟨Tryz.call74⟩
theorem bF:cX Tryz.prog 27 0 0 25:=⟨⟨_,_,Tryz.t25,Tryz.underlying27,rfl,rfl,rfl,by kernel_rfl,by decide⟩⟩
theorem tp:bn Tryz.prog 123:=⟨Tryz.call123⟩
theorem bm:cX Tryz.prog 27 1 18 25:=⟨⟨_,_,Tryz.t25,Tryz.underlying27,rfl,rfl,rfl,by kernel_rfl,by decide⟩⟩
theorem tT:bn Tryz.prog 90:=⟨Tryz.call90⟩
theorem tU:bn Tryz.prog 63:=⟨Tryz.call63⟩
theorem ul (x y:bt) {d:Nat}:dx Tryz.prog (d + 3) 25 18 (au x) (au y) (decide (x = y)) :=
 (dx.struct (d:=d + 2) (rs:=[x.Bad == y.Bad,x.Neg == y.Neg,decide (x.W = y.W)]) ao Tryz.stoodInHeld25 Tryz.underlying25 (⟨by decide,⟨_,[.bool x.Bad],[.bool y.Bad],rfl,rfl,rfl,rfl,(.bool cC Tryz.underlying4)⟩,⟨by decide,⟨_,[.bool x.Neg],[.bool y.Neg],rfl,rfl,rfl,rfl,(.bool cC Tryz.underlying4)⟩,⟨by decide,⟨_,(eW x.W),(eW y.W),rfl,rfl,rfl,rfl,xM _ _⟩,trivial⟩⟩⟩) rfl).cast
  (by cases x; cases y; rw [Bool.eq_iff_iff]; simp [bt.mk.injEq])
theorem wK (x y:bt):kD Tryz.prog 25 (au x) (au y) (decide (x = y)):=kD.tO (by kernel_rfl) ao (ul x y (d:=9997)) rfl rfl
theorem bO:jL Tryz.prog 27 eh:=⟨⟨Tryz.t27,_,by kernel_rfl,rfl,rfl⟩⟩
theorem fB:jY Tryz.prog 27 [(0,18),(18,18)] eh:=⟨⟨Tryz.t27,_,_,by kernel_rfl,rfl,rfl,Tryz.underlying27,by kernel_rfl⟩⟩
theorem aC:gJ Tryz.prog 27 36:=⟨⟨_,Tryz.underlying27,rfl⟩,⟨Tryz.t27,by kernel_rfl,by kernel_rfl⟩⟩
theorem goes202:bn Tryz.prog 202:=⟨Tryz.call202⟩
theorem uQ:Tryz.prog.underlying 4 = some .bool:=Tryz.underlying4
theorem goes141:bn Tryz.prog 141:=⟨Tryz.call141⟩
theorem wv:bn Tryz.prog 143:=⟨Tryz.call143⟩
theorem yY:bn Tryz.prog 81:=⟨Tryz.call81⟩
theorem yZ:bn Tryz.prog 79:=⟨Tryz.call79⟩
theorem AP:bn Tryz.prog 181:=⟨Tryz.call181⟩
theorem goes182:bn Tryz.prog 182:=⟨Tryz.call182⟩
theorem goes140:bn Tryz.prog 140:=⟨Tryz.call140⟩
theorem Bx:jL Tryz.prog 157 ((w9 .u32) gY.zero):=⟨⟨Tryz.t157,_,by kernel_rfl,rfl,rfl⟩⟩
theorem oC:mC Tryz.prog 157 22 32 1:=⟨Tryz.underlying157,⟨Tryz.t22,by kernel_rfl,by kernel_rfl⟩⟩
theorem nj:bn Tryz.prog 75:=⟨Tryz.call75⟩
theorem mo:bn Tryz.prog 78:=⟨Tryz.call78⟩
theorem kv:bn Tryz.prog 62:=⟨Tryz.call62⟩
theorem kr:bn Tryz.prog 80:=⟨Tryz.call80⟩
theorem ku:bn Tryz.prog 76:=⟨Tryz.call76⟩
theorem C2:bn Tryz.prog 24:=⟨Tryz.call24⟩
theorem y7:bn Tryz.prog 22:=⟨Tryz.call22⟩
theorem vO:bn Tryz.prog 25:=⟨Tryz.call25⟩
theorem goes94:bn Tryz.prog 94:=⟨Tryz.call94⟩
theorem y8:bn Tryz.prog 21:=⟨Tryz.call21⟩
theorem lr:jL Tryz.prog 29 [.i 0,.i 0,.i 0]:=⟨⟨Tryz.t29,_,by kernel_rfl,rfl,rfl⟩⟩
theorem bz:gJ Tryz.prog 29 3:=⟨⟨_,Tryz.underlying29,rfl⟩,⟨Tryz.t29,by kernel_rfl,by kernel_rfl⟩⟩
theorem bW:fG Tryz.prog 3:=⟨⟨_,Tryz.underlying3,rfl⟩,⟨Tryz.t3,by kernel_rfl,by kernel_rfl⟩⟩
theorem xK (x y:aX) {d:Nat}:dx Tryz.prog (d + 2) 29 3 (aZ x) (aZ y) (decide (x = y)) :=
 (dx.struct (d:=d + 1) (rs:=[decide (x.M = y.M),decide (x.Kg = y.Kg),decide (x.S = y.S)]) bz Tryz.stoodInHeld29 Tryz.underlying29 (⟨by decide,⟨_,[.i x.M],[.i y.M],rfl,rfl,rfl,rfl,dx.int bW Tryz.underlying3⟩,⟨by decide,⟨_,[.i x.Kg],[.i y.Kg],rfl,rfl,rfl,rfl,dx.int bW Tryz.underlying3⟩,⟨by decide,⟨_,[.i x.S],[.i y.S],rfl,rfl,rfl,rfl,dx.int bW Tryz.underlying3⟩,trivial⟩⟩⟩) rfl).cast
  (by cases x; cases y; rw [Bool.eq_iff_iff]; simp [aX.mk.injEq])
theorem tv (x y:aX):kD Tryz.prog 29 (aZ x) (aZ y) (decide (x = y)):=kD.tO (by kernel_rfl) bz (xK x y (d:=9998)) rfl rfl
theorem ff:jY Tryz.prog 29 [(0,1),(1,1),(2,1)] [.i 0,.i 0,.i 0]:=⟨⟨Tryz.t29,_,_,by kernel_rfl,rfl,rfl,Tryz.underlying29,by kernel_rfl⟩⟩
theorem Dh:jL Tryz.prog 97 ((eA3 .i64) A3.zero):=⟨⟨Tryz.t97,_,by kernel_rfl,rfl,rfl⟩⟩
theorem kZ:cX Tryz.prog 29 0 0 3:=⟨⟨_,_,Tryz.t3,Tryz.underlying29,rfl,rfl,rfl,by kernel_rfl,by decide⟩⟩
theorem kY:cX Tryz.prog 29 1 1 3:=⟨⟨_,_,Tryz.t3,Tryz.underlying29,rfl,rfl,rfl,by kernel_rfl,by decide⟩⟩
theorem kX:cX Tryz.prog 29 2 2 3:=⟨⟨_,_,Tryz.t3,Tryz.underlying29,rfl,rfl,rfl,by kernel_rfl,by decide⟩⟩
theorem BC:rA Tryz.prog 97 1 ((eA3 .i64) A3.zero):=⟨⟨Tryz.t97,_,_,_,Tryz.t3,by kernel_rfl,rfl,rfl,Tryz.underlying97,by kernel_rfl,by kernel_rfl⟩⟩
theorem Ai:gJ Tryz.prog 97 3:=⟨⟨_,Tryz.underlying97,rfl⟩,⟨Tryz.t97,by kernel_rfl,by kernel_rfl⟩⟩
theorem CY:bn Tryz.prog 71:=⟨Tryz.call71⟩
theorem Ah:mC Tryz.prog 97 3 3 1:=⟨Tryz.underlying97,⟨Tryz.t3,by kernel_rfl,by kernel_rfl⟩⟩
theorem CW:bn Tryz.prog 85:=⟨Tryz.call85⟩
theorem tW:bn Tryz.prog 32:=⟨Tryz.call32⟩
theorem yX:bn Tryz.prog 82:=⟨Tryz.call82⟩
theorem goes87:bn Tryz.prog 87:=⟨Tryz.call87⟩
theorem goes26:bn Tryz.prog 26:=⟨Tryz.call26⟩
theorem goes27:bn Tryz.prog 27:=⟨Tryz.call27⟩
theorem A1:bn Tryz.prog 120:=⟨Tryz.call120⟩
theorem goes173:bn Tryz.prog 173:=⟨Tryz.call173⟩
theorem goes119:bn Tryz.prog 119:=⟨Tryz.call119⟩
theorem goes73:bn Tryz.prog 73:=⟨Tryz.call73⟩
theorem pN:cX Tryz.prog 94 2 40 3:=⟨⟨_,_,Tryz.t3,Tryz.underlying94,rfl,rfl,rfl,by kernel_rfl,by decide⟩⟩
theorem AM:bn Tryz.prog 191:=⟨Tryz.call191⟩
theorem dp:cX Tryz.prog 94 0 0 9:=⟨⟨_,_,Tryz.t9,Tryz.underlying94,rfl,rfl,rfl,by kernel_rfl,by decide⟩⟩
theorem fj:fG Tryz.prog 9:=⟨⟨_,Tryz.underlying9,rfl⟩,⟨Tryz.t9,by kernel_rfl,by kernel_rfl⟩⟩
theorem goes196:bn Tryz.prog 196:=⟨Tryz.call196⟩
theorem wA:bn Tryz.prog 122:=⟨Tryz.call122⟩
theorem AR:bn Tryz.prog 172:=⟨Tryz.call172⟩
theorem goes165:bn Tryz.prog 165:=⟨Tryz.call165⟩
theorem goes163:bn Tryz.prog 163:=⟨Tryz.call163⟩
theorem wB:bn Tryz.prog 117:=⟨Tryz.call117⟩
theorem Cs:Tryz.prog.underlying 21 = some (.int .i32):=Tryz.underlying21
theorem goes132:bn Tryz.prog 132:=⟨Tryz.call132⟩
theorem Dj:gJ Tryz.prog 143 138:=⟨⟨_,Tryz.underlying143,rfl⟩,⟨Tryz.t143,by kernel_rfl,by kernel_rfl⟩⟩
theorem Di:mC Tryz.prog 143 142 23 6:=⟨Tryz.underlying143,⟨Tryz.t142,by kernel_rfl,by kernel_rfl⟩⟩
theorem xn:gJ Tryz.prog 142 6:=⟨⟨_,Tryz.underlying142,rfl⟩,⟨Tryz.t142,by kernel_rfl,by kernel_rfl⟩⟩
theorem By:jL Tryz.prog 142 [.str [],.i 0,.i 0,.i 0,.i 0,.i 0]:=⟨⟨Tryz.t142,_,by kernel_rfl,rfl,rfl⟩⟩
theorem zu:cX Tryz.prog 142 0 0 9:=⟨⟨_,_,Tryz.t9,Tryz.underlying142,rfl,rfl,rfl,by kernel_rfl,by decide⟩⟩
theorem goes133:bn Tryz.prog 133:=⟨Tryz.call133⟩
theorem kW:cX Tryz.prog 94 1 1 31:=⟨⟨_,_,Tryz.t31,Tryz.underlying94,rfl,rfl,rfl,by kernel_rfl,by decide⟩⟩
theorem c8:cX Tryz.prog 31 1 36 29:=⟨⟨_,_,Tryz.t29,Tryz.underlying31,rfl,rfl,rfl,by kernel_rfl,by decide⟩⟩
theorem zq:cX Tryz.prog 142 3 3 29:=⟨⟨_,_,Tryz.t29,Tryz.underlying142,rfl,rfl,rfl,by kernel_rfl,by decide⟩⟩
theorem c9:cX Tryz.prog 31 0 0 27:=⟨⟨_,_,Tryz.t27,Tryz.underlying31,rfl,rfl,rfl,by kernel_rfl,by decide⟩⟩
theorem zt:cX Tryz.prog 142 1 1 3:=⟨⟨_,_,Tryz.t3,Tryz.underlying142,rfl,rfl,rfl,by kernel_rfl,by decide⟩⟩
theorem zr:cX Tryz.prog 142 2 2 3:=⟨⟨_,_,Tryz.t3,Tryz.underlying142,rfl,rfl,rfl,by kernel_rfl,by decide⟩⟩
theorem goes23:bn Tryz.prog 23:=⟨Tryz.call23⟩
theorem dD:jL Tryz.prog 31 (.bool false :: .bool false :: (eW aP.zero ++ (.bool false :: .bool false :: (eW aP.zero ++ ([.i 0,.i 0,.i 0]))))):=⟨⟨Tryz.t31,_,by kernel_rfl,rfl,rfl⟩⟩
theorem dI:jY Tryz.prog 31 [(0,36),(36,3)] (.bool false :: .bool false :: (eW aP.zero ++ (.bool false :: .bool false :: (eW aP.zero ++ ([.i 0,.i 0,.i 0]))))):=⟨⟨Tryz.t31,_,_,by kernel_rfl,rfl,rfl,Tryz.underlying31,by kernel_rfl⟩⟩
theorem aW:gJ Tryz.prog 31 39:=⟨⟨_,Tryz.underlying31,rfl⟩,⟨Tryz.t31,by kernel_rfl,by kernel_rfl⟩⟩
theorem tX:bn Tryz.prog 20:=⟨Tryz.call20⟩
theorem BD:jY Tryz.prog 94 [(0,1),(1,39),(40,1)] (.str [] :: .bool false :: .bool false :: (eW aP.zero ++ (.bool false :: .bool false :: (eW aP.zero ++ ([.i 0,.i 0,.i 0,.i 0]))))):=⟨⟨Tryz.t94,_,_,by kernel_rfl,rfl,rfl,Tryz.underlying94,by kernel_rfl⟩⟩
theorem undm95:Tryz.prog.underlying 95 = some (.map 5 1):=Tryz.underlying95
theorem qX:ve Tryz.prog 95 5 1 .u8 (.raw .nilFunc):=⟨Tryz.underlying95,Tryz.underlying5,⟨Tryz.t1,_,by kernel_rfl,rfl,fun _=>⟨rfl,rfl⟩⟩⟩
theorem goes70:bn Tryz.prog 70:=⟨Tryz.call70⟩
theorem und1:∃ ps rs v,Tryz.prog.underlying 1 = some (.func ps rs v):=⟨_,_,_,Tryz.underlying1⟩
theorem goes68:bn Tryz.prog 68:=⟨Tryz.call68⟩
theorem goes69:bn Tryz.prog 69:=⟨Tryz.call69⟩
theorem iI:Tryz.prog.underlying 89 = some (.slice 3):=Tryz.underlying89
theorem du:og Tryz.prog 89 3 1 8 [.i 0]:=⟨Tryz.underlying89,⟨Tryz.t3,_,by kernel_rfl,rfl,rfl,rfl,rfl,by decide,rfl⟩⟩
theorem nD:bn Tryz.prog 130:=⟨Tryz.call130⟩
theorem nB:bn Tryz.prog 151:=⟨Tryz.call151⟩
theorem l6:bn Tryz.prog 131:=⟨Tryz.call131⟩
theorem nA:bn Tryz.prog 156:=⟨Tryz.call156⟩
theorem AU:bn Tryz.prog 155:=⟨Tryz.call155⟩
theorem goes129:bn Tryz.prog 129:=⟨Tryz.call129⟩
theorem jq:bn Tryz.prog 65:=⟨Tryz.call65⟩
theorem mr:bn Tryz.prog 66:=⟨Tryz.call66⟩
theorem nE:bn Tryz.prog 107:=⟨Tryz.call107⟩
theorem wD:bn Tryz.prog 108:=⟨Tryz.call108⟩
theorem tn:bn Tryz.prog 186:=⟨Tryz.call186⟩
theorem AN:bn Tryz.prog 185:=⟨Tryz.call185⟩
theorem goes150:bn Tryz.prog 150:=⟨Tryz.call150⟩
theorem AT:bn Tryz.prog 157:=⟨Tryz.call157⟩
theorem pF:bn Tryz.prog 152:=⟨Tryz.call152⟩
theorem goes161:bn Tryz.prog 161:=⟨Tryz.call161⟩
theorem AV:bn Tryz.prog 154:=⟨Tryz.call154⟩
theorem goes153:bn Tryz.prog 153:=⟨Tryz.call153⟩
theorem wE:bn Tryz.prog 103:=⟨Tryz.call103⟩
theorem wC:bn Tryz.prog 114:=⟨Tryz.call114⟩
theorem A2:bn Tryz.prog 115:=⟨Tryz.call115⟩
theorem goes159:bn Tryz.prog 159:=⟨Tryz.call159⟩
theorem A5:bn Tryz.prog 101:=⟨Tryz.call101⟩
theorem pG:bn Tryz.prog 106:=⟨Tryz.call106⟩
theorem A4:bn Tryz.prog 105:=⟨Tryz.call105⟩
theorem BB:rA Tryz.prog 99 1 [.str [],.str [],.str []]:=⟨⟨Tryz.t99,_,_,_,Tryz.t9,by kernel_rfl,rfl,rfl,Tryz.underlying99,by kernel_rfl,by kernel_rfl⟩⟩
theorem tyArr99:mC Tryz.prog 99 9 3 1:=⟨Tryz.underlying99,⟨Tryz.t9,by kernel_rfl,by kernel_rfl⟩⟩
theorem CX:bn Tryz.prog 72:=⟨Tryz.call72⟩
theorem goes164:bn Tryz.prog 164:=⟨Tryz.call164⟩
theorem goes118:bn Tryz.prog 118:=⟨Tryz.call118⟩
theorem zY:Tryz.prog.underlying 48 = some (.slice 5):=Tryz.underlying48
theorem Ct:og Tryz.prog 48 5 1 1 [.int .u8 0]:=⟨Tryz.underlying48,⟨Tryz.t5,_,by kernel_rfl,rfl,rfl,rfl,rfl,by decide,rfl⟩⟩
theorem Cu:fG Tryz.prog 5:=⟨⟨_,Tryz.underlying5,rfl⟩,⟨Tryz.t5,by kernel_rfl,by kernel_rfl⟩⟩
theorem y5:bn Tryz.prog 59:=⟨Tryz.call59⟩
theorem A0:bn Tryz.prog 121:=⟨Tryz.call121⟩
theorem und120:Tryz.prog.underlying 120 = some (.slice 31):=Tryz.underlying120
theorem qV:og Tryz.prog 120 31 39 160 (.bool false :: .bool false :: (eW aP.zero ++ (.bool false :: .bool false :: (eW aP.zero ++ ([.i 0,.i 0,.i 0]))))):=⟨Tryz.underlying120,⟨Tryz.t31,_,by kernel_rfl,rfl,rfl,rfl,rfl,by decide,rfl⟩⟩
theorem vN:bn Tryz.prog 54:=⟨Tryz.call54⟩
theorem zw:cX Tryz.prog 113 1 1 54:=⟨⟨_,_,Tryz.t54,Tryz.underlying113,rfl,rfl,rfl,by kernel_rfl,by decide⟩⟩
theorem tyOne54:fG Tryz.prog 54:=⟨⟨_,Tryz.underlying54,rfl⟩,⟨Tryz.t54,by kernel_rfl,by kernel_rfl⟩⟩
theorem zx:cX Tryz.prog 113 0 0 49:=⟨⟨_,_,Tryz.t49,Tryz.underlying113,rfl,rfl,rfl,by kernel_rfl,by decide⟩⟩
theorem tyOne49:fG Tryz.prog 49:=⟨⟨_,Tryz.underlying49,rfl⟩,⟨Tryz.t49,by kernel_rfl,by kernel_rfl⟩⟩
theorem C0:bn Tryz.prog 55:=⟨Tryz.call55⟩
theorem qH:jY Tryz.prog 113 [(0,1),(1,1)] [.raw .nilFunc,.raw .nilFunc]:=⟨⟨Tryz.t113,_,_,by kernel_rfl,rfl,rfl,Tryz.underlying113,by kernel_rfl⟩⟩
theorem yV:bn Tryz.prog 88:=⟨Tryz.call88⟩
theorem goes60:bn Tryz.prog 60:=⟨Tryz.call60⟩
theorem goes61:bn Tryz.prog 61:=⟨Tryz.call61⟩
theorem vP:bn Tryz.prog 17:=⟨Tryz.call17⟩
theorem goes38:bn Tryz.prog 38:=⟨Tryz.call38⟩
theorem C3:bn Tryz.prog 13:=⟨Tryz.call13⟩
theorem xL (x y:bN) {d:Nat}:dx Tryz.prog (d + 4) 27 36 (aI x) (aI y) (decide (x = y)) :=
 (dx.struct (d:=d + 3) (rs:=[decide (x.N = y.N),decide (x.D = y.D)]) aC Tryz.stoodInHeld27 Tryz.underlying27 (⟨by decide,⟨_,(au x.N),(au y.N),rfl,rfl,rfl,rfl,ul _ _⟩,⟨by decide,⟨_,(au x.D),(au y.D),rfl,rfl,rfl,rfl,ul _ _⟩,trivial⟩⟩) rfl).cast
  (by cases x; cases y; rw [Bool.eq_iff_iff]; simp [bN.mk.injEq])
theorem D3 (x y:aw) {d:Nat}:dx Tryz.prog (d + 5) 31 39 (ap x) (ap y) (decide (x = y)) :=
 (dx.struct (d:=d + 4) (rs:=[decide (x.V = y.V),decide (x.U = y.U)]) aW Tryz.stoodInHeld31 Tryz.underlying31 (⟨by decide,⟨_,(aI x.V),(aI y.V),rfl,rfl,rfl,rfl,xL _ _⟩,⟨by decide,⟨_,(aZ x.U),(aZ y.U),rfl,rfl,rfl,rfl,xK _ _⟩,trivial⟩⟩) rfl).cast
  (by cases x; cases y; rw [Bool.eq_iff_iff]; simp [aw.mk.injEq])
theorem tu (x y:aw):kD Tryz.prog 31 (ap x) (ap y) (decide (x = y)):=kD.tO (by kernel_rfl) aW (D3 x y (d:=9995)) rfl rfl
theorem und110:Tryz.prog.underlying 110 = some (.slice 9):=Tryz.underlying110
theorem jS:og Tryz.prog 110 9 1 16 [.str []]:=⟨Tryz.underlying110,⟨Tryz.t9,_,by kernel_rfl,rfl,rfl,rfl,rfl,by decide,rfl⟩⟩
theorem goes126:bn Tryz.prog 126:=⟨Tryz.call126⟩
theorem goes127:bn Tryz.prog 127:=⟨Tryz.call127⟩
theorem goes128:bn Tryz.prog 128:=⟨Tryz.call128⟩
theorem y4:bn Tryz.prog 64:=⟨Tryz.call64⟩
theorem y9:bn Tryz.prog 14:=⟨Tryz.call14⟩
theorem tY:bn Tryz.prog 18:=⟨Tryz.call18⟩
theorem goes39:bn Tryz.prog 39:=⟨Tryz.call39⟩
theorem li:bn Tryz.prog 50:=⟨Tryz.call50⟩
theorem y6:bn Tryz.prog 51:=⟨Tryz.call51⟩
theorem goes19:bn Tryz.prog 19:=⟨Tryz.call19⟩
theorem za:bn Tryz.prog 11:=⟨Tryz.call11⟩
theorem goes36:bn Tryz.prog 36:=⟨Tryz.call36⟩
theorem goes40:bn Tryz.prog 40:=⟨Tryz.call40⟩
theorem goes52:bn Tryz.prog 52:=⟨Tryz.call52⟩
theorem Bc (x y:bN):kD Tryz.prog 27 (aI x) (aI y) (decide (x = y)):=kD.tO (by kernel_rfl) aC (xL x y (d:=9996)) rfl rfl
theorem tV:bn Tryz.prog 53:=⟨Tryz.call53⟩
theorem yW:bn Tryz.prog 84:=⟨Tryz.call84⟩
theorem r7:bn Tryz.prog 58:=⟨Tryz.call58⟩
theorem C1:bn Tryz.prog 33:=⟨Tryz.call33⟩
theorem j7:jL Tryz.prog 69 (.bool false :: .bool false :: (eW aP.zero ++ (.bool false :: .bool false :: (eW aP.zero ++ ([.i 0,.i 0,.i 0,.i 0]))))):=⟨⟨Tryz.t69,_,by kernel_rfl,rfl,rfl⟩⟩
theorem iy:jY Tryz.prog 69 [(0,39),(39,1)] (.bool false :: .bool false :: (eW aP.zero ++ (.bool false :: .bool false :: (eW aP.zero ++ ([.i 0,.i 0,.i 0,.i 0]))))):=⟨⟨Tryz.t69,_,_,by kernel_rfl,rfl,rfl,Tryz.underlying69,by kernel_rfl⟩⟩
theorem aT:gJ Tryz.prog 69 40:=⟨⟨_,Tryz.underlying69,rfl⟩,⟨Tryz.t69,by kernel_rfl,by kernel_rfl⟩⟩
theorem goes160:bn Tryz.prog 160:=⟨Tryz.call160⟩
theorem dt:bn Tryz.prog 109:=⟨Tryz.call109⟩
theorem vm:jL Tryz.prog 124 [.i 0,.i 0]:=⟨⟨Tryz.t124,_,by kernel_rfl,rfl,rfl⟩⟩
theorem ur:jY Tryz.prog 124 [(0,1),(1,1)] [.i 0,.i 0]:=⟨⟨Tryz.t124,_,_,by kernel_rfl,rfl,rfl,Tryz.underlying124,by kernel_rfl⟩⟩
theorem oD:gJ Tryz.prog 124 2:=⟨⟨_,Tryz.underlying124,rfl⟩,⟨Tryz.t124,by kernel_rfl,by kernel_rfl⟩⟩
theorem AO:bn Tryz.prog 184:=⟨Tryz.call184⟩
theorem AW:bn Tryz.prog 148:=⟨Tryz.call148⟩
theorem CU:bn Tryz.prog 96:=⟨Tryz.call96⟩
theorem CZ:bn Tryz.prog 57:=⟨Tryz.call57⟩
theorem goes92:bn Tryz.prog 92:=⟨Tryz.call92⟩
theorem goes110:bn Tryz.prog 110:=⟨Tryz.call110⟩
theorem goes111:bn Tryz.prog 111:=⟨Tryz.call111⟩
theorem pO:cX Tryz.prog 69 1 39 33:=⟨⟨_,_,Tryz.t33,Tryz.underlying69,rfl,rfl,rfl,by kernel_rfl,by decide⟩⟩
theorem qW:fG Tryz.prog 33:=⟨⟨_,Tryz.underlying33,rfl⟩,⟨Tryz.t33,by kernel_rfl,by kernel_rfl⟩⟩
theorem goes112:bn Tryz.prog 112:=⟨Tryz.call112⟩
theorem uq:cX Tryz.prog 124 1 1 3:=⟨⟨_,_,Tryz.t3,Tryz.underlying124,rfl,rfl,rfl,by kernel_rfl,by decide⟩⟩
theorem zv:cX Tryz.prog 124 0 0 3:=⟨⟨_,_,Tryz.t3,Tryz.underlying124,rfl,rfl,rfl,by kernel_rfl,by decide⟩⟩
theorem pP:cX Tryz.prog 69 0 0 31:=⟨⟨_,_,Tryz.t31,Tryz.underlying69,rfl,rfl,rfl,by kernel_rfl,by decide⟩⟩
theorem goes113:bn Tryz.prog 113:=⟨Tryz.call113⟩
theorem xm:jL Tryz.prog 37 (.bool false :: .bool false :: (eW aP.zero ++ (.bool false :: .bool false :: (eW aP.zero ++ ([.i 0]))))):=⟨⟨Tryz.t37,_,by kernel_rfl,rfl,rfl⟩⟩
theorem goes15:bn Tryz.prog 15:=⟨Tryz.call15⟩
theorem mM:jY Tryz.prog 37 [(0,36),(36,1)] (.bool false :: .bool false :: (eW aP.zero ++ (.bool false :: .bool false :: (eW aP.zero ++ ([.i 0]))))):=⟨⟨Tryz.t37,_,_,by kernel_rfl,rfl,rfl,Tryz.underlying37,by kernel_rfl⟩⟩
theorem jv:gJ Tryz.prog 37 37:=⟨⟨_,Tryz.underlying37,rfl⟩,⟨Tryz.t37,by kernel_rfl,by kernel_rfl⟩⟩
theorem goes56:bn Tryz.prog 56:=⟨Tryz.call56⟩
theorem zb:bn Tryz.prog 10:=⟨Tryz.call10⟩
theorem goes12:bn Tryz.prog 12:=⟨Tryz.call12⟩
theorem BA:cX Tryz.prog 37 0 0 27:=⟨⟨_,_,Tryz.t27,Tryz.underlying37,rfl,rfl,rfl,by kernel_rfl,by decide⟩⟩
theorem Bz:cX Tryz.prog 37 1 36 33:=⟨⟨_,_,Tryz.t33,Tryz.underlying37,rfl,rfl,rfl,by kernel_rfl,by decide⟩⟩
def fm (F:Nat) (n0:Int):Option bg:=u7 n0
theorem mi {F:Nat} {n0:Int} {r:bg} (h:fm F n0 = some r):az Tryz.prog (bj mx) 72 [] [.one (.i n0)] (Is [] (.b (.one (.str r)))):=zJ Tryz.DH (gb:=2) (by kernel_rfl) (by simp [bj]) h
def iH (F:Nat) (s0:bg) (c0:Int):Option bg:=tf s0 c0
theorem pW {F:Nat} {s0:bg} {c0:Int} {r:bg} (h:iH F s0 c0 = some r):az Tryz.prog (bj mx) 126 [] [.one (.str s0),.one (.i c0)] (Is [] (.b (.one (.str r)))):=wY Tryz.lays105 Tryz.rV h
def jF (F:Nat) (l0:List bg) (s0:bg):Option bg:=Aa l0 s0
theorem rT {F:Nat} {l0:List bg} {s0:bg} {r:bg} (h:jF F l0 s0 = some r):az Tryz.prog (bj mx) 128 [] [.one (.sl 1 (l0.map eS)),.one (.str s0)] (Is [] (.b (.one (.str r)))):=zI Tryz.lays156 Tryz.rU h
def dM (F:Nat) (s0:bg) (p0:bg):Option Bool:=some (Lib.hasPrefix s0 p0)
theorem gF {F:Nat} {s0:bg} {p0:bg} {r:Bool} (h:dM F s0 p0 = some r):az Tryz.prog (bj mx) 122 [] [.one (.str s0),.one (.str p0)] (Is [] (B r)):=s7 Tryz.lays99 h
def dz (F:Nat) (s0:bg) (p0:bg):Option (bg × bg × Bool):=Bu s0 p0
theorem jR {F:Nat} {s0:bg} {p0:bg} {r:bg × bg × Bool} (h:dz F s0 p0 = some r):az Tryz.prog (bj mx) 59 [] [.one (.str s0),.one (.str p0)] (Is [] (.fE [.one (.str r.1),.one (.str r.2.1),.one (.bool r.2.2)])):=BP Tryz.DI (m:=mx) (by simp [bj,Tryz.rO]) h
def kU (F:Nat) (x0:bt):Option Bool :=
 if x0.Bad = true then (some ((decide (x0.W = aP.zero)) && (!x0.Neg))) else (some ((!(decide (x0.W = aP.zero))) || (!x0.Neg)))
theorem rD {F:Nat} {x0:bt} {r:Bool} (h:kU F x0 = some r):az Tryz.prog (bj mx) 166 [] [.agg (au x0)] (Is [] (.b (.one (.bool r)))):=by
 unfold kU at h
 refine az.intro 23 Tryz.func166 Tryz.ntmps166 rfl (by simp) fun E=>?_
 show ab _ E ⟨23,[],[]⟩ _ ⟨[(0,.b (.agg (au x0)))],[]⟩ _
 refine ab.seq (ab.aa ?_)
 refine Oc (aS (k:=101) rfl rfl) (Oc oa ?_)
 refine ad.aj ⟨[(1,Pt 101 0)],[(101,.box 25 (au x0))]⟩ rfl (ab.seq (ab.aa ?_))
 refine Oc (af ba rfl rfl) (Oc (lp aK) (Oc (fg gh rfl rfl) (Oc (eH (nF x0.W aP.zero) rfl rfl) (Oc oa ?_))))
 refine ad.aj ⟨[(1,_),(3,B (decide (x0.W = aP.zero)))],[(101,_)]⟩ rfl (ab.seq (ab.seq (ab.aa ?_)))
 refine Oc (af ji rfl rfl) (Oc (ax cC rfl rfl rfl) ?_)
 refine ad.aj ⟨[(1,_),(3,_),(9,B x0.Bad)],[(101,_)]⟩ rfl (ab.ite h rfl (fun _ h=>?_) (fun _ h=>?_))
 ·refine ab.seq (ab.aa ?_)
  refine Oc om (Oc om ?_)
  refine bU (decide (x0.W = aP.zero)) [] (fun g1=>trivial) (fun g1=>af bM rfl rfl) (bU (decide (x0.W = aP.zero)) [12] (fun g2=>⟨g2,trivial⟩) (fun g2=>ax cC rfl rfl rfl) (bU (decide (x0.W = aP.zero)) [13] (fun g3=>⟨g3,trivial⟩) (fun g3=>bq rfl) (Oc (aD (fun e=>e) rfl rfl rfl rfl) (Oc oa ?_))))
  refine ad.aj ⟨[(2,B ((decide (x0.W = aP.zero)) && (!x0.Neg)))],[]⟩ rfl (ab.ret (Fin.ar ?_))
  obtain rfl:=Option.some.inj h
  refine Fin.ah ⟨[(2,_)],[]⟩ rfl (Fin.aq [.one (.bool ((decide (x0.W = aP.zero)) && (!x0.Neg)))] (.inl rfl) rfl (.cons (.tmp rfl) .nil) ⟨rfl,rfl⟩)
 ·refine ab.skip (Fin.ah ⟨[(1,_),(3,_)],[(101,_)]⟩ rfl (Fin.then (ab.seq (ab.aa ?_))))
  refine Oc om (Oc (bq rfl) (Oc om ?_))
  refine cN (!(!(decide (x0.W = aP.zero)))) [] (fun g4=>trivial) (fun g4=>af bM rfl rfl) (cN (!(!(decide (x0.W = aP.zero)))) [19] (fun g5=>⟨g5,trivial⟩) (fun g5=>ax cC rfl rfl rfl) (cN (!(!(decide (x0.W = aP.zero)))) [20] (fun g6=>⟨g6,trivial⟩) (fun g6=>bq rfl) (Oc (aU (fun e=>by rw [e]; rfl) rfl rfl rfl rfl) (Oc oa ?_))))
  refine ad.aj ⟨[(2,B ((!(decide (x0.W = aP.zero))) || (!x0.Neg)))],[]⟩ rfl (ab.ret ?_)
  obtain rfl:=Option.some.inj h
  refine Fin.ah ⟨[(2,_)],[]⟩ rfl (Fin.aq [.one (.bool ((!(decide (x0.W = aP.zero))) || (!x0.Neg)))] (.inl rfl) rfl (.cons (.tmp rfl) .nil) ⟨rfl,rfl⟩)
def j8 (F:Nat) (x0:bt):Option Bool :=
 (bA (!x0.Bad) (kU F x0)).bind fun x_1=>some ((!x0.Bad) && x_1)
theorem mf {F:Nat} {x0:bt} {r:Bool} (h:j8 F x0 = some r):az Tryz.prog (bj mx) 123 [] [.agg (au x0)] (Is [] (.b (.one (.bool r)))):=by
 unfold j8 at h
 refine az.intro 10 Tryz.func123 Tryz.ntmps123 rfl (by simp) fun E=>?_
 show ab _ E ⟨10,[],[]⟩ _ ⟨[(0,.b (.agg (au x0)))],[]⟩ _
 refine ab.seq (ab.aa ?_)
 refine Oc (aS (k:=101) rfl rfl) (Oc oa ?_)
 refine ad.aj ⟨[(1,Pt 101 0)],[(101,.box 25 (au x0))]⟩ rfl (ab.seq (ab.aa ?_))
 refine Oc (af ji rfl rfl) (Oc (ax cC rfl rfl rfl) (Oc (bq rfl) (Oc om ?_)))
 refine bU (!x0.Bad) [] (fun g1=>trivial) (fun g1=>lp ao) (ad.ah ⟨[(6,B (!x0.Bad)),(7,.dA (!x0.Bad) (.agg (au x0)))],[]⟩ rfl ?_)
 obtain ⟨x_1,e3,h⟩:=aE h
 refine bU (!x0.Bad) [7] (fun g2=>⟨g2,trivial⟩) (fun g2=>ae (rD (gc e3 g2)) AS rfl rfl) (Oc (aD (fun e=>e) rfl rfl rfl rfl) (Oc oa ?_))
 refine ad.aj ⟨[(2,B ((!x0.Bad) && x_1))],[]⟩ rfl (ab.ret ?_)
 obtain rfl:=Option.some.inj h
 refine Fin.ah ⟨[(2,_)],[]⟩ rfl (Fin.aq [.one (.bool ((!x0.Bad) && x_1))] (.inl rfl) rfl (.cons (.tmp rfl) .nil) ⟨rfl,rfl⟩)
def eL (F:Nat) (l0:List bt):Option Bool :=
 Option.bind (iter F (fun x_1=>if (decide (x_1 < (l0.length:Int))) = true then ((bB l0 x_1).bind fun x_2=>(bA (!x_2.Bad) (kU F x_2)).bind fun x_3=>if (x_2.Bad || (!x_3)) = true then (some (.inr (.inr false))) else (some (.inl (IntKind.i64.wrap (x_1 + 1))))) else (some (.inr (.inl ())))) 0) (j4 (fun _=>some true) (fun y=>some y))
theorem fc {F:Nat} {l0:List bt} {r:Bool} (h:eL F l0 = some r):az Tryz.prog (bj mx) 124 [] [.one (.sl 18 (l0.map au))] (Is [] (.b (.one (.bool r)))):=by
 unfold eL at h
 refine az.intro 19 Tryz.func124 Tryz.ntmps124 rfl (by simp) fun E=>?_
 show ab _ E ⟨19,[],[]⟩ _ ⟨[(0,.b (.one (.sl 18 (l0.map au))))],[]⟩ _
 refine ab.seq (ab.aa ?_)
 refine Oc oa (ad.aj ⟨[(0,.b (.one (.sl 18 (l0.map au))))],[]⟩ rfl ?_)
 obtain ⟨v1,h2,h⟩:=aE h
 refine ab.cB (v:=v1) (fun (_:Unit)=>⟨[],[]⟩) (fun z=>.inl z) ?_ ?_
 ·refine ab.seq (ab.aa ?_)
  refine Oc om (Oc (b8 und170 rfl (List.length_map _)) (Oc om ?_))
  refine ad.aj ⟨[(5,.b (.one (.sl 18 (l0.map au)))),(6,I (l0.length:Int)),(7,I 0)],[]⟩ rfl (ab.block (ab.cS h2 (fun (x_1:Int)=>⟨[(5,.b (.one (.sl 18 (l0.map au)))),(6,I (l0.length:Int)),(7,I x_1)],[]⟩) [5,6,7] [] rfl ?_))
  rintro x_1 o3 h4 hy5
  refine ab.seq (ab.aa ?_)
  refine Oc (bK rfl rfl) (ad.aj ⟨[(5,_),(6,_),(7,_),(8,B (decide (x_1 < (l0.length:Int))))],[]⟩ rfl (ab.seq (ab.ite h4 rfl (fun _ h4=>?_) (fun _ h4=>?_))))
  ·refine ab.skip (Fin.ah ⟨[(5,_),(6,_),(7,_)],[]⟩ rfl (Fin.then (ab.seq (ab.block (ab.seq (ab.aa ?_))))))
   obtain ⟨x_2,e6,h4⟩:=aE h4
   refine Oc (ef ju (bp e6) (fZ (e:=au) e6) rfl rfl) (Oc (vo ao rfl rfl rfl) (Oc (aA (k:=101) bx rfl) (Oc (ag ao rfl rfl rfl rfl (Nat.le_of_ble_eq_true rfl) rfl) ?_)))
   refine ad.aj ⟨[(4,Pt 101 0),(5,_),(6,_),(7,_)],[(101,.box 25 (au x_2))]⟩ rfl (ab.seq (ab.aa ?_))
   refine Oc (af ji rfl rfl) (Oc (ax cC rfl rfl rfl) (Oc om ?_))
   refine cN (!x_2.Bad) [] (fun g7=>trivial) (fun g7=>lp ao) ?_
   obtain ⟨x_3,e9,h4⟩:=aE h4
   refine cN (!x_2.Bad) [14] (fun g8=>⟨g8,trivial⟩) (fun g8=>ae (rD (gc e9 g8)) AS rfl rfl) (cN (!x_2.Bad) [15] (fun g10=>⟨g10,trivial⟩) (fun g10=>bq rfl) (Oc (aU (fun e=>by rw [e]; rfl) rfl rfl rfl rfl) (ad.aj ⟨[(5,_),(6,_),(7,_),(17,B (x_2.Bad || (!x_3)))],[]⟩ rfl (ab.ite h4 rfl (fun _ h4=>?_) (fun _ h4=>?_)))))
   ·refine ab.seq (ab.aa ?_)
    refine Oc oa (ad.aj ⟨[(2,B false)],[]⟩ rfl (ab.ret (Fin.aL (Fin.ar ?_))))
    obtain rfl:=hy5 _ (Option.some.inj h4).symm
    refine Fin.ar (Fin.aL (Fin.ar ?_))
    obtain rfl:=Option.some.inj h
    refine Fin.ah ⟨[(2,_)],[]⟩ rfl (Fin.aq [.one (.bool false)] (.inl rfl) rfl (.cons (.tmp rfl) .nil) ⟨rfl,rfl⟩)
   ·refine ab.skip (Fin.aH (Fin.ah ⟨[(5,_),(6,_),(7,_)],[]⟩ rfl (Fin.then (ab.aa ?_))))
    refine Oc (bb rfl rfl) (Oc om ?_)
    refine ad.nil ?_
    exact Fin.bR [5,6,7] [] (IntKind.i64.wrap (x_1 + 1)) (Option.some.inj h4) rfl
  ·refine ab.exit (Fin.aG ?_)
   obtain rfl:=hy5 _ (Option.some.inj h4).symm
   refine Fin.aG (Fin.aY ?_)
   exact Fin.join [] [] () rfl rfl
 ·rintro _ hv
  subst v1
  refine ab.seq (ab.aa ?_)
  refine Oc oa (ad.aj ⟨[(2,B true)],[]⟩ rfl (ab.ret ?_))
  obtain rfl:=Option.some.inj h
  refine Fin.ah ⟨[(2,_)],[]⟩ rfl (Fin.aq [.one (.bool true)] (.inl rfl) rfl (.cons (.tmp rfl) .nil) ⟨rfl,rfl⟩)
def hE (F:Nat) (x0:bt):Option Int :=
 (eL F [x0]).bind fun x_1=>if ((!x_1) || (decide (x0.W = aP.zero))) = true then (some 0) else (if x0.Neg = true then (some (-1)) else (some 1))
theorem kh {F:Nat} {x0:bt} {r:Int} (h:hE F x0 = some r):az Tryz.prog (bj mx) 90 [] [.agg (au x0)] (Is [] (.b (.one (.i r)))):=by
 unfold hE at h
 refine az.intro 17 Tryz.func90 Tryz.ntmps90 rfl (by simp) fun E=>?_
 show ab _ E ⟨17,[],[]⟩ _ ⟨[(0,.b (.agg (au x0)))],[]⟩ _
 refine ab.seq (ab.aa ?_)
 refine Oc (aS (k:=101) rfl rfl) (Oc oa ?_)
 refine ad.aj ⟨[(1,Pt 101 0)],[(101,.box 25 (au x0))]⟩ rfl (ab.seq (ab.block (ab.seq (ab.aa ?_))))
 refine Oc (lp ao) (Oc (br (k:=102) (es:=[x0].map au) ju rfl rfl (c5 fun _=>rfl) rfl (by decide) (by decide) rfl) ?_)
 obtain ⟨x_1,e1,h⟩:=aE h
 refine Oc (eQ (fc e1) jV rfl CP.dJ) (Oc (bq rfl) ?_)
 refine ad.ah ⟨[(1,_),(7,B (!x_1))],[(101,_)]⟩ rfl (Oc om (cN (!(!x_1)) [] (fun g2=>by exact trivial) (fun g2=>af ba rfl rfl) (cN (!(!x_1)) [9] (fun g3=>by exact ⟨g3,trivial⟩) (fun g3=>lp aK) (cN (!(!x_1)) [] (fun g4=>by exact trivial) (fun g4=>fg gh rfl rfl) (cN (!(!x_1)) [10,11] (fun g5=>by exact ⟨g5,g5,trivial⟩) (fun g5=>eH (nF x0.W aP.zero) rfl rfl) ?_)))))
 refine Oc (aU (fun e=>by rw [e]; rfl) rfl rfl rfl rfl) (Oc oa ?_)
 refine ad.aj ⟨[(1,_),(3,B ((!x_1) || (decide (x0.W = aP.zero))))],[(101,_)]⟩ rfl (ab.ite h rfl (fun _ h=>?_) (fun _ h=>?_))
 ·refine ab.seq (ab.aa ?_)
  refine Oc oa (ad.aj ⟨[(2,I 0)],[]⟩ rfl (ab.ret (Fin.aL (Fin.ar ?_))))
  obtain rfl:=Option.some.inj h
  refine Fin.ah ⟨[(2,_)],[]⟩ rfl (Fin.aq [.one (.i 0)] (.inl rfl) rfl (.cons (.tmp rfl) .nil) ⟨rfl,rfl⟩)
 ·refine ab.seq (ab.aa ?_)
  refine Oc (af bM rfl rfl) (Oc (ax cC rfl rfl rfl) (Oc oa ?_))
  refine ad.aj ⟨[(14,B x0.Neg)],[]⟩ rfl (ab.ite h rfl (fun _ h=>?_) (fun _ h=>?_))
  ·refine ab.seq (ab.aa ?_)
   refine Oc oa (ad.aj ⟨[(2,I (-1))],[]⟩ rfl (ab.ret (Fin.aL (Fin.ar ?_))))
   obtain rfl:=Option.some.inj h
   refine Fin.ah ⟨[(2,_)],[]⟩ rfl (Fin.aq [.one (.i (-1))] (.inl rfl) rfl (.cons (.tmp rfl) .nil) ⟨rfl,rfl⟩)
  ·refine ab.skip (Fin.aH (Fin.ah ⟨[],[]⟩ rfl (Fin.then (ab.seq (ab.aa ?_)))))
   refine Oc oa (ad.aj ⟨[(2,I 1)],[]⟩ rfl (ab.ret ?_))
   obtain rfl:=Option.some.inj h
   refine Fin.ah ⟨[(2,_)],[]⟩ rfl (Fin.aq [.one (.i 1)] (.inl rfl) rfl (.cons (.tmp rfl) .nil) ⟨rfl,rfl⟩)
def fV (F:Nat):Option bt :=
 some (⟨true,false,aP.zero⟩:bt)
theorem ec {F:Nat} {r:bt} (h:fV F = some r):az Tryz.prog (bj mx) 136 [] [] (Is [] (.b (.agg (au r)))):=by
 unfold fV at h
 refine az.intro 2 Tryz.func136 Tryz.ntmps136 rfl (by simp) fun E=>?_
 show ab _ E ⟨2,[],[]⟩ _ ⟨[],[]⟩ _
 refine ab.seq (ab.aa ?_)
 refine Oc (aA (k:=101) bx rfl) (ad.aj ⟨[(0,Pt 101 0)],[(101,.box 25 cO)]⟩ rfl (ab.seq (ab.aa ?_)))
 refine Oc (aV pQ rfl rfl) (Oc (ag ao rfl rfl rfl rfl (Nat.le_of_ble_eq_true rfl) rfl) ?_)
 refine ad.aj ⟨[(0,_)],[(101,.box 25 (.bool true :: .bool false :: (eW aP.zero)))]⟩ rfl (ab.ret ?_)
 obtain rfl:=Option.some.inj h
 refine Fin.ah ⟨[(0,_)],[(101,_)]⟩ rfl (Fin.aq [.agg (.bool true :: .bool false :: (eW aP.zero))] (.inl rfl) rfl (.cons (.agg ao rfl rfl rfl rfl) .nil) ⟨rfl,rfl⟩)
def hC (F:Nat) (w0:aP):Option Int :=
 Option.bind (iter F (fun n_2=>(bA (decide (0 < n_2)) (bB w0.l (IntKind.i64.wrap (n_2 - 1)))).bind fun x_4=>if ((decide (0 < n_2)) && (decide (x_4 = 0))) = true then (some (.inl (IntKind.i64.wrap (n_2 - 1)))) else (some (.inr n_2))) 16) (fun n_1=>some n_1)
theorem ig {F:Nat} {w0:aP} {r:Int} (h:hC F w0 = some r):az Tryz.prog (bj mx) 137 [] [.agg (eW w0)] (Is [] (.b (.one (.i r)))):=by
 unfold hC at h
 refine az.intro 16 Tryz.func137 Tryz.ntmps137 rfl (by simp) fun E=>?_
 show ab _ E ⟨16,[],[]⟩ _ ⟨[(0,.b (.agg (eW w0)))],[]⟩ _
 refine ab.seq (ab.aa ?_)
 refine Oc (aS (k:=101) rfl rfl) (Oc oa ?_)
 refine ad.aj ⟨[(1,Pt 101 0)],[(101,.box 23 (eW w0))]⟩ rfl (ab.seq (ab.aa ?_))
 refine Oc oa (ad.aj ⟨[(1,_),(3,I 16)],[(101,_)]⟩ rfl ?_)
 obtain ⟨v1,h2,h⟩:=aE h
 refine ab.cB (v:=v1) (fun (n_1:Int)=>⟨[(3,I n_1)],[]⟩) (fun z=>z) ?_ ?_
 ·refine ab.block (ab.cS h2 (fun (n_2:Int)=>⟨[(1,Pt 101 0),(3,I n_2)],[(101,.box 23 (eW w0))]⟩) [1,3] [101] rfl ?_)
  rintro n_2 o3 h4 hy5
  refine ab.seq (ab.seq (ab.aa ?_))
  refine Oc om (Oc (dB rfl rfl) (Oc om ?_))
  refine bU (decide (0 < n_2)) [] (fun g6=>trivial) (fun g6=>om) (bU (decide (0 < n_2)) [7] (fun g7=>by exact ⟨g7,trivial⟩) (fun g7=>bX rfl rfl) ?_)
  obtain ⟨x_4,e9,h4⟩:=aE h4
  refine bU (decide (0 < n_2)) [8] (fun g8=>⟨g8,trivial⟩) (fun g8=>aN bE (bp (gc e9 g8)) (b9 (gc e9 g8)) rfl rfl rfl) (bU (decide (0 < n_2)) [9] (fun g10=>⟨g10,trivial⟩) (fun g10=>ax bl rfl rfl (cc (post:=[]) (k:=.u32) [] (gc e9 g10) rfl rfl rfl)) (bU (decide (0 < n_2)) [10] (fun g11=>⟨g11,trivial⟩) (fun g11=>cy rfl rfl) (Oc (aD (fun e=>e) rfl rfl rfl rfl) (ad.aj ⟨[(1,_),(3,_),(12,B ((decide (0 < n_2)) && (decide (x_4 = 0))))],[(101,_)]⟩ rfl (ab.ite h4 rfl (fun _ h4=>?_) (fun _ h4=>?_))))))
  ·refine ab.skip (Fin.ah ⟨[(1,_),(3,_)],[(101,_)]⟩ rfl (Fin.then (ab.block (ab.aa ?_))))
   refine Oc om (Oc (bX rfl rfl) (Oc oa ?_))
   refine ad.nil (Fin.aH ?_)
   exact Fin.bR [1,3] [101] (IntKind.i64.wrap (n_2 - 1)) (Option.some.inj h4) rfl
  ·refine ab.exit (Fin.aG ?_)
   obtain rfl:=hy5 _ (Option.some.inj h4).symm
   refine Fin.aG (Fin.aY ?_)
   exact Fin.join [3] [] n_2 rfl rfl
 ·rintro n_1 hv
  subst v1
  refine ab.seq (ab.aa ?_)
  refine Oc om (Oc oa ?_)
  refine ad.aj ⟨[(2,I n_1)],[]⟩ rfl (ab.ret ?_)
  obtain rfl:=Option.some.inj h
  refine Fin.ah ⟨[(2,_)],[]⟩ rfl (Fin.aq [.one (.i n_1)] (.inl rfl) rfl (.cons (.tmp rfl) .nil) ⟨rfl,rfl⟩)
def cL (F:Nat) (neg0:Bool) (w0:aP):Option bt :=
 some (⟨false,neg0 && (decide (w0 ≠ aP.zero)),w0⟩:bt)
theorem cJ {F:Nat} {neg0:Bool} {w0:aP} {r:bt} (h:cL F neg0 w0 = some r):az Tryz.prog (bj mx) 135 [] [.one (.bool neg0),.agg (eW w0)] (Is [] (.b (.agg (au r)))):=by
 unfold cL at h
 refine az.intro 13 Tryz.func135 Tryz.ntmps135 rfl (by simp) fun E=>?_
 show ab _ E ⟨13,[],[]⟩ _ ⟨[(0,B neg0),(1,.b (.agg (eW w0)))],[]⟩ _
 refine ab.seq (ab.aa ?_)
 refine Oc (aS (k:=101) rfl rfl) (Oc (aA (k:=102) bx rfl) ?_)
 refine ad.aj ⟨[(0,B neg0),(3,Pt 101 0),(4,Pt 102 0)],[(101,.box 23 (eW w0)),(102,.box 25 cO)]⟩ rfl (ab.seq (ab.bP mixed 8 [B neg0,B neg0,.dA neg0 (.agg (eW w0)),.dA neg0 (.agg (eW aP.zero)),.dA neg0 (.one (.bool (decide (w0 ≠ aP.zero)))),B (neg0 && (decide (w0 ≠ aP.zero))),.b (.agg (eW w0)),.b (.agg (.bool false :: .bool (neg0 && (decide (w0 ≠ aP.zero))) :: (eW w0)))] [4] [102] (s':=⟨[(4,_)],[(102,.box 25 (.bool false :: .bool (neg0 && (decide (w0 ≠ aP.zero))) :: (eW w0)))]⟩) rfl ⟨fun _=>.p om,fun _=>.p om,fun _=>by exact .guard neg0 1 [] (.plain rfl) (ob _) rfl rfl (fun g1=>trivial) (fun g1=>lp aK),fun _=>by exact .guard neg0 1 [] (.plain rfl) (ob _) rfl rfl (fun g2=>trivial) (fun g2=>fg gh rfl rfl),fun _=>by exact .guard neg0 3 [7,8] (.plain rfl) (ob _) rfl rfl (fun g3=>⟨g3,g3,trivial⟩) (fun g3=>hZ (nF w0 aP.zero) rfl rfl l5),fun _=>.p (aD (fun e=>e) rfl rfl rfl rfl),fun _=>.p (lp aK),fun _=>.p (aV pQ rfl rfl),trivial⟩ ⟨_,by exact .p (ag ao rfl rfl rfl rfl (Nat.le_of_ble_eq_true rfl) rfl),rfl⟩ rfl (ab.ret ?_)))
 obtain rfl:=Option.some.inj h
 refine Fin.ah ⟨[(4,_)],[(102,_)]⟩ rfl (Fin.aq [.agg (.bool false :: .bool (neg0 && (decide (w0 ≠ aP.zero))) :: (eW w0))] (.inl rfl) rfl (.cons (.agg ao rfl rfl rfl rfl) .nil) ⟨rfl,rfl⟩)
def kn (F:Nat) (x0:Int):Option Bool :=
 some (decide (x0 ≠ x0))
theorem pq {F:Nat} {x0:Int} {r:Bool} (h:kn F x0 = some r):az Tryz.prog (bj mx) 203 [] [.one (.int .u32 x0)] (Is [] (.b (.one (.bool r)))):=by
 unfold kn at h
 refine az.intro 6 Tryz.func203 Tryz.ntmps203 rfl (by simp) fun E=>?_
 show ab _ E ⟨6,[],[]⟩ _ ⟨[(0,.b (.one (.int .u32 x0)))],[]⟩ _
 refine ab.seq (ab.aa ?_)
 refine Oc oa (ad.aj ⟨[(0,.b (.one (.int .u32 x0)))],[]⟩ rfl (ab.seq (ab.aa ?_)))
 refine Oc om (Oc om (Oc (dY rfl rfl) (Oc oa ?_)))
 refine ad.aj ⟨[(2,B (decide (x0 ≠ x0)))],[]⟩ rfl (ab.ret ?_)
 obtain rfl:=Option.some.inj h
 refine Fin.ah ⟨[(2,_)],[]⟩ rfl (Fin.aq [.one (.bool (decide (x0 ≠ x0)))] (.inl rfl) rfl (.cons (.tmp rfl) .nil) ⟨rfl,rfl⟩)
def iT (F:Nat) (x0:Int) (y0:Int):Option Int :=
 (kn F x0).bind fun x_1=>(kn F y0).bind fun x_2=>if x_1 = true then (if x_2 = true then (some 0) else (some (-1))) else (if x_2 = true then (some 1) else (if (decide (x0 < y0)) = true then (some (-1)) else (if (decide (y0 < x0)) = true then (some 1) else (some 0))))
theorem sn {F:Nat} {x0:Int} {y0:Int} {r:Int} (h:iT F x0 y0 = some r):az Tryz.prog (bj mx) 183 [] [.one (.int .u32 x0),.one (.int .u32 y0)] (Is [] (.b (.one (.i r)))):=by
 unfold iT at h
 refine az.intro 20 Tryz.func183 Tryz.ntmps183 rfl (by simp) fun E=>?_
 show ab _ E ⟨20,[],[]⟩ _ ⟨[(0,.b (.one (.int .u32 x0))),(1,.b (.one (.int .u32 y0)))],[]⟩ _
 refine ab.seq (ab.aa ?_)
 refine Oc oa (ad.aj ⟨[(0,.b (.one (.int .u32 x0))),(1,.b (.one (.int .u32 y0)))],[]⟩ rfl (ab.seq (ab.aa ?_)))
 refine Oc om ?_
 obtain ⟨x_1,e1,h⟩:=aE h
 refine Oc (ae (pq e1) AK rfl rfl) (Oc oa ?_)
 refine ad.aj ⟨[(0,_),(1,_),(5,B x_1)],[]⟩ rfl (ab.seq (ab.aa ?_))
 refine Oc om ?_
 obtain ⟨x_2,e2,h⟩:=aE h
 refine Oc (ae (pq e2) AK rfl rfl) (Oc oa ?_)
 refine ad.aj ⟨[(0,_),(1,_),(5,_),(6,B x_2)],[]⟩ rfl (ab.seq (ab.seq (ab.aa ?_)))
 refine Oc om (ad.aj ⟨[(0,_),(1,_),(6,_),(11,B x_1)],[]⟩ rfl (ab.ite h rfl (fun _ h=>?_) (fun _ h=>?_)))
 ·refine ab.seq (ab.seq (ab.aa ?_))
  refine Oc om (ad.aj ⟨[(12,B x_2)],[]⟩ rfl (ab.ite h rfl (fun _ h=>?_) (fun _ h=>?_)))
  ·refine ab.seq (ab.aa ?_)
   refine Oc oa (ad.aj ⟨[(4,I 0)],[]⟩ rfl (ab.ret (Fin.ar (Fin.ar ?_))))
   obtain rfl:=Option.some.inj h
   refine Fin.ah ⟨[(4,_)],[]⟩ rfl (Fin.aq [.one (.i 0)] (.inl rfl) rfl (.cons (.tmp rfl) .nil) ⟨rfl,rfl⟩)
  ·refine ab.skip (Fin.ah ⟨[],[]⟩ rfl (Fin.then (ab.seq (ab.aa ?_))))
   refine Oc oa (ad.aj ⟨[(4,I (-1))],[]⟩ rfl (ab.ret (Fin.ar ?_)))
   obtain rfl:=Option.some.inj h
   refine Fin.ah ⟨[(4,_)],[]⟩ rfl (Fin.aq [.one (.i (-1))] (.inl rfl) rfl (.cons (.tmp rfl) .nil) ⟨rfl,rfl⟩)
 ·refine ab.skip (Fin.ah ⟨[(0,_),(1,_),(6,_)],[]⟩ rfl (Fin.then (ab.seq (ab.seq (ab.aa ?_)))))
  refine Oc om (ad.aj ⟨[(0,_),(1,_),(13,B x_2)],[]⟩ rfl (ab.ite h rfl (fun _ h=>?_) (fun _ h=>?_)))
  ·refine ab.seq (ab.aa ?_)
   refine Oc oa (ad.aj ⟨[(4,I 1)],[]⟩ rfl (ab.ret (Fin.ar ?_)))
   obtain rfl:=Option.some.inj h
   refine Fin.ah ⟨[(4,_)],[]⟩ rfl (Fin.aq [.one (.i 1)] (.inl rfl) rfl (.cons (.tmp rfl) .nil) ⟨rfl,rfl⟩)
  ·refine ab.skip (Fin.ah ⟨[(0,_),(1,_)],[]⟩ rfl (Fin.then (ab.seq (ab.seq (ab.aa ?_)))))
   refine Oc om (Oc om (Oc (bK rfl rfl) ?_))
   refine ad.aj ⟨[(0,_),(1,_),(16,B (decide (x0 < y0)))],[]⟩ rfl (ab.ite h rfl (fun _ h=>?_) (fun _ h=>?_))
   ·refine ab.seq (ab.aa ?_)
    refine Oc oa (ad.aj ⟨[(4,I (-1))],[]⟩ rfl (ab.ret (Fin.ar ?_)))
    obtain rfl:=Option.some.inj h
    refine Fin.ah ⟨[(4,_)],[]⟩ rfl (Fin.aq [.one (.i (-1))] (.inl rfl) rfl (.cons (.tmp rfl) .nil) ⟨rfl,rfl⟩)
   ·refine ab.skip (Fin.ah ⟨[(0,_),(1,_)],[]⟩ rfl (Fin.then (ab.seq (ab.seq (ab.aa ?_)))))
    refine Oc om (Oc om (Oc (dB rfl rfl) ?_))
    refine ad.aj ⟨[(19,B (decide (y0 < x0)))],[]⟩ rfl (ab.ite h rfl (fun _ h=>?_) (fun _ h=>?_))
    ·refine ab.seq (ab.aa ?_)
     refine Oc oa (ad.aj ⟨[(4,I 1)],[]⟩ rfl (ab.ret (Fin.ar ?_)))
     obtain rfl:=Option.some.inj h
     refine Fin.ah ⟨[(4,_)],[]⟩ rfl (Fin.aq [.one (.i 1)] (.inl rfl) rfl (.cons (.tmp rfl) .nil) ⟨rfl,rfl⟩)
    ·refine ab.skip (Fin.ah ⟨[],[]⟩ rfl (Fin.then (ab.seq (ab.aa ?_))))
     refine Oc oa (ad.aj ⟨[(4,I 0)],[]⟩ rfl (ab.ret ?_))
     obtain rfl:=Option.some.inj h
     refine Fin.ah ⟨[(4,_)],[]⟩ rfl (Fin.aq [.one (.i 0)] (.inl rfl) rfl (.cons (.tmp rfl) .nil) ⟨rfl,rfl⟩)
def kS (F:Nat) (a0:aP) (b0:aP):Option Int :=
 Option.bind (iter F (fun k_1=>if (decide (0 ≤ k_1)) = true then ((bB a0.l k_1).bind fun x_2=>(bB b0.l k_1).bind fun x_3=>if (decide (x_2 ≠ x_3)) = true then ((bB a0.l k_1).bind fun x_4=>(bB b0.l k_1).bind fun x_5=>(iT F x_4 x_5).bind fun x_6=>some (.inr (.inr x_6))) else (some (.inl (IntKind.i64.wrap (k_1 - 1))))) else (some (.inr (.inl ())))) 15) (j4 (fun _=>some 0) (fun y=>some y))
theorem rC {F:Nat} {a0:aP} {b0:aP} {r:Int} (h:kS F a0 b0 = some r):az Tryz.prog (bj mx) 142 [] [.agg (eW a0),.agg (eW b0)] (Is [] (.b (.one (.i r)))):=by
 unfold kS at h
 refine az.intro 24 Tryz.func142 Tryz.ntmps142 rfl (by simp) fun E=>?_
 show ab _ E ⟨24,[],[]⟩ _ ⟨[(0,.b (.agg (eW a0))),(1,.b (.agg (eW b0)))],[]⟩ _
 refine ab.seq (ab.aa ?_)
 refine Oc (aS (k:=101) rfl rfl) (Oc (aS (k:=102) rfl rfl) (Oc oa ?_))
 refine ad.aj ⟨[(2,Pt 101 0),(3,Pt 102 0)],[(101,.box 23 (eW a0)),(102,.box 23 (eW b0))]⟩ rfl ?_
 obtain ⟨v1,h2,h⟩:=aE h
 refine ab.cB (v:=v1) (fun (_:Unit)=>⟨[],[]⟩) (fun z=>.inl z) ?_ ?_
 ·refine ab.seq (ab.aa ?_)
  refine Oc oa (ad.aj ⟨[(2,_),(3,_),(5,I 15)],[(101,_),(102,_)]⟩ rfl (ab.block (ab.cS h2 (fun (k_1:Int)=>⟨[(2,Pt 101 0),(3,Pt 102 0),(5,I k_1)],[(101,.box 23 (eW a0)),(102,.box 23 (eW b0))]⟩) [2,3,5] [101,102] rfl ?_)))
  rintro k_1 o3 h4 hy5
  refine ab.seq (ab.seq (ab.aa ?_))
  refine Oc om (Oc (fy rfl rfl) ?_)
  refine ad.aj ⟨[(2,_),(3,_),(5,_),(7,B (decide (0 ≤ k_1)))],[(101,_),(102,_)]⟩ rfl (ab.ite h4 rfl (fun _ h4=>?_) (fun _ h4=>?_))
  ·refine ab.skip (Fin.ah ⟨[(2,_),(3,_),(5,_)],[(101,_),(102,_)]⟩ rfl (Fin.then (ab.seq (ab.block (ab.seq ?_)))))
   refine ab.ah ⟨[(2,_),(3,_),(5,_)],[(101,_),(102,_)]⟩ rfl ?_
   obtain ⟨x_2,e6,h4⟩:=aE h4
   obtain ⟨x_3,e7,h4⟩:=aE h4
   refine ab.bP mixed 7 [I k_1,.b (.ptr 101 (0 + (k_1:Int).toNat * 1)),.b (.one (.int .u32 x_2)),I k_1,.b (.ptr 102 (0 + (k_1:Int).toNat * 1)),.b (.one (.int .u32 x_3)),B (decide (x_2 ≠ x_3))] [2,3,5,16] [101,102] (s':=⟨[(2,_),(3,_),(5,_),(16,B (decide (x_2 ≠ x_3)))],[(101,_),(102,_)]⟩) rfl ⟨fun _=>.p om,fun _=>.p (aN bE (bp e6) (b9 e6) rfl rfl rfl),fun _=>.p (ax bl rfl rfl (cc (post:=[]) (k:=.u32) [] e6 rfl rfl rfl)),fun _=>.p om,fun _=>.p (aN bE (bp e7) (b9 e7) rfl rfl rfl),fun _=>.p (ax bl rfl rfl (cc (post:=[]) (k:=.u32) [] e7 rfl rfl rfl)),fun _=>.p (dY rfl rfl),trivial⟩ rfl rfl (ab.ite h4 rfl (fun _ h4=>?_) (fun _ h4=>?_))
   ·refine ab.seq (ab.ah ⟨[(2,_),(3,_),(5,_)],[(101,_),(102,_)]⟩ rfl ?_)
    obtain ⟨x_4,e8,h4⟩:=aE h4
    obtain ⟨x_5,e9,h4⟩:=aE h4
    obtain ⟨x_6,e10,h4⟩:=aE h4
    refine ab.bP mixed 8 [I k_1,.b (.ptr 101 (0 + (k_1:Int).toNat * 1)),.b (.one (.int .u32 x_4)),I k_1,.b (.ptr 102 (0 + (k_1:Int).toNat * 1)),.b (.one (.int .u32 x_5)),I x_6,I x_6] [4] [] (s':=⟨[(4,I x_6)],[]⟩) rfl ⟨fun _=>.p om,fun _=>.p (aN bE (bp e8) (b9 e8) rfl rfl rfl),fun _=>.p (ax bl rfl rfl (cc (post:=[]) (k:=.u32) [] e8 rfl rfl rfl)),fun _=>.p om,fun _=>.p (aN bE (bp e9) (b9 e9) rfl rfl rfl),fun _=>.p (ax bl rfl rfl (cc (post:=[]) (k:=.u32) [] e9 rfl rfl rfl)),fun _=>.p (ae (sn e10) goes183 rfl rfl),fun _=>.p oa,trivial⟩ rfl rfl (ab.ret (Fin.aL (Fin.ar ?_)))
    obtain rfl:=hy5 _ (Option.some.inj h4).symm
    refine Fin.ar (Fin.aL (Fin.ar ?_))
    obtain rfl:=Option.some.inj h
    refine Fin.ah ⟨[(4,_)],[]⟩ rfl (Fin.aq [.one (.i x_6)] (.inl rfl) rfl (.cons (.tmp rfl) .nil) ⟨rfl,rfl⟩)
   ·refine ab.skip (Fin.aH (Fin.ah ⟨[(2,_),(3,_),(5,_)],[(101,_),(102,_)]⟩ rfl (Fin.then (ab.aa ?_))))
    refine Oc om (Oc (bX rfl rfl) (Oc oa ?_))
    refine ad.nil ?_
    exact Fin.bR [2,3,5] [101,102] (IntKind.i64.wrap (k_1 - 1)) (Option.some.inj h4) rfl
  ·refine ab.exit (Fin.aG ?_)
   obtain rfl:=hy5 _ (Option.some.inj h4).symm
   refine Fin.aG (Fin.aY ?_)
   exact Fin.join [] [] () rfl rfl
 ·rintro _ hv
  subst v1
  refine ab.seq (ab.aa ?_)
  refine Oc oa (ad.aj ⟨[(4,I 0)],[]⟩ rfl (ab.ret ?_))
  obtain rfl:=Option.some.inj h
  refine Fin.ah ⟨[(4,_)],[]⟩ rfl (Fin.aq [.one (.i 0)] (.inl rfl) rfl (.cons (.tmp rfl) .nil) ⟨rfl,rfl⟩)
def kR (F:Nat) (a0:aP) (b0:Int):Option (aP × Int) :=
 Option.bind (iter F (kA fun q_3 r_4 k_5=>if (decide (0 ≤ k_5)) = true then ((bB a0.l k_5).bind fun x_8=>bD (lU .u64 (IntKind.u64.wrap (r_4 * 4294967296)) (IntKind.u64.wrap x_8)) fun x_9=>(k7 .u64 x_9 (IntKind.u64.wrap b0)).bind fun x_10=>(bB q_3.l k_5).bind fun x_11=>(tC x_9 (IntKind.u64.wrap b0)).bind fun x_12=>some (.inl (q_3.set k_5 (IntKind.u32.wrap x_10),x_12,IntKind.i64.wrap (k_5 - 1)))) else (some (.inr (q_3,r_4)))) (aP.zero,0,15)) (b7 fun q_1 r_2=>some (q_1,IntKind.u32.wrap r_2))
theorem rB {F:Nat} {a0:aP} {b0:Int} {r:aP × Int} (h:kR F a0 b0 = some r):az Tryz.prog (bj mx) 125 [] [.agg (eW a0),.one (.int .u32 b0)] (Is [] (.fE [.agg (eW r.1),.one (.int .u32 r.2)])):=by
 unfold kR at h
 refine az.intro 33 Tryz.func125 Tryz.ntmps125 rfl (by simp) fun E=>?_
 show ab _ E ⟨33,[],[]⟩ _ ⟨[(0,.b (.agg (eW a0))),(1,.b (.one (.int .u32 b0)))],[]⟩ _
 refine ab.seq (ab.aa ?_)
 refine Oc (aS (k:=101) rfl rfl) (Oc (aA (k:=102) cD rfl) (Oc oa ?_))
 refine ad.aj ⟨[(1,.b (.one (.int .u32 b0))),(2,Pt 101 0),(4,Pt 102 0)],[(101,.box 23 (eW a0)),(102,.box 23 (eW aP.zero))]⟩ rfl (ab.seq (ab.aa ?_))
 refine Oc oa (ad.aj ⟨[(1,_),(2,_),(4,_),(6,.b (.one (.int .u64 0)))],[(101,_),(102,_)]⟩ rfl ?_)
 obtain ⟨v1,h2,h⟩:=aE h
 refine ab.cB (v:=v1) (b7 fun (q_1:aP) (r_2:Int)=>⟨[(4,Pt 102 0),(6,.b (.one (.int .u64 r_2)))],[(102,.box 23 (eW q_1))]⟩) (fun z=>z) ?_ ?_
 ·refine ab.seq (ab.aa ?_)
  refine Oc oa (ad.aj ⟨[(1,_),(2,_),(4,_),(6,_),(7,I 15)],[(101,_),(102,_)]⟩ rfl (ab.block (ab.cS h2 (kA fun (q_3:aP) (r_4:Int) (k_5:Int)=>⟨[(1,.b (.one (.int .u32 b0))),(2,Pt 101 0),(4,Pt 102 0),(6,.b (.one (.int .u64 r_4))),(7,I k_5)],[(101,.box 23 (eW a0)),(102,.box 23 (eW q_3))]⟩) [1,2,4,6,7] [101,102] rfl ?_)))
  rintro ⟨q_3,r_4,k_5⟩ o3 h4 hy5
  refine ab.seq (ab.seq (ab.aa ?_))
  refine Oc om (Oc (fy rfl rfl) ?_)
  refine ad.aj ⟨[(1,_),(2,_),(4,_),(6,_),(7,_),(9,B (decide (0 ≤ k_5)))],[(101,_),(102,_)]⟩ rfl (ab.ite h4 rfl (fun _ h4=>?_) (fun _ h4=>?_))
  ·refine ab.skip (Fin.ah ⟨[(1,_),(2,_),(4,_),(6,_),(7,_)],[(101,_),(102,_)]⟩ rfl (Fin.then (ab.seq (ab.block (ab.seq (ab.aa ?_))))))
   refine Oc om (Oc (ns (m:=32) (q:=4294967296) (by decide) rfl rfl (by decide)) (Oc om ?_))
   obtain ⟨x_8,e6,h4⟩:=aE h4
   refine Oc (aN bE (bp e6) (b9 e6) rfl rfl rfl) (Oc (ax bl rfl rfl (cc (post:=[]) (k:=.u32) [] e6 rfl rfl rfl)) (Oc (aF bG bu rfl) ?_))
   refine ad.cp .u64 h4 rfl (ss rfl rfl) (fun x_9 h4=>?_)
   refine Oc oa (ad.aj ⟨[(1,_),(2,_),(4,_),(6,.b (.one (.int .u64 x_9))),(7,_)],[(101,_),(102,_)]⟩ rfl (ab.seq (ab.aa ?_)))
   refine Oc om (Oc om (Oc om (Oc (aF bG bu rfl) ?_)))
   obtain ⟨x_10,e7,h4⟩:=aE h4
   refine Oc (fw e7 rfl rfl) (Oc (aF bu bG rfl) ?_)
   obtain ⟨x_11,e8,h4⟩:=aE h4
   refine Oc (aN bE (bp e8) (b9 e8) rfl rfl rfl) (Oc (bQ bl rfl rfl rfl (jr (post:=[]) (k:=.u32) [] e8 rfl rfl rfl) (gW (post:=[]) (k:=.u32) [] e8 rfl rfl (aP.iO q_3 k_5 (IntKind.u32.wrap x_10)) rfl rfl)) ?_)
   refine ad.aj ⟨[(1,_),(2,_),(4,_),(6,_),(7,_)],[(101,_),(102,.box 23 (eW (q_3.set k_5 (IntKind.u32.wrap x_10))))]⟩ rfl (ab.aa (Oc om (Oc om (Oc (aF bG bu rfl) ?_))))
   obtain ⟨x_12,e9,h4⟩:=aE h4
   refine Oc (pB e9 rfl rfl) (Oc oa ?_)
   refine ad.nil (Fin.aH (Fin.ah ⟨[(1,_),(2,_),(4,_),(6,.b (.one (.int .u64 x_12))),(7,_)],[(101,_),(102,_)]⟩ rfl (Fin.then (ab.aa ?_))))
   refine Oc om (Oc (bX rfl rfl) (Oc oa ?_))
   refine ad.nil ?_
   exact Fin.bR [1,2,4,6,7] [101,102] (q_3.set k_5 (IntKind.u32.wrap x_10),x_12,IntKind.i64.wrap (k_5 - 1)) (Option.some.inj h4) rfl
  ·refine ab.exit (Fin.aG ?_)
   obtain rfl:=hy5 _ (Option.some.inj h4).symm
   refine Fin.aG (Fin.aY ?_)
   exact Fin.join [4,6] [102] (q_3,r_4) rfl rfl
 ·rintro ⟨q_1,r_2⟩ hv
  subst v1
  refine ab.seq (ab.aa ?_)
  refine Oc (lp aK) (Oc om (Oc (aF bu bG rfl) (Oc (ag aK rfl rfl rfl rfl (Nat.le_of_ble_eq_true rfl) rfl) (Oc oa ?_))))
  refine ad.aj ⟨[(4,_),(5,.b (.one (.int .u32 (IntKind.u32.wrap r_2))))],[(102,_)]⟩ rfl (ab.ret ?_)
  obtain rfl:=Option.some.inj h
  refine Fin.ah ⟨[(4,_),(5,_)],[(102,_)]⟩ rfl (Fin.aq [.agg (eW q_1),.one (.int .u32 (IntKind.u32.wrap r_2))] (.inl rfl) rfl (.cons (.agg aK rfl rfl rfl rfl) (.cons (.tmp rfl) .nil)) ⟨rfl,rfl⟩)
def iG (F:Nat) (x0:Int):Option Int :=
 Option.bind (if (decide (65536 ≤ x0)) = true then (some (x0 / 65536,16)) else (some (x0,0))) (b7 fun x_1 n_2=>Option.bind (if (decide (256 ≤ x_1)) = true then (some (x_1 / 256,IntKind.i64.wrap (n_2 + 8))) else (some (x_1,n_2))) (b7 fun x_3 n_4=>(bB ([0,1,2,2,3,3,3,3,4,4,4,4,4,4,4,4,5,5,5,5,5,5,5,5,5,5,5,5,5,5,5,5,6,6,6,6,6,6,6,6,6,6,6,6,6,6,6,6,6,6,6,6,6,6,6,6,6,6,6,6,6,6,6,6,7,7,7,7,7,7,7,7,7,7,7,7,7,7,7,7,7,7,7,7,7,7,7,7,7,7,7,7,7,7,7,7,7,7,7,7,7,7,7,7,7,7,7,7,7,7,7,7,7,7,7,7,7,7,7,7,7,7,7,7,7,7,7,7,8,8,8,8,8,8,8,8,8,8,8,8,8,8,8,8,8,8,8,8,8,8,8,8,8,8,8,8,8,8,8,8,8,8,8,8,8,8,8,8,8,8,8,8,8,8,8,8,8,8,8,8,8,8,8,8,8,8,8,8,8,8,8,8,8,8,8,8,8,8,8,8,8,8,8,8,8,8,8,8,8,8,8,8,8,8,8,8,8,8,8,8,8,8,8,8,8,8,8,8,8,8,8,8,8,8,8,8,8,8,8,8,8,8,8,8,8,8,8,8,8,8,8,8,8,8,8,8]:bg) (IntKind.u8.wrap x_3)).bind fun x_5=>bD (IntKind.i64.wrap (n_4 + (IntKind.i64.wrap (x_5.toNat:Int)))) fun x_6=>some x_6))
theorem n6 {F:Nat} {x0:Int} {r:Int} (h:iG F x0 = some r):az Tryz.prog (bj mx) 201 [] [.one (.int .u32 x0)] (Is [] (.b (.one (.i r)))):=by
 unfold iG at h
 refine az.intro 19 Tryz.func201 Tryz.ntmps201 rfl (by simp) fun E=>?_
 show ab _ E ⟨19,[],[]⟩ _ ⟨[(0,.b (.one (.int .u32 x0)))],[]⟩ _
 refine ab.seq (ab.aa ?_)
 refine Oc oa (ad.aj ⟨[(0,.b (.one (.int .u32 x0))),(2,I 0)],[]⟩ rfl ?_)
 obtain ⟨v1,h2,h⟩:=aE h
 refine ab.cB (v:=v1) (b7 fun (x_1:Int) (n_2:Int)=>⟨[(0,.b (.one (.int .u32 x_1))),(2,I n_2)],[]⟩) (fun z=>z) ?_ ?_
 ·refine ab.seq (ab.aa ?_)
  refine Oc om (Oc (fy rfl rfl) ?_)
  refine ad.aj ⟨[(0,_),(2,_),(4,B (decide (65536 ≤ x0)))],[]⟩ rfl (ab.ite h2 rfl (fun _ h2=>?_) (fun _ h2=>?_))
  ·refine ab.seq (ab.aa ?_)
   refine Oc om (Oc (iW (m:=16) (by decide) rfl rfl rfl) (Oc oa ?_))
   refine ad.aj ⟨[(0,.b (.one (.int .u32 (x0 / 65536))))],[]⟩ rfl (ab.aa (Oc oa (ad.nil ?_)))
   exact Fin.join [0,2] [] (x0 / 65536,16) (Option.some.inj h2) rfl
  ·refine ab.skip ?_
   exact Fin.join [0,2] [] (x0,0) (Option.some.inj h2) rfl
 ·rintro ⟨x_1,n_2⟩ hv
  subst v1
  obtain ⟨v3,h4,h⟩:=aE h
  refine ab.cB (v:=v3) (b7 fun (x_3:Int) (n_4:Int)=>⟨[(0,.b (.one (.int .u32 x_3))),(2,I n_4)],[]⟩) (fun z=>z) ?_ ?_
  ·refine ab.seq (ab.aa ?_)
   refine Oc om (Oc (fy rfl rfl) ?_)
   refine ad.aj ⟨[(0,_),(2,_),(8,B (decide (256 ≤ x_1)))],[]⟩ rfl (ab.ite h4 rfl (fun _ h4=>?_) (fun _ h4=>?_))
   ·refine ab.seq (ab.aa ?_)
    refine Oc om (Oc (iW (m:=8) (by decide) rfl rfl rfl) (Oc oa ?_))
    refine ad.aj ⟨[(0,.b (.one (.int .u32 (x_1 / 256)))),(2,_)],[]⟩ rfl (ab.aa (Oc om (Oc (bb rfl rfl) (Oc oa ?_))))
    refine ad.nil ?_
    exact Fin.join [0,2] [] (x_1 / 256,IntKind.i64.wrap (n_2 + 8)) (Option.some.inj h4) rfl
   ·refine ab.skip ?_
    exact Fin.join [0,2] [] (x_1,n_2) (Option.some.inj h4) rfl
  ·rintro ⟨x_3,n_4⟩ hv
   subst v3
   refine ab.seq (ab.aa ?_)
   refine Oc om (Oc om (Oc (aF bG u4 rfl) ?_))
   obtain ⟨x_5,e5,h⟩:=aE h
   refine Oc (cf eg rfl rfl (bp e5) (gf e5)) (Oc (aF u4 lc rfl) ?_)
   refine ad.cp .i64 h rfl (bb rfl rfl) (fun x_6 h=>?_)
   refine Oc oa (ad.aj ⟨[(2,I x_6)],[]⟩ rfl (ab.ret ?_))
   obtain rfl:=Option.some.inj h
   refine Fin.ah ⟨[(2,_)],[]⟩ rfl (Fin.aq [.one (.i x_6)] (.inl rfl) rfl (.cons (.tmp rfl) .nil) ⟨rfl,rfl⟩)
def dX (F:Nat) (x0:Int):Option Int :=
 (iG F x0).bind fun x_1=>some (IntKind.i64.wrap (32 - x_1))
theorem mB {F:Nat} {x0:Int} {r:Int} (h:dX F x0 = some r):az Tryz.prog (bj mx) 175 [] [.one (.int .u32 x0)] (Is [] (.b (.one (.i r)))):=by
 unfold dX at h
 refine az.intro 6 Tryz.func175 Tryz.ntmps175 rfl (by simp) fun E=>?_
 show ab _ E ⟨6,[],[]⟩ _ ⟨[(0,.b (.one (.int .u32 x0)))],[]⟩ _
 refine ab.seq (ab.aa ?_)
 refine Oc oa (ad.aj ⟨[(0,.b (.one (.int .u32 x0)))],[]⟩ rfl (ab.seq (ab.aa ?_)))
 refine Oc om ?_
 obtain ⟨x_1,e1,h⟩:=aE h
 refine Oc (ae (n6 e1) AL rfl rfl) (Oc (bX rfl rfl) (Oc oa ?_))
 refine ad.aj ⟨[(2,I (IntKind.i64.wrap (32 - x_1)))],[]⟩ rfl (ab.ret ?_)
 obtain rfl:=Option.some.inj h
 refine Fin.ah ⟨[(2,_)],[]⟩ rfl (Fin.aq [.one (.i (IntKind.i64.wrap (32 - x_1)))] (.inl rfl) rfl (.cons (.tmp rfl) .nil) ⟨rfl,rfl⟩)
def rZ (F:Nat) (w0:aP) (n0:Int):Option (aP × Int) :=
 Option.bind (iter F (kA fun out_3 carry_4 x_5=>if (decide (x_5 < 16)) = true then ((bB w0.l x_5).bind fun x_8=>Option.bind (w8 .u64 (IntKind.u64.wrap x_8) n0) (fun x_9=>bD (IntKind.u32.wrap (lU .u64 carry_4 x_9)) fun x_10=>(bB out_3.l x_5).bind fun x_11=>some (.inl (out_3.set x_5 x_10,(lU .u64 carry_4 x_9) / 4294967296,IntKind.i64.wrap (x_5 + 1))))) else (some (.inr (out_3,carry_4)))) (aP.zero,0,0)) (b7 fun out_1 carry_2=>some (out_1,IntKind.u32.wrap carry_2))
theorem vj {F:Nat} {w0:aP} {n0:Int} {r:aP × Int} (h:rZ F w0 n0 = some r):az Tryz.prog (bj mx) 176 [] [.agg (eW w0),.one (.i n0)] (Is [] (.fE [.agg (eW r.1),.one (.int .u32 r.2)])):=by
 unfold rZ at h
 refine az.intro 30 Tryz.func176 Tryz.ntmps176 rfl (by simp) fun E=>?_
 show ab _ E ⟨30,[],[]⟩ _ ⟨[(0,.b (.agg (eW w0))),(1,I n0)],[]⟩ _
 refine ab.seq (ab.aa ?_)
 refine Oc (aS (k:=101) rfl rfl) (Oc (aA (k:=102) cD rfl) (Oc oa ?_))
 refine ad.aj ⟨[(1,I n0),(2,Pt 101 0),(4,Pt 102 0)],[(101,.box 23 (eW w0)),(102,.box 23 (eW aP.zero))]⟩ rfl (ab.seq (ab.aa ?_))
 refine Oc (aA (k:=103) cD rfl) (ad.aj ⟨[(1,_),(2,_),(4,_),(6,Pt 103 0)],[(101,_),(102,_),(103,.box 23 (eW aP.zero))]⟩ rfl (ab.seq (ab.aa ?_)))
 refine Oc oa (ad.aj ⟨[(1,_),(2,_),(4,_),(6,_),(7,.b (.one (.int .u64 0)))],[(101,_),(102,_),(103,_)]⟩ rfl ?_)
 obtain ⟨v1,h2,h⟩:=aE h
 refine ab.cB (v:=v1) (b7 fun (out_1:aP) (carry_2:Int)=>⟨[(4,Pt 102 0),(6,Pt 103 0),(7,.b (.one (.int .u64 carry_2)))],[(102,.box 23 (eW aP.zero)),(103,.box 23 (eW out_1))]⟩) (fun z=>z) ?_ ?_
 ·refine ab.seq (ab.aa ?_)
  refine Oc om (ad.aj ⟨[(1,_),(2,_),(4,_),(6,_),(7,_),(9,I 0)],[(101,_),(102,_),(103,_)]⟩ rfl (ab.block (ab.cS h2 (kA fun (out_3:aP) (carry_4:Int) (x_5:Int)=>⟨[(1,I n0),(2,Pt 101 0),(4,Pt 102 0),(6,Pt 103 0),(7,.b (.one (.int .u64 carry_4))),(9,I x_5)],[(101,.box 23 (eW w0)),(102,.box 23 (eW aP.zero)),(103,.box 23 (eW out_3))]⟩) [1,2,4,6,7,9] [101,102,103] rfl ?_)))
  rintro ⟨out_3,carry_4,x_5⟩ o3 h4 hy5
  refine ab.seq (ab.aa ?_)
  refine Oc (bK rfl rfl) (ad.aj ⟨[(1,_),(2,_),(4,_),(6,_),(7,_),(9,_),(10,B (decide (x_5 < 16)))],[(101,_),(102,_),(103,_)]⟩ rfl (ab.seq (ab.ite h4 rfl (fun _ h4=>?_) (fun _ h4=>?_))))
  ·refine ab.skip (Fin.ah ⟨[(1,_),(2,_),(4,_),(6,_),(7,_),(9,_)],[(101,_),(102,_),(103,_)]⟩ rfl (Fin.then (ab.seq (ab.block (ab.seq (ab.aa ?_))))))
   refine Oc om (Oc oa ?_)
   refine ad.aj ⟨[(1,_),(2,_),(4,_),(6,_),(7,_),(8,I x_5),(9,_)],[(101,_),(102,_),(103,_)]⟩ rfl (ab.seq (ab.aa ?_))
   refine Oc om (Oc om ?_)
   obtain ⟨x_8,e6,h4⟩:=aE h4
   refine Oc (aN bE (bp e6) (b9 e6) rfl rfl rfl) (Oc (ax bl rfl rfl (cc (post:=[]) (k:=.u32) [] e6 rfl rfl rfl)) (Oc (aF bG bu rfl) (Oc om ?_)))
   obtain ⟨x_9,e7,h4⟩:=aE h4
   refine Oc (CK e7 rfl rfl) (Oc (ss rfl rfl) (Oc oa ?_))
   refine ad.aj ⟨[(1,_),(2,_),(4,_),(6,_),(7,.b (.one (.int .u64 (lU .u64 carry_4 x_9)))),(8,_),(9,_)],[(101,_),(102,_),(103,_)]⟩ rfl (ab.seq (ab.aa ?_))
   refine Oc om (Oc om ?_)
   refine ad.cp .u32 h4 rfl (aF bu bG rfl) (fun x_10 h4=>?_)
   obtain ⟨x_11,e8,h4⟩:=aE h4
   refine Oc (aN bE (bp e8) (b9 e8) rfl rfl rfl) (Oc (bQ bl rfl rfl rfl (jr (post:=[]) (k:=.u32) [] e8 rfl rfl rfl) (gW (post:=[]) (k:=.u32) [] e8 rfl rfl (aP.iO out_3 x_5 x_10) rfl rfl)) ?_)
   refine ad.aj ⟨[(1,_),(2,_),(4,_),(6,_),(7,_),(9,_)],[(101,_),(102,_),(103,.box 23 (eW (out_3.set x_5 x_10)))]⟩ rfl (ab.aa (Oc om (Oc (iW (m:=32) (by decide) rfl rfl rfl) (Oc oa ?_))))
   refine ad.nil (Fin.aH (Fin.ah ⟨[(1,_),(2,_),(4,_),(6,_),(7,.b (.one (.int .u64 ((lU .u64 carry_4 x_9) / 4294967296)))),(9,_)],[(101,_),(102,_),(103,_)]⟩ rfl (Fin.then (ab.aa ?_))))
   refine Oc (bb rfl rfl) (Oc om ?_)
   refine ad.nil ?_
   exact Fin.bR [1,2,4,6,7,9] [101,102,103] (out_3.set x_5 x_10,(lU .u64 carry_4 x_9) / 4294967296,IntKind.i64.wrap (x_5 + 1)) (Option.some.inj h4) rfl
  ·refine ab.exit (Fin.aG ?_)
   obtain rfl:=hy5 _ (Option.some.inj h4).symm
   refine Fin.aG (Fin.aY ?_)
   exact Fin.join [4,6,7] [102,103] (out_3,carry_4) rfl rfl
 ·rintro ⟨out_1,carry_2⟩ hv
  subst v1
  refine ab.seq (ab.aa ?_)
  refine Oc (lp aK) (Oc om (Oc (aF bu bG rfl) (Oc (ag aK rfl rfl rfl rfl (Nat.le_of_ble_eq_true rfl) rfl) (Oc oa ?_))))
  refine ad.aj ⟨[(4,_),(5,.b (.one (.int .u32 (IntKind.u32.wrap carry_2))))],[(102,.box 23 (eW out_1))]⟩ rfl (ab.ret ?_)
  obtain rfl:=Option.some.inj h
  refine Fin.ah ⟨[(4,_),(5,_)],[(102,_)]⟩ rfl (Fin.aq [.agg (eW out_1),.one (.int .u32 (IntKind.u32.wrap carry_2))] (.inl rfl) rfl (.cons (.agg aK rfl rfl rfl rfl) (.cons (.tmp rfl) .nil)) ⟨rfl,rfl⟩)
def kT (F:Nat) (v0:aP) (n0:Int) (j0:Int) (u0v:cA):Option Int :=
 (bB u0v.l (IntKind.i64.wrap (j0 + n0))).bind fun x_1=>(bB u0v.l (IntKind.i64.wrap ((IntKind.i64.wrap (j0 + n0)) - 1))).bind fun x_2=>(bB v0.l (IntKind.i64.wrap (n0 - 1))).bind fun x_3=>(k7 .u64 (lU .u64 (IntKind.u64.wrap ((IntKind.u64.wrap x_1) * 4294967296)) (IntKind.u64.wrap x_2)) (IntKind.u64.wrap x_3)).bind fun x_4=>(tC (lU .u64 (IntKind.u64.wrap ((IntKind.u64.wrap x_1) * 4294967296)) (IntKind.u64.wrap x_2)) (IntKind.u64.wrap x_3)).bind fun x_5=>Option.bind (iter F (b7 fun d_7 rest_8=>(bA ((decide (rest_8 < 4294967296)) && !(decide (4294967296 ≤ d_7))) (bB v0.l (IntKind.i64.wrap (n0 - 2)))).bind fun x_10=>(bA ((decide (rest_8 < 4294967296)) && !(decide (4294967296 ≤ d_7))) (bB u0v.l (IntKind.i64.wrap ((IntKind.i64.wrap (j0 + n0)) - 2)))).bind fun x_11=>if ((decide (rest_8 < 4294967296)) && ((decide (4294967296 ≤ d_7)) || (decide ((lU .u64 (IntKind.u64.wrap (rest_8 * 4294967296)) (IntKind.u64.wrap x_11)) < (IntKind.u64.wrap (d_7 * (IntKind.u64.wrap x_10))))))) = true then (bD (IntKind.u64.wrap (rest_8 + (IntKind.u64.wrap x_3))) fun x_12=>some (.inl (IntKind.u64.wrap (d_7 - 1),x_12))) else (some (.inr d_7))) (x_4,x_5)) (fun d_6=>some d_6)
theorem wR {F:Nat} {v0:aP} {n0:Int} {j0:Int} {u0v:cA} {r:Int} (h:kT F v0 n0 j0 u0v = some r):az Tryz.prog (bj mx) 177 [(1,.box 186 ((jn .u32) u0v))] [.ptr 1 0,.agg (eW v0),.one (.i n0),.one (.i j0)] (Is [(1,.box 186 ((jn .u32) u0v))] (.b (.one (.int .u64 r)))):=by
 unfold kT at h
 refine az.intro 77 Tryz.func177 Tryz.ntmps177 rfl (by simp) fun E=>?_
 show ab _ E ⟨77,[1],[1]⟩ _ ⟨[(0,Pt 1 0),(1,.b (.agg (eW v0))),(2,I n0),(3,I j0)],[(1,.box 186 ((jn .u32) u0v))]⟩ _
 refine ab.seq (ab.aa ?_)
 refine Oc (aS (k:=101) rfl rfl) (Oc oa ?_)
 refine ad.aj ⟨[(0,Pt 1 0),(2,I n0),(3,I j0),(5,Pt 101 0)],[(1,.box 186 ((jn .u32) u0v)),(101,.box 23 (eW v0))]⟩ rfl (ab.seq ?_)
 obtain ⟨x_1,e1,h⟩:=aE h
 obtain ⟨x_2,e2,h⟩:=aE h
 refine ab.bP mixed 20 [Pt 1 0,I j0,I n0,I (IntKind.i64.wrap (j0 + n0)),Pt 1 0,.b (.ptr 1 (0 + (IntKind.i64.wrap (j0 + n0):Int).toNat * 1)),.b (.one (.int .u32 x_1)),.b (.one (.int .u64 (IntKind.u64.wrap x_1))),.b (.one (.int .u64 (IntKind.u64.wrap ((IntKind.u64.wrap x_1) * 4294967296)))),Pt 1 0,I j0,I n0,I (IntKind.i64.wrap (j0 + n0)),I (IntKind.i64.wrap ((IntKind.i64.wrap (j0 + n0)) - 1)),Pt 1 0,.b (.ptr 1 (0 + (IntKind.i64.wrap ((IntKind.i64.wrap (j0 + n0)) - 1):Int).toNat * 1)),.b (.one (.int .u32 x_2)),.b (.one (.int .u64 (IntKind.u64.wrap x_2))),.b (.one (.int .u64 (lU .u64 (IntKind.u64.wrap ((IntKind.u64.wrap x_1) * 4294967296)) (IntKind.u64.wrap x_2)))),.b (.one (.int .u64 (lU .u64 (IntKind.u64.wrap ((IntKind.u64.wrap x_1) * 4294967296)) (IntKind.u64.wrap x_2))))] [0,2,3,5,9] [1,101] (s':=⟨[(0,_),(2,_),(3,_),(5,_),(9,.b (.one (.int .u64 (lU .u64 (IntKind.u64.wrap ((IntKind.u64.wrap x_1) * 4294967296)) (IntKind.u64.wrap x_2)))))],[(1,_),(101,_)]⟩) rfl ⟨fun _=>.p om,fun _=>.p om,fun _=>.p om,fun _=>.p (bb rfl rfl),fun _=>.p (aR rfl),fun _=>.p (aN fI (bp e1) (b9 e1) rfl rfl rfl),fun _=>.p (ax bl rfl rfl (cc (post:=[]) (k:=.u32) [] e1 rfl rfl rfl)),fun _=>.p (aF bG bu rfl),fun _=>.p (ns (m:=32) (q:=4294967296) (by decide) rfl rfl (by decide)),fun _=>.p om,fun _=>.p om,fun _=>.p om,fun _=>.p (bb rfl rfl),fun _=>.p (bX rfl rfl),fun _=>.p (aR rfl),fun _=>.p (aN fI (bp e2) (b9 e2) rfl rfl rfl),fun _=>.p (ax bl rfl rfl (cc (post:=[]) (k:=.u32) [] e2 rfl rfl rfl)),fun _=>.p (aF bG bu rfl),fun _=>.p (ss rfl rfl),fun _=>.p oa,trivial⟩ rfl rfl (ab.seq (ab.aa ?_))
 refine Oc om (Oc (bX rfl rfl) ?_)
 obtain ⟨x_3,e3,h⟩:=aE h
 refine Oc (aN bE (bp e3) (b9 e3) rfl rfl rfl) (Oc (ax bl rfl rfl (cc (post:=[]) (k:=.u32) [] e3 rfl rfl rfl)) (Oc (aF bG bu rfl) (Oc oa ?_)))
 refine ad.aj ⟨[(0,_),(2,_),(3,_),(5,_),(9,_),(10,.b (.one (.int .u64 (IntKind.u64.wrap x_3))))],[(1,_),(101,_)]⟩ rfl (ab.seq ?_)
 obtain ⟨x_4,e4,h⟩:=aE h
 obtain ⟨x_5,e5,h⟩:=aE h
 refine ab.bP mixed 8 [.b (.one (.int .u64 (lU .u64 (IntKind.u64.wrap ((IntKind.u64.wrap x_1) * 4294967296)) (IntKind.u64.wrap x_2)))),.b (.one (.int .u64 (IntKind.u64.wrap x_3))),.b (.one (.int .u64 x_4)),.b (.one (.int .u64 (lU .u64 (IntKind.u64.wrap ((IntKind.u64.wrap x_1) * 4294967296)) (IntKind.u64.wrap x_2)))),.b (.one (.int .u64 (IntKind.u64.wrap x_3))),.b (.one (.int .u64 x_5)),.b (.one (.int .u64 x_4)),.b (.one (.int .u64 x_5))] [0,2,3,5,10,11,12] [1,101] (s':=⟨[(0,_),(2,_),(3,_),(5,_),(10,_),(11,.b (.one (.int .u64 x_4))),(12,.b (.one (.int .u64 x_5)))],[(1,_),(101,_)]⟩) rfl ⟨fun _=>.p om,fun _=>.p om,fun _=>.p (fw e4 rfl rfl),fun _=>.p om,fun _=>.p om,fun _=>.p (pB e5 rfl rfl),fun _=>.p oa,fun _=>.p oa,trivial⟩ rfl rfl ?_
 obtain ⟨v6,h7,h⟩:=aE h
 refine ab.cB (v:=v6) (fun (d_6:Int)=>⟨[(11,.b (.one (.int .u64 d_6)))],[(1,.box 186 ((jn .u32) u0v))]⟩) (fun z=>z) ?_ ?_
 ·refine ab.block (ab.cS h7 (b7 fun (d_7:Int) (rest_8:Int)=>⟨[(0,Pt 1 0),(2,I n0),(3,I j0),(5,Pt 101 0),(10,.b (.one (.int .u64 (IntKind.u64.wrap x_3)))),(11,.b (.one (.int .u64 d_7))),(12,.b (.one (.int .u64 rest_8)))],[(1,.box 186 ((jn .u32) u0v)),(101,.box 23 (eW v0))]⟩) [0,2,3,5,10,11,12] [1,101] rfl ?_)
  rintro ⟨d_7,rest_8⟩ o8 h9 hy10
  refine ab.seq (ab.seq ?_)
  refine ab.ah ⟨[(0,_),(2,_),(3,_),(5,_),(10,_),(11,_),(12,_)],[(1,_),(101,_)]⟩ rfl ?_
  obtain ⟨x_10,e18,h9⟩:=aE h9
  obtain ⟨x_11,e31,h9⟩:=aE h9
  refine ab.bP mixed 28 [.b (.one (.int .u64 rest_8)),B (decide (rest_8 < 4294967296)),B (decide (rest_8 < 4294967296)),.dA (decide (rest_8 < 4294967296)) (.one (.int .u64 d_7)),.dA (decide (rest_8 < 4294967296)) (.one (.bool (decide (4294967296 ≤ d_7)))),.dA (decide (rest_8 < 4294967296)) (.one (.bool (decide (4294967296 ≤ d_7)))),.dA ((decide (rest_8 < 4294967296)) && !(decide (4294967296 ≤ d_7))) (.one (.int .u64 d_7)),.dA ((decide (rest_8 < 4294967296)) && !(decide (4294967296 ≤ d_7))) (.one (.i n0)),.dA ((decide (rest_8 < 4294967296)) && !(decide (4294967296 ≤ d_7))) (.one (.i (IntKind.i64.wrap (n0 - 2)))),.dA ((decide (rest_8 < 4294967296)) && !(decide (4294967296 ≤ d_7))) (.ptr 101 (0 + (IntKind.i64.wrap (n0 - 2):Int).toNat * 1)),.dA ((decide (rest_8 < 4294967296)) && !(decide (4294967296 ≤ d_7))) (.one (.int .u32 x_10)),.dA ((decide (rest_8 < 4294967296)) && !(decide (4294967296 ≤ d_7))) (.one (.int .u64 (IntKind.u64.wrap x_10))),.dA ((decide (rest_8 < 4294967296)) && !(decide (4294967296 ≤ d_7))) (.one (.int .u64 (IntKind.u64.wrap (d_7 * (IntKind.u64.wrap x_10))))),.dA ((decide (rest_8 < 4294967296)) && !(decide (4294967296 ≤ d_7))) (.one (.int .u64 rest_8)),.dA ((decide (rest_8 < 4294967296)) && !(decide (4294967296 ≤ d_7))) (.one (.int .u64 (IntKind.u64.wrap (rest_8 * 4294967296)))),.dA ((decide (rest_8 < 4294967296)) && !(decide (4294967296 ≤ d_7))) (.ptr 1 0),.dA ((decide (rest_8 < 4294967296)) && !(decide (4294967296 ≤ d_7))) (.one (.i j0)),.dA ((decide (rest_8 < 4294967296)) && !(decide (4294967296 ≤ d_7))) (.one (.i n0)),.dA ((decide (rest_8 < 4294967296)) && !(decide (4294967296 ≤ d_7))) (.one (.i (IntKind.i64.wrap (j0 + n0)))),.dA ((decide (rest_8 < 4294967296)) && !(decide (4294967296 ≤ d_7))) (.one (.i (IntKind.i64.wrap ((IntKind.i64.wrap (j0 + n0)) - 2)))),.dA ((decide (rest_8 < 4294967296)) && !(decide (4294967296 ≤ d_7))) (.ptr 1 0),.dA ((decide (rest_8 < 4294967296)) && !(decide (4294967296 ≤ d_7))) (.ptr 1 (0 + (IntKind.i64.wrap ((IntKind.i64.wrap (j0 + n0)) - 2):Int).toNat * 1)),.dA ((decide (rest_8 < 4294967296)) && !(decide (4294967296 ≤ d_7))) (.one (.int .u32 x_11)),.dA ((decide (rest_8 < 4294967296)) && !(decide (4294967296 ≤ d_7))) (.one (.int .u64 (IntKind.u64.wrap x_11))),.dA ((decide (rest_8 < 4294967296)) && !(decide (4294967296 ≤ d_7))) (.one (.int .u64 (lU .u64 (IntKind.u64.wrap (rest_8 * 4294967296)) (IntKind.u64.wrap x_11)))),.dA ((decide (rest_8 < 4294967296)) && !(decide (4294967296 ≤ d_7))) (.one (.bool (decide ((lU .u64 (IntKind.u64.wrap (rest_8 * 4294967296)) (IntKind.u64.wrap x_11)) < (IntKind.u64.wrap (d_7 * (IntKind.u64.wrap x_10))))))),.dA (decide (rest_8 < 4294967296)) (.one (.bool ((decide (4294967296 ≤ d_7)) || (decide ((lU .u64 (IntKind.u64.wrap (rest_8 * 4294967296)) (IntKind.u64.wrap x_11)) < (IntKind.u64.wrap (d_7 * (IntKind.u64.wrap x_10)))))))),B ((decide (rest_8 < 4294967296)) && ((decide (4294967296 ≤ d_7)) || (decide ((lU .u64 (IntKind.u64.wrap (rest_8 * 4294967296)) (IntKind.u64.wrap x_11)) < (IntKind.u64.wrap (d_7 * (IntKind.u64.wrap x_10)))))))] [0,2,3,5,10,11,12,70] [1,101] (s':=⟨[(0,_),(2,_),(3,_),(5,_),(10,_),(11,_),(12,_),(70,B ((decide (rest_8 < 4294967296)) && ((decide (4294967296 ≤ d_7)) || (decide ((lU .u64 (IntKind.u64.wrap (rest_8 * 4294967296)) (IntKind.u64.wrap x_11)) < (IntKind.u64.wrap (d_7 * (IntKind.u64.wrap x_10))))))))],[(1,_),(101,_)]⟩) rfl ⟨fun _=>.p om,fun _=>.p (bK rfl rfl),fun _=>.p om,fun _=>by exact .guard (decide (rest_8 < 4294967296)) 1 [] (.plain rfl) (ob _) rfl rfl (fun g11=>trivial) (fun g11=>om),fun _=>by exact .guard (decide (rest_8 < 4294967296)) 2 [46] (.plain rfl) (ob _) rfl rfl (fun g12=>⟨g12,trivial⟩) (fun g12=>fy rfl rfl),fun _=>by exact .guard (decide (rest_8 < 4294967296)) 3 [47] (.plain rfl) (ob _) rfl rfl (fun g13=>⟨g13,trivial⟩) (fun g13=>om),fun _=>by exact .guard ((decide (rest_8 < 4294967296)) && !(decide (4294967296 ≤ d_7))) 1 [] (.under rfl) (eZ _ _) rfl rfl (fun g14=>trivial) (fun g14=>om),fun _=>by exact .guard ((decide (rest_8 < 4294967296)) && !(decide (4294967296 ≤ d_7))) 1 [] (.under rfl) (eZ _ _) rfl rfl (fun g15=>trivial) (fun g15=>om),fun _=>by exact .guard ((decide (rest_8 < 4294967296)) && !(decide (4294967296 ≤ d_7))) 2 [50] (.under rfl) (eZ _ _) rfl rfl (fun g16=>⟨g16,trivial⟩) (fun g16=>bX rfl rfl),fun _=>by exact .guard ((decide (rest_8 < 4294967296)) && !(decide (4294967296 ≤ d_7))) 2 [51] (.under rfl) (eZ _ _) rfl rfl (fun g17=>⟨g17,trivial⟩) (fun g17=>aN bE (bp (gc e18 g17)) (b9 (gc e18 g17)) rfl rfl rfl),fun _=>by exact .guard ((decide (rest_8 < 4294967296)) && !(decide (4294967296 ≤ d_7))) 2 [52] (.under rfl) (eZ _ _) rfl rfl (fun g19=>⟨g19,trivial⟩) (fun g19=>ax bl rfl rfl (cc (post:=[]) (k:=.u32) [] (gc e18 g19) rfl rfl rfl)),fun _=>by exact .guard ((decide (rest_8 < 4294967296)) && !(decide (4294967296 ≤ d_7))) 2 [53] (.under rfl) (eZ _ _) rfl rfl (fun g20=>⟨g20,trivial⟩) (fun g20=>aF bG bu rfl),fun _=>by exact .guard ((decide (rest_8 < 4294967296)) && !(decide (4294967296 ≤ d_7))) 3 [49,54] (.under rfl) (eZ _ _) rfl rfl (fun g21=>⟨g21,g21,trivial⟩) (fun g21=>fN rfl rfl),fun _=>by exact .guard ((decide (rest_8 < 4294967296)) && !(decide (4294967296 ≤ d_7))) 1 [] (.under rfl) (eZ _ _) rfl rfl (fun g22=>trivial) (fun g22=>om),fun _=>by exact .guard ((decide (rest_8 < 4294967296)) && !(decide (4294967296 ≤ d_7))) 2 [56] (.under rfl) (eZ _ _) rfl rfl (fun g23=>⟨g23,trivial⟩) (fun g23=>ns (m:=32) (q:=4294967296) (by decide) rfl rfl (by decide)),fun _=>by exact .guard ((decide (rest_8 < 4294967296)) && !(decide (4294967296 ≤ d_7))) 1 [] (.under rfl) (eZ _ _) rfl rfl (fun g24=>trivial) (fun g24=>om),fun _=>by exact .guard ((decide (rest_8 < 4294967296)) && !(decide (4294967296 ≤ d_7))) 1 [] (.under rfl) (eZ _ _) rfl rfl (fun g25=>trivial) (fun g25=>om),fun _=>by exact .guard ((decide (rest_8 < 4294967296)) && !(decide (4294967296 ≤ d_7))) 1 [] (.under rfl) (eZ _ _) rfl rfl (fun g26=>trivial) (fun g26=>om),fun _=>by exact .guard ((decide (rest_8 < 4294967296)) && !(decide (4294967296 ≤ d_7))) 3 [59,60] (.under rfl) (eZ _ _) rfl rfl (fun g27=>⟨g27,g27,trivial⟩) (fun g27=>bb rfl rfl),fun _=>by exact .guard ((decide (rest_8 < 4294967296)) && !(decide (4294967296 ≤ d_7))) 2 [61] (.under rfl) (eZ _ _) rfl rfl (fun g28=>⟨g28,trivial⟩) (fun g28=>bX rfl rfl),fun _=>by exact .guard ((decide (rest_8 < 4294967296)) && !(decide (4294967296 ≤ d_7))) 2 [58] (.under rfl) (eZ _ _) rfl rfl (fun g29=>⟨g29,trivial⟩) (fun g29=>aR rfl),fun _=>by exact .guard ((decide (rest_8 < 4294967296)) && !(decide (4294967296 ≤ d_7))) 3 [62,63] (.under rfl) (eZ _ _) rfl rfl (fun g30=>⟨g30,g30,trivial⟩) (fun g30=>aN fI (bp (gc e31 g30)) (b9 (gc e31 g30)) rfl rfl rfl),fun _=>by exact .guard ((decide (rest_8 < 4294967296)) && !(decide (4294967296 ≤ d_7))) 2 [64] (.under rfl) (eZ _ _) rfl rfl (fun g32=>⟨g32,trivial⟩) (fun g32=>ax bl rfl rfl (cc (post:=[]) (k:=.u32) [] (gc e31 g32) rfl rfl rfl)),fun _=>by exact .guard ((decide (rest_8 < 4294967296)) && !(decide (4294967296 ≤ d_7))) 2 [65] (.under rfl) (eZ _ _) rfl rfl (fun g33=>⟨g33,trivial⟩) (fun g33=>aF bG bu rfl),fun _=>by exact .guard ((decide (rest_8 < 4294967296)) && !(decide (4294967296 ≤ d_7))) 3 [57,66] (.under rfl) (eZ _ _) rfl rfl (fun g34=>⟨g34,g34,trivial⟩) (fun g34=>ss rfl rfl),fun _=>by exact .guard ((decide (rest_8 < 4294967296)) && !(decide (4294967296 ≤ d_7))) 3 [55,67] (.under rfl) (eZ _ _) rfl rfl (fun g35=>⟨g35,g35,trivial⟩) (fun g35=>dB rfl rfl),fun _=>by exact .guard (decide (rest_8 < 4294967296)) 3 [48] (.plain rfl) (ob _) rfl rfl (fun g36=>⟨g36,trivial⟩) (fun g36=>aU (fun e=>by rw [g36,e]; rfl) rfl rfl rfl rfl),fun _=>.p (aD (fun e=>e) rfl rfl rfl rfl),trivial⟩ rfl rfl ?_
  refine ab.ite h9 rfl (fun _ h9=>?_) (fun _ h9=>?_)
  ·refine ab.skip (Fin.ah ⟨[(0,_),(2,_),(3,_),(5,_),(10,_),(11,_),(12,_)],[(1,_),(101,_)]⟩ rfl (Fin.then (ab.block (ab.seq (ab.aa ?_)))))
   refine Oc om (Oc (bX rfl rfl) (Oc oa ?_))
   refine ad.aj ⟨[(0,_),(2,_),(3,_),(5,_),(10,_),(11,.b (.one (.int .u64 (IntKind.u64.wrap (d_7 - 1))))),(12,_)],[(1,_),(101,_)]⟩ rfl (ab.aa (Oc om (Oc om ?_)))
   refine ad.cp .u64 h9 rfl (bb rfl rfl) (fun x_12 h9=>?_)
   refine Oc oa (ad.nil (Fin.aH ?_))
   exact Fin.bR [0,2,3,5,10,11,12] [1,101] (IntKind.u64.wrap (d_7 - 1),x_12) (Option.some.inj h9) rfl
  ·refine ab.exit (Fin.aG ?_)
   obtain rfl:=hy10 _ (Option.some.inj h9).symm
   refine Fin.aG (Fin.aY ?_)
   exact Fin.join [11] [1] d_7 rfl rfl
 ·rintro d_6 hv
  subst v6
  refine ab.seq (ab.aa ?_)
  refine Oc om (Oc oa ?_)
  refine ad.aj ⟨[(8,.b (.one (.int .u64 d_6)))],[(1,_)]⟩ rfl (ab.ret ?_)
  obtain rfl:=Option.some.inj h
  refine Fin.ah ⟨[(8,_)],[(1,_)]⟩ rfl ?_
  exact Fin.result [.one (.int .u64 d_6)] (.inl rfl) rfl (.cons (.tmp rfl) .nil) ⟨rfl,rfl⟩
def mE (F:Nat) (v0:aP) (n0:Int) (j0:Int) (d0:Int) (u0v:cA):Option (Bool × cA) :=
 Option.bind (iter F (un4 fun u_4 carry_5 borrow_6 x_7=>if (decide (x_7 < n0)) = true then ((bB v0.l x_7).bind fun x_11=>bD (IntKind.u64.wrap (d0 * (IntKind.u64.wrap x_11))) fun x_12=>(bB u_4.l (IntKind.i64.wrap (j0 + x_7))).bind fun x_13=>bD (IntKind.u32.wrap (IntKind.u64.wrap (carry_5 + x_12))) fun x_14=>bD (IntKind.u64.wrap ((IntKind.u64.wrap x_13) - (IntKind.u64.wrap x_14))) fun x_15=>bD (IntKind.u32.wrap (IntKind.u64.wrap (x_15 - borrow_6))) fun x_16=>(bB u_4.l (IntKind.i64.wrap (j0 + x_7))).bind fun x_17=>bD ((IntKind.u64.wrap (x_15 - borrow_6)) / 9223372036854775808) fun x_18=>bD ((IntKind.u64.wrap (carry_5 + x_12)) / 4294967296) fun x_19=>some (.inl (u_4.set (IntKind.i64.wrap (j0 + x_7)) x_16,x_19,x_18,IntKind.i64.wrap (x_7 + 1)))) else (some (.inr (u_4,carry_5,borrow_6)))) (u0v,0,0,0)) (kA fun u_1 carry_2 borrow_3=>(bB u_1.l (IntKind.i64.wrap (j0 + n0))).bind fun x_20=>bD (IntKind.u64.wrap ((IntKind.u64.wrap x_20) - carry_2)) fun x_21=>bD (IntKind.u32.wrap (IntKind.u64.wrap (x_21 - borrow_3))) fun x_22=>(bB u_1.l (IntKind.i64.wrap (j0 + n0))).bind fun x_23=>bD ((IntKind.u64.wrap (x_21 - borrow_3)) / 9223372036854775808) fun x_24=>some (decide (x_24 = 1),u_1.set (IntKind.i64.wrap (j0 + n0)) x_22))
theorem xV {F:Nat} {v0:aP} {n0:Int} {j0:Int} {d0:Int} {u0v:cA} {r:Bool × cA} (h:mE F v0 n0 j0 d0 u0v = some r):az Tryz.prog (bj mx) 178 [(1,.box 186 ((jn .u32) u0v))] [.ptr 1 0,.agg (eW v0),.one (.i n0),.one (.i j0),.one (.int .u64 d0)] (Is [(1,.box 186 ((jn .u32) r.2))] (.b (.one (.bool r.1)))):=by
 unfold mE at h
 refine az.intro 78 Tryz.func178 Tryz.ntmps178 rfl (by simp) fun E=>?_
 show ab _ E ⟨78,[1],[1]⟩ _ ⟨[(0,Pt 1 0),(1,.b (.agg (eW v0))),(2,I n0),(3,I j0),(4,.b (.one (.int .u64 d0)))],[(1,.box 186 ((jn .u32) u0v))]⟩ _
 refine ab.seq (ab.aa ?_)
 refine Oc (aS (k:=101) rfl rfl) (Oc oa ?_)
 refine ad.aj ⟨[(0,Pt 1 0),(2,I n0),(3,I j0),(4,.b (.one (.int .u64 d0))),(6,Pt 101 0)],[(1,.box 186 ((jn .u32) u0v)),(101,.box 23 (eW v0))]⟩ rfl (ab.seq (ab.aa ?_))
 refine Oc oa (Oc oa ?_)
 refine ad.aj ⟨[(0,_),(2,_),(3,_),(4,_),(6,_),(11,.b (.one (.int .u64 0))),(12,.b (.one (.int .u64 0)))],[(1,_),(101,_)]⟩ rfl ?_
 obtain ⟨v1,h2,h⟩:=aE h
 refine ab.cB (v:=v1) (kA fun (u_1:cA) (carry_2:Int) (borrow_3:Int)=>⟨[(0,Pt 1 0),(2,I n0),(3,I j0),(11,.b (.one (.int .u64 carry_2))),(12,.b (.one (.int .u64 borrow_3)))],[(1,.box 186 ((jn .u32) u_1))]⟩) (fun z=>z) ?_ ?_
 ·refine ab.seq (ab.aa ?_)
  refine Oc om (Oc om ?_)
  refine ad.aj ⟨[(0,_),(2,_),(3,_),(4,_),(6,_),(11,_),(12,_),(16,I n0),(17,I 0)],[(1,_),(101,_)]⟩ rfl (ab.block (ab.cS h2 (un4 fun (u_4:cA) (carry_5:Int) (borrow_6:Int) (x_7:Int)=>⟨[(0,Pt 1 0),(2,I n0),(3,I j0),(4,.b (.one (.int .u64 d0))),(6,Pt 101 0),(11,.b (.one (.int .u64 carry_5))),(12,.b (.one (.int .u64 borrow_6))),(16,I n0),(17,I x_7)],[(1,.box 186 ((jn .u32) u_4)),(101,.box 23 (eW v0))]⟩) [0,2,3,4,6,11,12,16,17] [1,101] rfl ?_))
  rintro ⟨u_4,carry_5,borrow_6,x_7⟩ o3 h4 hy5
  refine ab.seq (ab.aa ?_)
  refine Oc (bK rfl rfl) (ad.aj ⟨[(0,_),(2,_),(3,_),(4,_),(6,_),(11,_),(12,_),(16,_),(17,_),(18,B (decide (x_7 < n0)))],[(1,_),(101,_)]⟩ rfl (ab.seq (ab.ite h4 rfl (fun _ h4=>?_) (fun _ h4=>?_))))
  ·refine ab.skip (Fin.ah ⟨[(0,_),(2,_),(3,_),(4,_),(6,_),(11,_),(12,_),(16,_),(17,_)],[(1,_),(101,_)]⟩ rfl (Fin.then (ab.seq (ab.block (ab.seq (ab.aa ?_))))))
   refine Oc om (Oc oa ?_)
   refine ad.aj ⟨[(0,_),(2,_),(3,_),(4,_),(6,_),(11,_),(12,_),(13,I x_7),(16,_),(17,_)],[(1,_),(101,_)]⟩ rfl (ab.seq (ab.aa ?_))
   refine Oc om (Oc om (Oc om ?_))
   obtain ⟨x_11,e6,h4⟩:=aE h4
   refine Oc (aN bE (bp e6) (b9 e6) rfl rfl rfl) (Oc (ax bl rfl rfl (cc (post:=[]) (k:=.u32) [] e6 rfl rfl rfl)) (Oc (aF bG bu rfl) ?_))
   refine ad.cp .u64 h4 rfl (fN rfl rfl) (fun x_12 h4=>?_)
   refine Oc (bb rfl rfl) (Oc oa ?_)
   refine ad.aj ⟨[(0,_),(2,_),(3,_),(4,_),(6,_),(11,.b (.one (.int .u64 (IntKind.u64.wrap (carry_5 + x_12))))),(12,_),(13,_),(16,_),(17,_)],[(1,_),(101,_)]⟩ rfl (ab.seq (ab.aa ?_))
   refine Oc om (Oc om (Oc om (Oc (bb rfl rfl) (Oc (aR rfl) ?_))))
   obtain ⟨x_13,e7,h4⟩:=aE h4
   refine Oc (aN fI (bp e7) (b9 e7) rfl rfl rfl) (Oc (ax bl rfl rfl (cc (post:=[]) (k:=.u32) [] e7 rfl rfl rfl)) ?_)
   refine ad.ah ⟨[(0,_),(2,_),(3,_),(4,_),(6,_),(11,_),(12,_),(13,_),(16,_),(17,_),(34,.b (.one (.int .u32 x_13)))],[(1,_),(101,_)]⟩ rfl (Oc (aF bG bu rfl) (Oc om ?_))
   refine ad.cp .u32 h4 rfl (aF bu bG rfl) (fun x_14 h4=>?_)
   refine Oc (aF bG bu rfl) (ad.cp .u64 h4 rfl (bX rfl rfl) (fun x_15 h4=>?_))
   refine Oc om (Oc (bX rfl rfl) (Oc oa ?_))
   refine ad.aj ⟨[(0,_),(2,_),(3,_),(4,_),(6,_),(11,_),(13,_),(14,.b (.one (.int .u64 (IntKind.u64.wrap (x_15 - borrow_6))))),(16,_),(17,_)],[(1,_),(101,_)]⟩ rfl (ab.seq (ab.aa ?_))
   refine Oc om (Oc om (Oc om (Oc (bb rfl rfl) (Oc om ?_))))
   refine ad.cp .u32 h4 rfl (aF bu bG rfl) (fun x_16 h4=>?_)
   refine Oc (aR rfl) ?_
   obtain ⟨x_17,e8,h4⟩:=aE h4
   refine Oc (aN fI (bp e8) (b9 e8) rfl rfl rfl) (Oc (bQ bl rfl rfl rfl (jr (post:=[]) (k:=.u32) [] e8 rfl rfl rfl) (gW (post:=[]) (k:=.u32) [] e8 rfl rfl (cA.iO u_4 (IntKind.i64.wrap (j0 + x_7)) x_16) rfl rfl)) ?_)
   refine ad.aj ⟨[(0,_),(2,_),(3,_),(4,_),(6,_),(11,_),(14,_),(16,_),(17,_)],[(1,.box 186 ((jn .u32) (u_4.set (IntKind.i64.wrap (j0 + x_7)) x_16))),(101,_)]⟩ rfl (ab.seq (ab.aa ?_))
   refine Oc om (ad.cp .u64 h4 rfl (iW (m:=63) (by decide) rfl rfl rfl) (fun x_18 h4=>?_))
   refine Oc oa (ad.aj ⟨[(0,_),(2,_),(3,_),(4,_),(6,_),(11,_),(12,.b (.one (.int .u64 x_18))),(16,_),(17,_)],[(1,_),(101,_)]⟩ rfl (ab.aa (Oc om (ad.cp .u64 h4 rfl (iW (m:=32) (by decide) rfl rfl rfl) (fun x_19 h4=>?_)))))
   refine Oc oa (ad.nil (Fin.aH (Fin.ah ⟨[(0,_),(2,_),(3,_),(4,_),(6,_),(11,.b (.one (.int .u64 x_19))),(12,_),(16,_),(17,_)],[(1,_),(101,_)]⟩ rfl (Fin.then (ab.aa ?_)))))
   refine Oc (bb rfl rfl) (Oc om ?_)
   refine ad.nil ?_
   exact Fin.bR [0,2,3,4,6,11,12,16,17] [1,101] (u_4.set (IntKind.i64.wrap (j0 + x_7)) x_16,x_19,x_18,IntKind.i64.wrap (x_7 + 1)) (Option.some.inj h4) rfl
  ·refine ab.exit (Fin.aG ?_)
   obtain rfl:=hy5 _ (Option.some.inj h4).symm
   refine Fin.aG (Fin.aY ?_)
   exact Fin.join [0,2,3,11,12] [1] (u_4,carry_5,borrow_6) rfl rfl
 ·rintro ⟨u_1,carry_2,borrow_3⟩ hv
  subst v1
  refine ab.seq (ab.aa ?_)
  refine Oc om (Oc om (Oc om (Oc (bb rfl rfl) (Oc (aR rfl) ?_))))
  obtain ⟨x_20,e9,h⟩:=aE h
  refine Oc (aN fI (bp e9) (b9 e9) rfl rfl rfl) (Oc (ax bl rfl rfl (cc (post:=[]) (k:=.u32) [] e9 rfl rfl rfl)) ?_)
  refine ad.ah ⟨[(0,_),(2,_),(3,_),(11,_),(12,_),(61,.b (.one (.int .u32 x_20)))],[(1,_)]⟩ rfl (Oc (aF bG bu rfl) (Oc om ?_))
  refine ad.cp .u64 h rfl (bX rfl rfl) (fun x_21 h=>?_)
  refine Oc om (Oc (bX rfl rfl) (Oc oa ?_))
  refine ad.aj ⟨[(0,_),(2,_),(3,_),(15,.b (.one (.int .u64 (IntKind.u64.wrap (x_21 - borrow_3)))))],[(1,_)]⟩ rfl (ab.seq (ab.aa ?_))
  refine Oc om (Oc om (Oc om (Oc (bb rfl rfl) (Oc om ?_))))
  refine ad.cp .u32 h rfl (aF bu bG rfl) (fun x_22 h=>?_)
  refine Oc (aR rfl) ?_
  obtain ⟨x_23,e10,h⟩:=aE h
  refine Oc (aN fI (bp e10) (b9 e10) rfl rfl rfl) (Oc (bQ bl rfl rfl rfl (jr (post:=[]) (k:=.u32) [] e10 rfl rfl rfl) (gW (post:=[]) (k:=.u32) [] e10 rfl rfl (cA.iO u_1 (IntKind.i64.wrap (j0 + n0)) x_22) rfl rfl)) ?_)
  refine ad.aj ⟨[(15,_)],[(1,.box 186 ((jn .u32) (u_1.set (IntKind.i64.wrap (j0 + n0)) x_22)))]⟩ rfl (ab.seq (ab.aa ?_))
  refine Oc om (ad.cp .u64 h rfl (iW (m:=63) (by decide) rfl rfl rfl) (fun x_24 h=>?_))
  refine Oc (cy rfl rfl) (Oc oa ?_)
  refine ad.aj ⟨[(10,B (decide (x_24 = 1)))],[(1,_)]⟩ rfl (ab.ret ?_)
  obtain rfl:=Option.some.inj h
  refine Fin.ah ⟨[(10,_)],[(1,_)]⟩ rfl ?_
  exact Fin.result [.one (.bool (decide (x_24 = 1)))] (.inl rfl) rfl (.cons (.tmp rfl) .nil) ⟨rfl,rfl⟩
def mF (F:Nat) (v0:aP) (n0:Int) (j0:Int) (u0v:cA):Option cA :=
 Option.bind (iter F (kA fun u_3 carry_4 x_5=>if (decide (x_5 < n0)) = true then ((bB u_3.l (IntKind.i64.wrap (j0 + x_5))).bind fun x_8=>(bB v0.l x_5).bind fun x_9=>bD (IntKind.u64.wrap (carry_4 + (IntKind.u64.wrap ((IntKind.u64.wrap x_8) + (IntKind.u64.wrap x_9))))) fun x_10=>(bB u_3.l (IntKind.i64.wrap (j0 + x_5))).bind fun x_11=>bD (IntKind.u64.wrap (carry_4 + (IntKind.u64.wrap ((IntKind.u64.wrap x_8) + (IntKind.u64.wrap x_9))))) fun x_12=>some (.inl (u_3.set (IntKind.i64.wrap (j0 + x_5)) (IntKind.u32.wrap x_10),x_12 / 4294967296,IntKind.i64.wrap (x_5 + 1)))) else (some (.inr (u_3,carry_4)))) (u0v,0,0)) (b7 fun u_1 carry_2=>(bB u_1.l (IntKind.i64.wrap (j0 + n0))).bind fun x_13=>(bB u_1.l (IntKind.i64.wrap (j0 + n0))).bind fun x_14=>some (u_1.set (IntKind.i64.wrap (j0 + n0)) (IntKind.u32.wrap (x_13 + (IntKind.u32.wrap carry_2)))))
theorem xX {F:Nat} {v0:aP} {n0:Int} {j0:Int} {u0v:cA} {r:cA} (h:mF F v0 n0 j0 u0v = some r):az Tryz.prog (bj mx) 179 [(1,.box 186 ((jn .u32) u0v))] [.ptr 1 0,.agg (eW v0),.one (.i n0),.one (.i j0)] (Is [(1,.box 186 ((jn .u32) r))] (.fE [])):=by
 unfold mF at h
 refine az.intro 52 Tryz.func179 Tryz.ntmps179 rfl (by simp) fun E=>?_
 show ab _ E ⟨52,[1],[1]⟩ _ ⟨[(0,Pt 1 0),(1,.b (.agg (eW v0))),(2,I n0),(3,I j0)],[(1,.box 186 ((jn .u32) u0v))]⟩ _
 refine ab.seq (ab.aa ?_)
 refine Oc (aS (k:=101) rfl rfl) (ad.aj ⟨[(0,Pt 1 0),(2,I n0),(3,I j0),(5,Pt 101 0)],[(1,.box 186 ((jn .u32) u0v)),(101,.box 23 (eW v0))]⟩ rfl (ab.seq (ab.aa ?_)))
 refine Oc oa (ad.aj ⟨[(0,_),(2,_),(3,_),(5,_),(8,.b (.one (.int .u64 0)))],[(1,_),(101,_)]⟩ rfl ?_)
 obtain ⟨v1,h2,h⟩:=aE h
 refine ab.cB (v:=v1) (b7 fun (u_1:cA) (carry_2:Int)=>⟨[(0,Pt 1 0),(2,I n0),(3,I j0),(8,.b (.one (.int .u64 carry_2)))],[(1,.box 186 ((jn .u32) u_1))]⟩) (fun z=>z) ?_ ?_
 ·refine ab.seq (ab.aa ?_)
  refine Oc om (Oc om ?_)
  refine ad.aj ⟨[(0,_),(2,_),(3,_),(5,_),(8,_),(10,I n0),(11,I 0)],[(1,_),(101,_)]⟩ rfl (ab.block (ab.cS h2 (kA fun (u_3:cA) (carry_4:Int) (x_5:Int)=>⟨[(0,Pt 1 0),(2,I n0),(3,I j0),(5,Pt 101 0),(8,.b (.one (.int .u64 carry_4))),(10,I n0),(11,I x_5)],[(1,.box 186 ((jn .u32) u_3)),(101,.box 23 (eW v0))]⟩) [0,2,3,5,8,10,11] [1,101] rfl ?_))
  rintro ⟨u_3,carry_4,x_5⟩ o3 h4 hy5
  refine ab.seq (ab.aa ?_)
  refine Oc (bK rfl rfl) (ad.aj ⟨[(0,_),(2,_),(3,_),(5,_),(8,_),(10,_),(11,_),(12,B (decide (x_5 < n0)))],[(1,_),(101,_)]⟩ rfl (ab.seq (ab.ite h4 rfl (fun _ h4=>?_) (fun _ h4=>?_))))
  ·refine ab.skip (Fin.ah ⟨[(0,_),(2,_),(3,_),(5,_),(8,_),(10,_),(11,_)],[(1,_),(101,_)]⟩ rfl (Fin.then (ab.seq (ab.block (ab.seq (ab.aa ?_))))))
   refine Oc om (Oc oa ?_)
   refine ad.aj ⟨[(0,_),(2,_),(3,_),(5,_),(8,_),(9,I x_5),(10,_),(11,_)],[(1,_),(101,_)]⟩ rfl (ab.seq ?_)
   obtain ⟨x_8,e6,h4⟩:=aE h4
   obtain ⟨x_9,e7,h4⟩:=aE h4
   refine ab.bP mixed 15 [.b (.one (.int .u64 carry_4)),Pt 1 0,I j0,I x_5,I (IntKind.i64.wrap (j0 + x_5)),Pt 1 0,.b (.ptr 1 (0 + (IntKind.i64.wrap (j0 + x_5):Int).toNat * 1)),.b (.one (.int .u32 x_8)),.b (.one (.int .u64 (IntKind.u64.wrap x_8))),I x_5,.b (.ptr 101 (0 + (x_5:Int).toNat * 1)),.b (.one (.int .u32 x_9)),.b (.one (.int .u64 (IntKind.u64.wrap x_9))),.b (.one (.int .u64 (IntKind.u64.wrap ((IntKind.u64.wrap x_8) + (IntKind.u64.wrap x_9))))),.b (.one (.int .u64 (IntKind.u64.wrap (carry_4 + (IntKind.u64.wrap ((IntKind.u64.wrap x_8) + (IntKind.u64.wrap x_9)))))))] [0,2,3,5,8,9,10,11] [1,101] (s':=⟨[(0,_),(2,_),(3,_),(5,_),(8,.b (.one (.int .u64 (IntKind.u64.wrap (carry_4 + (IntKind.u64.wrap ((IntKind.u64.wrap x_8) + (IntKind.u64.wrap x_9)))))))),(9,_),(10,_),(11,_)],[(1,_),(101,_)]⟩) rfl ⟨fun _=>.p om,fun _=>.p om,fun _=>.p om,fun _=>.p om,fun _=>.p (bb rfl rfl),fun _=>.p (aR rfl),fun _=>.p (aN fI (bp e6) (b9 e6) rfl rfl rfl),fun _=>.p (ax bl rfl rfl (cc (post:=[]) (k:=.u32) [] e6 rfl rfl rfl)),fun _=>.p (aF bG bu rfl),fun _=>.p om,fun _=>.p (aN bE (bp e7) (b9 e7) rfl rfl rfl),fun _=>.p (ax bl rfl rfl (cc (post:=[]) (k:=.u32) [] e7 rfl rfl rfl)),fun _=>.p (aF bG bu rfl),fun _=>.p (bb rfl rfl),fun _=>.p (bb rfl rfl),trivial⟩ ⟨_,by exact .p oa,rfl⟩ rfl (ab.seq (ab.aa ?_))
   refine Oc om (Oc om (Oc om (Oc (bb rfl rfl) ?_)))
   refine ad.cp .u64 h4 rfl om (fun x_10 h4=>?_)
   refine Oc (aF bu bG rfl) (Oc (aR rfl) ?_)
   obtain ⟨x_11,e8,h4⟩:=aE h4
   refine Oc (aN fI (bp e8) (b9 e8) rfl rfl rfl) (Oc (bQ bl rfl rfl rfl (jr (post:=[]) (k:=.u32) [] e8 rfl rfl rfl) (gW (post:=[]) (k:=.u32) [] e8 rfl rfl (cA.iO u_3 (IntKind.i64.wrap (j0 + x_5)) (IntKind.u32.wrap x_10)) rfl rfl)) ?_)
   refine ad.aj ⟨[(0,_),(2,_),(3,_),(5,_),(8,_),(10,_),(11,_)],[(1,.box 186 ((jn .u32) (u_3.set (IntKind.i64.wrap (j0 + x_5)) (IntKind.u32.wrap x_10)))),(101,_)]⟩ rfl (ab.aa (ad.cp .u64 h4 rfl om (fun x_12 h4=>?_)))
   refine Oc (iW (m:=32) (by decide) rfl rfl rfl) (Oc oa ?_)
   refine ad.nil (Fin.aH (Fin.ah ⟨[(0,_),(2,_),(3,_),(5,_),(8,.b (.one (.int .u64 (x_12 / 4294967296)))),(10,_),(11,_)],[(1,_),(101,_)]⟩ rfl (Fin.then (ab.aa ?_))))
   refine Oc (bb rfl rfl) (Oc om ?_)
   refine ad.nil ?_
   exact Fin.bR [0,2,3,5,8,10,11] [1,101] (u_3.set (IntKind.i64.wrap (j0 + x_5)) (IntKind.u32.wrap x_10),x_12 / 4294967296,IntKind.i64.wrap (x_5 + 1)) (Option.some.inj h4) rfl
  ·refine ab.exit (Fin.aG ?_)
   obtain rfl:=hy5 _ (Option.some.inj h4).symm
   refine Fin.aG (Fin.aY ?_)
   exact Fin.join [0,2,3,8] [1] (u_3,carry_4) rfl rfl
 ·rintro ⟨u_1,carry_2⟩ hv
  subst v1
  refine ab.ah ⟨[(0,_),(2,_),(3,_),(8,_)],[(1,_)]⟩ rfl ?_
  obtain ⟨x_13,e9,h⟩:=aE h
  obtain ⟨x_14,e10,h⟩:=aE h
  refine ab.jy mixed 12 [Pt 1 0,I j0,I n0,I (IntKind.i64.wrap (j0 + n0)),Pt 1 0,.b (.ptr 1 (0 + (IntKind.i64.wrap (j0 + n0):Int).toNat * 1)),.b (.one (.int .u32 x_13)),.b (.one (.int .u64 carry_2)),.b (.one (.int .u32 (IntKind.u32.wrap carry_2))),.b (.one (.int .u32 (IntKind.u32.wrap (x_13 + (IntKind.u32.wrap carry_2))))),Pt 1 0,.b (.ptr 1 (0 + (IntKind.i64.wrap (j0 + n0):Int).toNat * 1))] [] [1] (s':=⟨[],[(1,.box 186 ((jn .u32) (u_1.set (IntKind.i64.wrap (j0 + n0)) (IntKind.u32.wrap (x_13 + (IntKind.u32.wrap carry_2))))))]⟩) rfl ⟨fun _=>.p om,fun _=>.p om,fun _=>.p om,fun _=>.p (bb rfl rfl),fun _=>.p (aR rfl),fun _=>.p (aN fI (bp e9) (b9 e9) rfl rfl rfl),fun _=>.p (ax bl rfl rfl (cc (post:=[]) (k:=.u32) [] e9 rfl rfl rfl)),fun _=>.p om,fun _=>.p (aF bu bG rfl),fun _=>.p (bb rfl rfl),fun _=>.p (aR rfl),fun _=>.p (aN fI (bp e10) (b9 e10) rfl rfl rfl),trivial⟩ ⟨_,by exact .p (bQ bl rfl rfl rfl (jr (post:=[]) (k:=.u32) [] e10 rfl rfl rfl) (gW (post:=[]) (k:=.u32) [] e10 rfl rfl (cA.iO u_1 (IntKind.i64.wrap (j0 + n0)) (IntKind.u32.wrap (x_13 + (IntKind.u32.wrap carry_2)))) rfl rfl)),rfl⟩ rfl ?_
  obtain rfl:=Option.some.inj h
  refine Fin.ah ⟨[],[(1,_)]⟩ rfl ?_
  exact Fin.result [] (.inr rfl) rfl (.nil) ⟨rfl,rfl⟩
def mG (F:Nat) (w0:aP) (n0:Int):Option aP :=
 Option.bind (iter F (b7 fun out_2 x_3=>if (decide (x_3 < 16)) = true then (Option.bind (Option.bind (if (decide ((IntKind.i64.wrap (x_3 + 1)) < 16)) = true then ((bB w0.l (IntKind.i64.wrap (x_3 + 1))).bind fun x_7=>some (IntKind.u64.wrap x_7)) else (some 0)) (fun next_6=>bD (IntKind.u64.wrap (next_6 * 4294967296)) fun x_8=>(bB w0.l x_3).bind fun x_9=>Option.bind (Bs .u64 (lU .u64 x_8 (IntKind.u64.wrap x_9)) n0) (fun x_10=>(bB out_2.l x_3).bind fun x_11=>some (out_2.set x_3 (IntKind.u32.wrap x_10))))) (fun out_5=>some (.inl (out_5,IntKind.i64.wrap (x_3 + 1))))) else (some (.inr out_2))) (aP.zero,0)) (fun out_1=>some out_1)
theorem xY {F:Nat} {w0:aP} {n0:Int} {r:aP} (h:mG F w0 n0 = some r):az Tryz.prog (bj mx) 180 [] [.agg (eW w0),.one (.i n0)] (Is [] (.b (.agg (eW r)))):=by
 unfold mG at h
 refine az.intro 33 Tryz.func180 Tryz.ntmps180 rfl (by simp) fun E=>?_
 show ab _ E ⟨33,[],[]⟩ _ ⟨[(0,.b (.agg (eW w0))),(1,I n0)],[]⟩ _
 refine ab.seq (ab.aa ?_)
 refine Oc (aS (k:=101) rfl rfl) (Oc (aA (k:=102) cD rfl) ?_)
 refine ad.aj ⟨[(1,I n0),(2,Pt 101 0),(4,Pt 102 0)],[(101,.box 23 (eW w0)),(102,.box 23 (eW aP.zero))]⟩ rfl (ab.seq (ab.aa ?_))
 refine Oc (aA (k:=103) cD rfl) (ad.aj ⟨[(1,_),(2,_),(4,_),(5,Pt 103 0)],[(101,_),(102,_),(103,.box 23 (eW aP.zero))]⟩ rfl ?_)
 obtain ⟨v1,h2,h⟩:=aE h
 refine ab.cB (v:=v1) (fun (out_1:aP)=>⟨[(4,Pt 102 0),(5,Pt 103 0)],[(102,.box 23 (eW aP.zero)),(103,.box 23 (eW out_1))]⟩) (fun z=>z) ?_ ?_
 ·refine ab.seq (ab.aa ?_)
  refine Oc om (ad.aj ⟨[(1,_),(2,_),(4,_),(5,_),(8,I 0)],[(101,_),(102,_),(103,_)]⟩ rfl (ab.block (ab.cS h2 (b7 fun (out_2:aP) (x_3:Int)=>⟨[(1,I n0),(2,Pt 101 0),(4,Pt 102 0),(5,Pt 103 0),(8,I x_3)],[(101,.box 23 (eW w0)),(102,.box 23 (eW aP.zero)),(103,.box 23 (eW out_2))]⟩) [1,2,4,5,8] [101,102,103] rfl ?_)))
  rintro ⟨out_2,x_3⟩ o3 h4 hy5
  refine ab.seq (ab.aa ?_)
  refine Oc (bK rfl rfl) (ad.aj ⟨[(1,_),(2,_),(4,_),(5,_),(8,_),(9,B (decide (x_3 < 16)))],[(101,_),(102,_),(103,_)]⟩ rfl (ab.seq (ab.ite h4 rfl (fun _ h4=>?_) (fun _ h4=>?_))))
  ·refine ab.skip (Fin.ah ⟨[(1,_),(2,_),(4,_),(5,_),(8,_)],[(101,_),(102,_),(103,_)]⟩ rfl (Fin.then ?_))
   obtain ⟨v6,h7,h4⟩:=aE h4
   refine ab.cB (v:=v6) (fun (out_5:aP)=>⟨[(1,I n0),(2,Pt 101 0),(4,Pt 102 0),(5,Pt 103 0),(8,I x_3)],[(101,.box 23 (eW w0)),(102,.box 23 (eW aP.zero)),(103,.box 23 (eW out_5))]⟩) (fun z=>z) ?_ ?_
   ·refine ab.block (ab.seq (ab.aa ?_))
    refine Oc om (Oc oa ?_)
    refine ad.aj ⟨[(1,_),(2,_),(4,_),(5,_),(6,I x_3),(8,_)],[(101,_),(102,_),(103,_)]⟩ rfl (ab.seq (ab.aa ?_))
    refine Oc oa (ad.aj ⟨[(1,_),(2,_),(4,_),(5,_),(6,_),(7,.b (.one (.int .u64 0))),(8,_)],[(101,_),(102,_),(103,_)]⟩ rfl ?_)
    obtain ⟨v8,h9,h7⟩:=aE h7
    refine ab.cB (v:=v8) (fun (next_6:Int)=>⟨[(1,I n0),(2,Pt 101 0),(4,Pt 102 0),(5,Pt 103 0),(6,I x_3),(7,.b (.one (.int .u64 next_6))),(8,I x_3)],[(101,.box 23 (eW w0)),(102,.box 23 (eW aP.zero)),(103,.box 23 (eW out_2))]⟩) (fun z=>z) ?_ ?_
    ·refine ab.seq (ab.aa ?_)
     refine Oc om (Oc (bb rfl rfl) (Oc (bK rfl rfl) ?_))
     refine ad.aj ⟨[(1,_),(2,_),(4,_),(5,_),(6,_),(7,_),(8,_),(13,B (decide ((IntKind.i64.wrap (x_3 + 1)) < 16)))],[(101,_),(102,_),(103,_)]⟩ rfl (ab.ite h9 rfl (fun _ h9=>?_) (fun _ h9=>?_))
     ·refine ab.aa (Oc om (Oc (bb rfl rfl) ?_))
      obtain ⟨x_7,e10,h9⟩:=aE h9
      refine Oc (aN bE (bp e10) (b9 e10) rfl rfl rfl) (Oc (ax bl rfl rfl (cc (post:=[]) (k:=.u32) [] e10 rfl rfl rfl)) (Oc (aF bG bu rfl) (Oc oa ?_)))
      refine ad.nil ?_
      exact Fin.join [1,2,4,5,6,7,8] [101,102,103] (IntKind.u64.wrap x_7) (Option.some.inj h9) rfl
     ·refine ab.skip ?_
      exact Fin.join [1,2,4,5,6,7,8] [101,102,103] 0 (Option.some.inj h9) rfl
    ·rintro next_6 hv
     subst v8
     refine ab.aa (Oc om (Oc om ?_))
     refine ad.cp .u64 h7 rfl (ns (m:=32) (q:=4294967296) (by decide) rfl rfl (by decide)) (fun x_8 h7=>?_)
     refine Oc om ?_
     obtain ⟨x_9,e11,h7⟩:=aE h7
     refine Oc (aN bE (bp e11) (b9 e11) rfl rfl rfl) (Oc (ax bl rfl rfl (cc (post:=[]) (k:=.u32) [] e11 rfl rfl rfl)) (Oc (aF bG bu rfl) ?_))
     refine ad.ah ⟨[(1,_),(2,_),(4,_),(5,_),(8,_),(19,I x_3),(21,.b (.one (.int .u64 x_8))),(25,.b (.one (.int .u64 (IntKind.u64.wrap x_9))))],[(101,_),(102,_),(103,_)]⟩ rfl (Oc (ss rfl rfl) (Oc om ?_))
     obtain ⟨x_10,e12,h7⟩:=aE h7
     refine Oc (op_shr3 e12 rfl rfl) (Oc (aF bu bG rfl) ?_)
     obtain ⟨x_11,e13,h7⟩:=aE h7
     refine Oc (aN bE (bp e13) (b9 e13) rfl rfl rfl) (Oc (bQ bl rfl rfl rfl (jr (post:=[]) (k:=.u32) [] e13 rfl rfl rfl) (gW (post:=[]) (k:=.u32) [] e13 rfl rfl (aP.iO out_2 x_3 (IntKind.u32.wrap x_10)) rfl rfl)) ?_)
     refine ad.nil (Fin.aH ?_)
     exact Fin.join [1,2,4,5,8] [101,102,103] (out_2.set x_3 (IntKind.u32.wrap x_10)) (Option.some.inj h7) rfl
   ·rintro out_5 hv
    subst v6
    refine ab.aa (Oc (bb rfl rfl) (Oc om ?_))
    refine ad.nil ?_
    exact Fin.bR [1,2,4,5,8] [101,102,103] (out_5,IntKind.i64.wrap (x_3 + 1)) (Option.some.inj h4) rfl
  ·refine ab.exit (Fin.aG ?_)
   obtain rfl:=hy5 _ (Option.some.inj h4).symm
   refine Fin.aG (Fin.aY ?_)
   exact Fin.join [4,5] [102,103] out_2 rfl rfl
 ·rintro out_1 hv
  subst v1
  refine ab.seq (ab.aa ?_)
  refine Oc (lp aK) (Oc (ag aK rfl rfl rfl rfl (Nat.le_of_ble_eq_true rfl) rfl) ?_)
  refine ad.aj ⟨[(4,_)],[(102,.box 23 (eW out_1))]⟩ rfl (ab.ret ?_)
  obtain rfl:=Option.some.inj h
  refine Fin.ah ⟨[(4,_)],[(102,_)]⟩ rfl (Fin.aq [.agg (eW out_1)] (.inl rfl) rfl (.cons (.agg aK rfl rfl rfl rfl) .nil) ⟨rfl,rfl⟩)
def iz (F:Nat) (a0:aP) (b0:aP):Option (aP × aP) :=
 (hC F b0).bind fun x_1=>(hC F a0).bind fun x_2=>(kS F a0 b0).bind fun x_3=>if (decide (x_3 < 0)) = true then (some (aP.zero,a0)) else (if (decide (x_1 = 1)) = true then (Option.bind (kR F a0 b0.a0) (b7 fun x_4 x_5=>bD (⟨x_5,0,0,0,0,0,0,0,0,0,0,0,0,0,0,0⟩:aP) fun x_6=>some (x_4,x_6))) else ((bB b0.l (IntKind.i64.wrap (x_1 - 1))).bind fun x_7=>(dX F x_7).bind fun x_8=>Option.bind (rZ F b0 x_8) (b7 fun x_9 x_10=>Option.bind (rZ F a0 x_8) (b7 fun x_11 x_12=>Option.bind (iter F (kA fun q_15 u_16 j_17=>if (decide (0 ≤ j_17)) = true then (Option.bind ((kT F x_9 x_1 j_17 u_16).bind fun x_22=>Option.bind (Option.bind (mE F x_9 x_1 j_17 x_22 u_16) (b7 fun x_25 x_26=>if x_25 = true then ((mF F x_9 x_1 j_17 x_26).bind fun x_27=>some (x_27,IntKind.u64.wrap (x_22 - 1))) else (some (x_26,x_22)))) (b7 fun u_23 d_24=>(bB q_15.l j_17).bind fun x_28=>some (q_15.set j_17 (IntKind.u32.wrap d_24),u_23))) (b7 fun q_20 u_21=>some (.inl (q_20,u_21,IntKind.i64.wrap (j_17 - 1))))) else (some (.inr (q_15,u_16)))) (aP.zero,(⟨(cA.of (bV cA.zero.l 0 ((x_11.l.drop 0).take 16))).a0,(cA.of (bV cA.zero.l 0 ((x_11.l.drop 0).take 16))).a1,(cA.of (bV cA.zero.l 0 ((x_11.l.drop 0).take 16))).a2,(cA.of (bV cA.zero.l 0 ((x_11.l.drop 0).take 16))).a3,(cA.of (bV cA.zero.l 0 ((x_11.l.drop 0).take 16))).a4,(cA.of (bV cA.zero.l 0 ((x_11.l.drop 0).take 16))).a5,(cA.of (bV cA.zero.l 0 ((x_11.l.drop 0).take 16))).a6,(cA.of (bV cA.zero.l 0 ((x_11.l.drop 0).take 16))).a7,(cA.of (bV cA.zero.l 0 ((x_11.l.drop 0).take 16))).a8,(cA.of (bV cA.zero.l 0 ((x_11.l.drop 0).take 16))).a9,(cA.of (bV cA.zero.l 0 ((x_11.l.drop 0).take 16))).a10,(cA.of (bV cA.zero.l 0 ((x_11.l.drop 0).take 16))).a11,(cA.of (bV cA.zero.l 0 ((x_11.l.drop 0).take 16))).a12,(cA.of (bV cA.zero.l 0 ((x_11.l.drop 0).take 16))).a13,(cA.of (bV cA.zero.l 0 ((x_11.l.drop 0).take 16))).a14,(cA.of (bV cA.zero.l 0 ((x_11.l.drop 0).take 16))).a15,x_12⟩:cA),IntKind.i64.wrap (x_2 - x_1))) (b7 fun q_13 u_14=>(mG F (⟨u_14.a0,u_14.a1,u_14.a2,u_14.a3,u_14.a4,u_14.a5,u_14.a6,u_14.a7,u_14.a8,u_14.a9,u_14.a10,u_14.a11,u_14.a12,u_14.a13,u_14.a14,u_14.a15⟩:aP) x_8).bind fun x_29=>some (q_13,x_29))))))
theorem n4 {F:Nat} {a0:aP} {b0:aP} {r:aP × aP} (h:iz F a0 b0 = some r):az Tryz.prog (bj mx) 138 [] [.agg (eW a0),.agg (eW b0)] (Is [] (.fE [.agg (eW r.1),.agg (eW r.2)])):=by
 unfold iz at h
 refine az.intro 94 Tryz.func138 Tryz.ntmps138 rfl (by simp) fun E=>?_
 show ab _ E ⟨94,[],[]⟩ _ ⟨[(0,.b (.agg (eW a0))),(1,.b (.agg (eW b0)))],[]⟩ _
 refine ab.seq (ab.aa ?_)
 refine Oc (aS (k:=101) rfl rfl) (Oc (aS (k:=102) rfl rfl) (Oc (aA (k:=103) cD rfl) (Oc (aA (k:=104) cD rfl) ?_)))
 refine ad.aj ⟨[(2,Pt 101 0),(3,Pt 102 0),(4,Pt 103 0),(5,Pt 104 0)],[(101,.box 23 (eW a0)),(102,.box 23 (eW b0)),(103,.box 23 (eW aP.zero)),(104,.box 23 (eW aP.zero))]⟩ rfl (ab.seq ?_)
 obtain ⟨x_1,e1,h⟩:=aE h
 obtain ⟨x_2,e2,h⟩:=aE h
 refine ab.bP mixed 6 [.b (.agg (eW b0)),I x_1,.b (.agg (eW a0)),I x_2,I x_1,I x_2] [2,3,4,5,6,7] [101,102,103,104] (s':=⟨[(2,_),(3,_),(4,_),(5,_),(6,I x_1),(7,I x_2)],[(101,_),(102,_),(103,_),(104,_)]⟩) rfl ⟨fun _=>.p (lp aK),fun _=>.p (ae (ig e1) nC rfl rfl),fun _=>.p (lp aK),fun _=>.p (ae (ig e2) nC rfl rfl),fun _=>.p oa,fun _=>.p oa,trivial⟩ rfl rfl (ab.seq (ab.seq (ab.aa ?_)))
 refine Oc (lp aK) (Oc (lp aK) ?_)
 obtain ⟨x_3,e3,h⟩:=aE h
 refine Oc (ae (rC e3) AX rfl rfl) (Oc (bK rfl rfl) ?_)
 refine ad.aj ⟨[(2,_),(3,_),(4,_),(5,_),(6,_),(7,_),(25,B (decide (x_3 < 0)))],[(101,_),(102,_),(103,_),(104,_)]⟩ rfl (ab.ite h rfl (fun _ h=>?_) (fun _ h=>?_))
 ·refine ab.seq (ab.ah ⟨[(2,_),(4,_),(5,_)],[(101,_),(103,_),(104,_)]⟩ rfl (ab.pz mixed [false,false,true,true] [.b (.agg (eW aP.zero)),.b (.agg (eW a0)),B true,B true] [⟨[false,false,false,false],[(2,Pt 101 0),(4,Pt 103 0),(5,Pt 104 0)],[(101,.box 23 (eW a0)),(103,.box 23 (eW aP.zero)),(104,.box 23 (eW aP.zero))],[true,true,true,true],[]⟩,⟨[false,false,true,false],[(2,Pt 101 0),(4,Pt 103 0),(5,Pt 104 0)],[(101,.box 23 (eW a0)),(103,.box 23 (eW aP.zero)),(104,.box 23 (eW aP.zero))],[true,true,true,true],[0,2]⟩,⟨[false,false,true,true],[(2,Pt 101 0),(4,Pt 103 0),(5,Pt 104 0)],[(101,.box 23 (eW a0)),(103,.box 23 (eW aP.zero)),(104,.box 23 (eW a0))],[true,true,true,true],[0,1,2,3]⟩] rfl (⟨by kernel_rfl,⟨⟨.b (.agg (eW aP.zero)),fun _=>rfl,fun _=>.p (by exact fg gh rfl rfl)⟩,⟨.b (.agg (eW a0)),fun _=>rfl,fun _=>.p (by exact aQ aK rfl rfl rfl rfl)⟩,⟨_,none,.b (.one .any),rfl,(fun e=>by simp at e),rfl,rfl,fun _=>.qP [101,103,104] (by exact .p (by exact ag aK rfl rfl rfl rfl (Nat.le_of_ble_eq_true rfl) rfl)) (by exact rfl)⟩,trivial,trivial⟩,⟨by kernel_rfl,⟨trivial,⟨.b (.agg (eW a0)),fun _=>rfl,fun _=>.p (by exact aQ aK rfl rfl rfl rfl)⟩,trivial,⟨_,none,.b (.one .any),rfl,(fun e=>by simp at e),rfl,rfl,fun _=>.qP [101,103,104] (by exact .p (by exact ag aK rfl rfl rfl rfl (Nat.le_of_ble_eq_true rfl) rfl)) (by exact rfl)⟩,trivial⟩,⟨by kernel_rfl,⟨trivial,trivial,trivial,trivial,trivial⟩,trivial⟩⟩⟩) rfl rfl rfl [4,5] [103,104] (s':=⟨[(4,_),(5,_)],[(103,_),(104,.box 23 (eW a0))]⟩) rfl (ab.ret (Fin.ar ?_))))
  obtain rfl:=Option.some.inj h
  refine Fin.ah ⟨[(4,_),(5,_)],[(103,_),(104,_)]⟩ rfl (Fin.aq [.agg (eW aP.zero),.agg (eW a0)] (.inl rfl) rfl (.cons (.agg aK rfl rfl rfl rfl) (.cons (.agg aK rfl rfl rfl rfl) .nil)) ⟨rfl,rfl⟩)
 ·refine ab.skip (Fin.ah ⟨[(2,_),(3,_),(4,_),(5,_),(6,_),(7,_)],[(101,_),(102,_),(103,_),(104,_)]⟩ rfl (Fin.then (ab.seq (ab.seq (ab.aa ?_)))))
  refine Oc om (Oc (cy rfl rfl) ?_)
  refine ad.aj ⟨[(2,_),(3,_),(4,_),(5,_),(6,_),(7,_),(29,B (decide (x_1 = 1)))],[(101,_),(102,_),(103,_),(104,_)]⟩ rfl (ab.ite h rfl (fun _ h=>?_) (fun _ h=>?_))
  ·refine ab.seq (ab.aa ?_)
   refine Oc (lp aK) (Oc (aN bE (by decide) (by decide) rfl rfl rfl) (Oc (ax bl rfl rfl rfl) ?_))
   obtain ⟨⟨x_4,x_5⟩,e4,h⟩:=aE h
   refine Oc (ae (rB e4) AZ rfl rfl) (Oc om ?_)
   refine ad.ah ⟨[(4,_),(5,_),(30,.fE [.agg (eW x_4),.one (.int .u32 x_5)])],[(103,_),(104,_)]⟩ rfl (Oc (ay rfl rfl) (Oc (ay rfl rfl) (Oc (aA (k:=105) cD rfl) (Oc (ag aK rfl rfl rfl rfl (Nat.le_of_ble_eq_true rfl) rfl) (Oc oa ?_)))))
   refine ad.aj ⟨[(4,_),(5,_),(8,Pt 105 0),(9,.b (.one (.int .u32 x_5)))],[(103,_),(104,_),(105,.box 23 (eW x_4))]⟩ rfl (ab.seq (ab.aa ?_))
   refine Oc (lp aK) (Oc om ?_)
   refine ad.ek eW h rfl (fg gh rfl rfl) (fun x_6 h=>?_)
   refine Oc (ag aK rfl rfl rfl rfl (Nat.le_of_ble_eq_true rfl) rfl) (Oc (ag aK rfl rfl rfl rfl (Nat.le_of_ble_eq_true rfl) rfl) ?_)
   refine ad.aj ⟨[(4,_),(5,_)],[(103,.box 23 (eW x_4)),(104,.box 23 (eW x_6))]⟩ rfl (ab.ret (Fin.ar ?_))
   obtain rfl:=Option.some.inj h
   refine Fin.ah ⟨[(4,_),(5,_)],[(103,_),(104,_)]⟩ rfl (Fin.aq [.agg (eW x_4),.agg (eW x_6)] (.inl rfl) rfl (.cons (.agg aK rfl rfl rfl rfl) (.cons (.agg aK rfl rfl rfl rfl) .nil)) ⟨rfl,rfl⟩)
  ·refine ab.skip (Fin.ah ⟨[(2,_),(3,_),(4,_),(5,_),(6,_),(7,_)],[(101,_),(102,_),(103,_),(104,_)]⟩ rfl (Fin.then (ab.seq (ab.aa ?_))))
   refine Oc om (Oc (bX rfl rfl) ?_)
   obtain ⟨x_7,e5,h⟩:=aE h
   refine Oc (aN bE (bp e5) (b9 e5) rfl rfl rfl) (Oc (ax bl rfl rfl (cc (post:=[]) (k:=.u32) [] e5 rfl rfl rfl)) ?_)
   obtain ⟨x_8,e6,h⟩:=aE h
   refine Oc (ae (mB e6) goes175 rfl rfl) (Oc oa ?_)
   refine ad.aj ⟨[(2,_),(3,_),(4,_),(5,_),(6,_),(7,_),(10,I x_8)],[(101,_),(102,_),(103,_),(104,_)]⟩ rfl (ab.seq (ab.aa ?_))
   refine Oc (lp aK) (Oc om ?_)
   obtain ⟨⟨x_9,x_10⟩,e7,h⟩:=aE h
   refine Oc (ae (vj e7) AQ rfl rfl) (Oc om (Oc (ay rfl rfl) ?_))
   refine ad.ah ⟨[(2,_),(4,_),(5,_),(6,_),(7,_),(10,_),(45,.fE [.agg (eW x_9),.one (.int .u32 x_10)]),(49,.b (.agg (eW x_9)))],[(101,_),(103,_),(104,_)]⟩ rfl (Oc (ay rfl rfl) (Oc (aA (k:=106) cD rfl) (Oc (ag aK rfl rfl rfl rfl (Nat.le_of_ble_eq_true rfl) rfl) (Oc oa ?_))))
   refine ad.aj ⟨[(2,_),(4,_),(5,_),(6,_),(7,_),(10,_),(11,Pt 106 0)],[(101,_),(103,_),(104,_),(106,.box 23 (eW x_9))]⟩ rfl (ab.seq (ab.aa ?_))
   refine Oc (lp aK) (Oc om ?_)
   obtain ⟨⟨x_11,x_12⟩,e8,h⟩:=aE h
   refine Oc (ae (vj e8) AQ rfl rfl) (Oc om (Oc (ay rfl rfl) ?_))
   refine ad.ah ⟨[(4,_),(5,_),(6,_),(7,_),(10,_),(11,_),(51,.fE [.agg (eW x_11),.one (.int .u32 x_12)]),(55,.b (.agg (eW x_11)))],[(103,_),(104,_),(106,_)]⟩ rfl (Oc (ay rfl rfl) (Oc (aA (k:=107) cD rfl) (Oc (ag aK rfl rfl rfl rfl (Nat.le_of_ble_eq_true rfl) rfl) (Oc oa ?_))))
   refine ad.aj ⟨[(4,_),(5,_),(6,_),(7,_),(10,_),(11,_),(13,Pt 107 0),(14,.b (.one (.int .u32 x_12)))],[(103,_),(104,_),(106,_),(107,.box 23 (eW x_11))]⟩ rfl (ab.seq (ab.aa ?_))
   refine Oc (aA (k:=108) Bw rfl) (ad.aj ⟨[(4,_),(5,_),(6,_),(7,_),(10,_),(11,_),(13,_),(14,_),(15,Pt 108 0)],[(103,_),(104,_),(106,_),(107,_),(108,.box 186 ((jn .u32) cA.zero))]⟩ rfl (ab.seq (ab.bP mixed 2 [.b (.s9 108 0 17 17),.b (.s9 107 0 16 16)] [4,5,6,7,10,11,14,15] [103,104,106,108] (s':=⟨[(4,_),(5,_),(6,_),(7,_),(10,_),(11,_),(14,_),(15,_)],[(103,_),(104,_),(106,_),(108,.box 186 ((jn .u32) (cA.of (bV cA.zero.l 0 ((x_11.l.drop 0).take 16)))))]⟩) rfl ⟨fun _=>.p (uA fI (by decide) rfl),fun _=>.p (uA bE (by decide) rfl),trivial⟩ ⟨_,by exact .p (yq (m:=16) tySl158 (by decide) (by first | decide | (show 16 ≤ 9223372036854775807; omega)) rfl rfl rfl rfl (by first | decide | (show 0 + 16 ≤ 17; omega)) (by first | decide | (show 0 + 16 ≤ 16; omega)) (zy (a:=0) (a2:=0) (off:=0) (off2:=0) (post:=[]) (post2:=[]) (l:=cA.zero.l) (l2:=x_11.l) (kd:=.u32) (lo:=0) (lo2:=0) [] [] rfl rfl rfl rfl (by rfl) (by rfl) (by first | decide | (show 0 + 16 ≤ 17; omega)) (by first | decide | (show 0 + 16 ≤ 16; omega)) (cA.uU (wS rfl (by first | decide | (show 0 + 16 ≤ 17; omega)) (by first | decide | (show 0 + 16 ≤ 16; omega)))) rfl)),rfl⟩ rfl (ab.seq (ab.aa ?_)))))
   refine Oc om (Oc (aN fI (by decide) (by decide) rfl rfl rfl) (Oc (bQ bl rfl rfl rfl (Nat.le_of_ble_eq_true rfl) rfl) ?_))
   refine ad.aj ⟨[(4,_),(5,_),(6,_),(7,_),(10,_),(11,_),(15,_)],[(103,_),(104,_),(106,_),(108,.box 186 [.int .u32 ((cA.of (bV cA.zero.l 0 ((x_11.l.drop 0).take 16))).a0),.int .u32 ((cA.of (bV cA.zero.l 0 ((x_11.l.drop 0).take 16))).a1),.int .u32 ((cA.of (bV cA.zero.l 0 ((x_11.l.drop 0).take 16))).a2),.int .u32 ((cA.of (bV cA.zero.l 0 ((x_11.l.drop 0).take 16))).a3),.int .u32 ((cA.of (bV cA.zero.l 0 ((x_11.l.drop 0).take 16))).a4),.int .u32 ((cA.of (bV cA.zero.l 0 ((x_11.l.drop 0).take 16))).a5),.int .u32 ((cA.of (bV cA.zero.l 0 ((x_11.l.drop 0).take 16))).a6),.int .u32 ((cA.of (bV cA.zero.l 0 ((x_11.l.drop 0).take 16))).a7),.int .u32 ((cA.of (bV cA.zero.l 0 ((x_11.l.drop 0).take 16))).a8),.int .u32 ((cA.of (bV cA.zero.l 0 ((x_11.l.drop 0).take 16))).a9),.int .u32 ((cA.of (bV cA.zero.l 0 ((x_11.l.drop 0).take 16))).a10),.int .u32 ((cA.of (bV cA.zero.l 0 ((x_11.l.drop 0).take 16))).a11),.int .u32 ((cA.of (bV cA.zero.l 0 ((x_11.l.drop 0).take 16))).a12),.int .u32 ((cA.of (bV cA.zero.l 0 ((x_11.l.drop 0).take 16))).a13),.int .u32 ((cA.of (bV cA.zero.l 0 ((x_11.l.drop 0).take 16))).a14),.int .u32 ((cA.of (bV cA.zero.l 0 ((x_11.l.drop 0).take 16))).a15),.int .u32 x_12])]⟩ rfl ?_
   obtain ⟨v9,h10,h⟩:=aE h
   refine ab.cB (v:=v9) (b7 fun (q_13:aP) (u_14:cA)=>⟨[(4,Pt 103 0),(5,Pt 104 0),(10,I x_8),(15,Pt 108 0)],[(103,.box 23 (eW q_13)),(104,.box 23 (eW aP.zero)),(108,.box 186 ((jn .u32) u_14))]⟩) (fun z=>z) ?_ ?_
   ·refine ab.seq (ab.aa ?_)
    refine Oc om (Oc om (Oc (bX rfl rfl) (Oc oa ?_)))
    refine ad.aj ⟨[(4,_),(5,_),(6,_),(10,_),(11,_),(15,_),(16,I (IntKind.i64.wrap (x_2 - x_1)))],[(103,_),(104,_),(106,_),(108,_)]⟩ rfl (ab.block (ab.cS h10 (kA fun (q_15:aP) (u_16:cA) (j_17:Int)=>⟨[(4,Pt 103 0),(5,Pt 104 0),(6,I x_1),(10,I x_8),(11,Pt 106 0),(15,Pt 108 0),(16,I j_17)],[(103,.box 23 (eW q_15)),(104,.box 23 (eW aP.zero)),(106,.box 23 (eW x_9)),(108,.box 186 ((jn .u32) u_16))]⟩) [4,5,6,10,11,15,16] [103,104,106,108] rfl ?_))
    rintro ⟨q_15,u_16,j_17⟩ o11 h12 hy13
    refine ab.seq (ab.seq (ab.aa ?_))
    refine Oc om (Oc (fy rfl rfl) ?_)
    refine ad.aj ⟨[(4,_),(5,_),(6,_),(10,_),(11,_),(15,_),(16,_),(66,B (decide (0 ≤ j_17)))],[(103,_),(104,_),(106,_),(108,_)]⟩ rfl (ab.ite h12 rfl (fun _ h12=>?_) (fun _ h12=>?_))
    ·refine ab.skip (Fin.ah ⟨[(4,_),(5,_),(6,_),(10,_),(11,_),(15,_),(16,_)],[(103,_),(104,_),(106,_),(108,_)]⟩ rfl (Fin.then ?_))
     obtain ⟨v14,h15,h12⟩:=aE h12
     refine ab.cB (v:=v14) (b7 fun (q_20:aP) (u_21:cA)=>⟨[(4,Pt 103 0),(5,Pt 104 0),(6,I x_1),(10,I x_8),(11,Pt 106 0),(15,Pt 108 0),(16,I j_17)],[(103,.box 23 (eW q_20)),(104,.box 23 (eW aP.zero)),(106,.box 23 (eW x_9)),(108,.box 186 ((jn .u32) u_21))]⟩) (fun z=>z) ?_ ?_
     ·refine ab.block (ab.seq (ab.aa ?_))
      refine Oc (lp aK) (Oc om (Oc om ?_))
      obtain ⟨x_22,e16,h15⟩:=aE h15
      refine Oc (jU (own_a:=[(108,_)]) ((wR e16).sw 1 108) goes177 rfl ⟨rfl,trivial⟩ rfl rfl) (Oc oa ?_)
      refine ad.aj ⟨[(4,_),(5,_),(6,_),(10,_),(11,_),(15,_),(16,_),(17,.b (.one (.int .u64 x_22)))],[(103,_),(104,_),(106,_),(108,_)]⟩ rfl ?_
      obtain ⟨v17,h18,h15⟩:=aE h15
      refine ab.cB (v:=v17) (b7 fun (u_23:cA) (d_24:Int)=>⟨[(4,Pt 103 0),(5,Pt 104 0),(6,I x_1),(10,I x_8),(11,Pt 106 0),(15,Pt 108 0),(16,I j_17),(17,.b (.one (.int .u64 d_24)))],[(103,.box 23 (eW q_15)),(104,.box 23 (eW aP.zero)),(106,.box 23 (eW x_9)),(108,.box 186 ((jn .u32) u_23))]⟩) (fun z=>z) ?_ ?_
      ·refine ab.seq (ab.aa ?_)
       refine Oc (lp aK) (Oc om (Oc om (Oc om ?_)))
       obtain ⟨⟨x_25,x_26⟩,e19,h18⟩:=aE h18
       refine Oc (jU (own_a:=[(108,_)]) ((xV e19).sw 1 108) goes178 rfl ⟨rfl,trivial⟩ rfl rfl) (ad.aj ⟨[(4,_),(5,_),(6,_),(10,_),(11,_),(15,_),(16,_),(17,_),(77,B x_25)],[(103,_),(104,_),(106,_),(108,.box 186 ((jn .u32) x_26))]⟩ rfl (ab.ite h18 rfl (fun _ h18=>?_) (fun _ h18=>?_)))
       ·refine ab.seq (ab.aa ?_)
        refine Oc om (Oc (bX rfl rfl) (Oc oa ?_))
        refine ad.aj ⟨[(4,_),(5,_),(6,_),(10,_),(11,_),(15,_),(16,_),(17,.b (.one (.int .u64 (IntKind.u64.wrap (x_22 - 1)))))],[(103,_),(104,_),(106,_),(108,_)]⟩ rfl (ab.aa (Oc (lp aK) (Oc om (Oc om ?_))))
        obtain ⟨x_27,e20,h18⟩:=aE h18
        refine Oc (jU (own_a:=[(108,_)]) ((xX e20).sw 1 108) goes179 rfl ⟨rfl,trivial⟩ rfl rfl) (ad.nil ?_)
        exact Fin.join [4,5,6,10,11,15,16,17] [103,104,106,108] (x_27,IntKind.u64.wrap (x_22 - 1)) (Option.some.inj h18) rfl
       ·refine ab.skip ?_
        exact Fin.join [4,5,6,10,11,15,16,17] [103,104,106,108] (x_26,x_22) (Option.some.inj h18) rfl
      ·rintro ⟨u_23,d_24⟩ hv
       subst v17
       refine ab.aa (Oc om (Oc om (Oc (aF bu bG rfl) ?_)))
       obtain ⟨x_28,e21,h15⟩:=aE h15
       refine Oc (aN bE (bp e21) (b9 e21) rfl rfl rfl) (Oc (bQ bl rfl rfl rfl (jr (post:=[]) (k:=.u32) [] e21 rfl rfl rfl) (gW (post:=[]) (k:=.u32) [] e21 rfl rfl (aP.iO q_15 j_17 (IntKind.u32.wrap d_24)) rfl rfl)) ?_)
       refine ad.nil (Fin.aH ?_)
       exact Fin.join [4,5,6,10,11,15,16] [103,104,106,108] (q_15.set j_17 (IntKind.u32.wrap d_24),u_23) (Option.some.inj h15) rfl
     ·rintro ⟨q_20,u_21⟩ hv
      subst v14
      refine ab.aa (Oc om (Oc (bX rfl rfl) (Oc oa ?_)))
      refine ad.nil ?_
      exact Fin.bR [4,5,6,10,11,15,16] [103,104,106,108] (q_20,u_21,IntKind.i64.wrap (j_17 - 1)) (Option.some.inj h12) rfl
    ·refine ab.exit (Fin.aG ?_)
     obtain rfl:=hy13 _ (Option.some.inj h12).symm
     refine Fin.aG (Fin.aY ?_)
     exact Fin.join [4,5,10,15] [103,104,108] (q_15,u_16) rfl rfl
   ·rintro ⟨q_13,u_14⟩ hv
    subst v9
    refine ab.seq (ab.ah ⟨[(4,_),(5,_),(10,_),(15,_)],[(103,_),(104,_),(108,_)]⟩ rfl ?_)
    obtain ⟨x_29,e22,h⟩:=aE h
    refine ab.bP mixed 6 [.b (.agg (eW q_13)),.b (.s9 108 0 16 17),Pt 108 0,.b (.agg [.int .u32 u_14.a0,.int .u32 u_14.a1,.int .u32 u_14.a2,.int .u32 u_14.a3,.int .u32 u_14.a4,.int .u32 u_14.a5,.int .u32 u_14.a6,.int .u32 u_14.a7,.int .u32 u_14.a8,.int .u32 u_14.a9,.int .u32 u_14.a10,.int .u32 u_14.a11,.int .u32 u_14.a12,.int .u32 u_14.a13,.int .u32 u_14.a14,.int .u32 u_14.a15]),I x_8,.b (.agg (eW x_29))] [4,5] [103,104] (s':=⟨[(4,_),(5,_)],[(103,_),(104,.box 23 (eW x_29))]⟩) rfl ⟨fun _=>.p (lp aK),fun _=>.p (sI (i:=16) fI (by decide) (by decide) rfl rfl),fun _=>.p (ug bE (by decide) rfl),fun _=>.p (lp aK),fun _=>.p om,fun _=>.p (ae (xY e22) goes180 rfl rfl),trivial⟩ ⟨_,by exact .p (ag aK rfl rfl rfl rfl (Nat.le_of_ble_eq_true rfl) rfl),⟨_,by exact .p (ag aK rfl rfl rfl rfl (Nat.le_of_ble_eq_true rfl) rfl),rfl⟩⟩ rfl (ab.ret ?_)
    obtain rfl:=Option.some.inj h
    refine Fin.ah ⟨[(4,_),(5,_)],[(103,_),(104,_)]⟩ rfl (Fin.aq [.agg (eW q_13),.agg (eW x_29)] (.inl rfl) rfl (.cons (.agg aK rfl rfl rfl rfl) (.cons (.agg aK rfl rfl rfl rfl) .nil)) ⟨rfl,rfl⟩)
def py (F:Nat) (x0:bt):Option bt :=
 (eL F [x0]).bind fun x_1=>if (!x_1) = true then ((fV F).bind fun x_2=>some x_2) else ((cL F false x0.W).bind fun x_3=>some x_3)
theorem zp {F:Nat} {x0:bt} {r:bt} (h:py F x0 = some r):az Tryz.prog (bj mx) 139 [] [.agg (au x0)] (Is [] (.b (.agg (au r)))):=by
 unfold py at h
 refine az.intro 11 Tryz.func139 Tryz.ntmps139 rfl (by simp) fun E=>?_
 show ab _ E ⟨11,[],[]⟩ _ ⟨[(0,.b (.agg (au x0)))],[]⟩ _
 refine ab.seq (ab.aa ?_)
 refine Oc (aS (k:=101) rfl rfl) (Oc (aA (k:=102) bx rfl) ?_)
 refine ad.aj ⟨[(1,Pt 101 0),(2,Pt 102 0)],[(101,.box 25 (au x0)),(102,.box 25 cO)]⟩ rfl (ab.seq (ab.seq (ab.aa ?_)))
 refine Oc (lp ao) (Oc (br (k:=103) (es:=[x0].map au) ju rfl rfl (c5 fun _=>rfl) rfl (by decide) (by decide) rfl) ?_)
 obtain ⟨x_1,e1,h⟩:=aE h
 refine Oc (eQ (fc e1) jV rfl CP.dJ) (Oc (bq rfl) ?_)
 refine ad.aj ⟨[(1,_),(2,_),(6,B (!x_1))],[(101,_),(102,_)]⟩ rfl (ab.ite h rfl (fun _ h=>?_) (fun _ h=>?_))
 ·refine ab.seq (ab.aa ?_)
  obtain ⟨x_2,e2,h⟩:=aE h
  refine Oc (ae (ec e2) iu rfl rfl) (Oc (ag ao rfl rfl rfl rfl (Nat.le_of_ble_eq_true rfl) rfl) ?_)
  refine ad.aj ⟨[(2,_)],[(102,.box 25 (au x_2))]⟩ rfl (ab.ret (Fin.ar ?_))
  obtain rfl:=Option.some.inj h
  refine Fin.ah ⟨[(2,_)],[(102,_)]⟩ rfl (Fin.aq [.agg (au x_2)] (.inl rfl) rfl (.cons (.agg ao rfl rfl rfl rfl) .nil) ⟨rfl,rfl⟩)
 ·refine ab.skip (Fin.ah ⟨[(1,_),(2,_)],[(101,_),(102,_)]⟩ rfl (Fin.then (ab.seq (ab.aa ?_))))
  refine Oc (af ba rfl rfl) (Oc (lp aK) ?_)
  obtain ⟨x_3,e3,h⟩:=aE h
  refine Oc (ae (cJ e3) iw rfl rfl) (Oc (ag ao rfl rfl rfl rfl (Nat.le_of_ble_eq_true rfl) rfl) ?_)
  refine ad.aj ⟨[(2,_)],[(102,.box 25 (au x_3))]⟩ rfl (ab.ret ?_)
  obtain rfl:=Option.some.inj h
  refine Fin.ah ⟨[(2,_)],[(102,_)]⟩ rfl (Fin.aq [.agg (au x_3)] (.inl rfl) rfl (.cons (.agg ao rfl rfl rfl rfl) .nil) ⟨rfl,rfl⟩)
def nm (F:Nat):Nat → bt → bt → Option bt
 | 0,_,_=>none
 | n + 1,a0,b0=>(eL F [a0,b0]).bind fun x_1=>if (!x_1) = true then ((fV F).bind fun x_2=>some x_2) else (Option.bind ((hC F a0.W).bind fun x_3=>(bA (decide (x_3 ≤ 2)) (hC F b0.W)).bind fun x_4=>if ((decide (x_3 ≤ 2)) && (decide (x_4 ≤ 2))) = true then (Option.bind (iter F (b7 fun x_6 y_7=>if (decide (y_7 ≠ 0)) = true then ((tC x_6 y_7).bind fun x_9=>some (.inl (y_7,x_9))) else (some (.inr x_6))) (lU .u64 (IntKind.u64.wrap ((IntKind.u64.wrap a0.W.a1) * 4294967296)) (IntKind.u64.wrap a0.W.a0),lU .u64 (IntKind.u64.wrap ((IntKind.u64.wrap b0.W.a1) * 4294967296)) (IntKind.u64.wrap b0.W.a0))) (fun x_5=>bD (⟨IntKind.u32.wrap x_5,IntKind.u32.wrap (x_5 / 4294967296),0,0,0,0,0,0,0,0,0,0,0,0,0,0⟩:aP) fun x_10=>(cL F false x_10).bind fun x_11=>some (.inr x_11))) else (some (.inl ()))) (j4 (fun _=>if (decide (b0.W ≠ aP.zero)) = true then (Option.bind (iz F a0.W b0.W) (b7 fun x_12 x_13=>(cL F false b0.W).bind fun x_14=>(cL F false x_13).bind fun x_15=>(nm F n x_14 x_15).bind fun x_16=>some x_16)) else ((py F a0).bind fun x_17=>some x_17)) (fun y=>some y)))
def px (F:Nat) (a0:bt) (b0:bt):Option bt:=nm F F a0 b0
theorem xZ {F:Nat}:∀ (n:Nat) {a0:bt} {b0:bt} {r:bt} (h:nm F n a0 b0 = some r),az Tryz.prog (bj mx) 77 [] [.agg (au a0),.agg (au b0)] (Is [] (.b (.agg (au r)))):=by
 intro n
 induction n with
 | zero=>intro a0 b0 r h; simp [nm] at h
 | succ n ih=>
 intro a0 b0 r h
 unfold nm at h
 refine az.intro 80 Tryz.func77 Tryz.ntmps77 rfl (by simp) fun E=>?_
 show ab _ E ⟨80,[],[]⟩ _ ⟨[(0,.b (.agg (au a0))),(1,.b (.agg (au b0)))],[]⟩ _
 refine ab.seq (ab.aa ?_)
 refine Oc (aS (k:=101) rfl rfl) (Oc (aS (k:=102) rfl rfl) (Oc (aA (k:=103) bx rfl) ?_))
 refine ad.aj ⟨[(2,Pt 101 0),(3,Pt 102 0),(4,Pt 103 0)],[(101,.box 25 (au a0)),(102,.box 25 (au b0)),(103,.box 25 cO)]⟩ rfl (ab.seq (ab.seq (ab.aa ?_)))
 refine Oc (lp ao) (Oc (lp ao) (Oc (br (k:=104) (es:=[a0,b0].map au) ju rfl rfl (c5 fun _=>rfl) rfl (by decide) (by decide) rfl) ?_))
 obtain ⟨x_1,e1,h⟩:=aE h
 refine Oc (eQ (fc e1) jV rfl CP.dJ) (Oc (bq rfl) ?_)
 refine ad.aj ⟨[(2,_),(3,_),(4,_),(15,B (!x_1))],[(101,_),(102,_),(103,_)]⟩ rfl (ab.ite h rfl (fun _ h=>?_) (fun _ h=>?_))
 ·refine ab.seq (ab.aa ?_)
  obtain ⟨x_2,e2,h⟩:=aE h
  refine Oc (ae (ec e2) iu rfl rfl) (Oc (ag ao rfl rfl rfl rfl (Nat.le_of_ble_eq_true rfl) rfl) ?_)
  refine ad.aj ⟨[(4,_)],[(103,.box 25 (au x_2))]⟩ rfl (ab.ret (Fin.ar ?_))
  obtain rfl:=Option.some.inj h
  refine Fin.ah ⟨[(4,_)],[(103,_)]⟩ rfl (Fin.aq [.agg (au x_2)] (.inl rfl) rfl (.cons (.agg ao rfl rfl rfl rfl) .nil) ⟨rfl,rfl⟩)
 ·refine ab.skip (Fin.ah ⟨[(2,_),(3,_),(4,_)],[(101,_),(102,_),(103,_)]⟩ rfl (Fin.then ?_))
  obtain ⟨v3,h4,h⟩:=aE h
  refine ab.cB (v:=v3) (fun (_:Unit)=>⟨[(2,Pt 101 0),(3,Pt 102 0),(4,Pt 103 0)],[(101,.box 25 (au a0)),(102,.box 25 (au b0)),(103,.box 25 cO)]⟩) (fun z=>.inl z) ?_ ?_
  ·refine ab.seq (ab.aa ?_)
   refine Oc (af ba rfl rfl) (Oc (lp aK) ?_)
   obtain ⟨x_3,e5,h4⟩:=aE h4
   refine Oc (ae (ig e5) nC rfl rfl) (Oc (lh rfl rfl) (Oc om ?_))
   refine ad.ah ⟨[(2,_),(3,_),(4,_),(21,B (decide (x_3 ≤ 2)))],[(101,_),(102,_),(103,_)]⟩ rfl (bU (decide (x_3 ≤ 2)) [] (fun g6=>trivial) (fun g6=>af ba rfl rfl) (bU (decide (x_3 ≤ 2)) [22] (fun g7=>⟨g7,trivial⟩) (fun g7=>lp aK) ?_))
   obtain ⟨x_4,e9,h4⟩:=aE h4
   refine bU (decide (x_3 ≤ 2)) [23] (fun g8=>⟨g8,trivial⟩) (fun g8=>ae (ig (gc e9 g8)) nC rfl rfl) (bU (decide (x_3 ≤ 2)) [24] (fun g10=>⟨g10,trivial⟩) (fun g10=>lh rfl rfl) (Oc (aD (fun e=>e) rfl rfl rfl rfl) (ad.aj ⟨[(2,_),(3,_),(4,_),(26,B ((decide (x_3 ≤ 2)) && (decide (x_4 ≤ 2))))],[(101,_),(102,_),(103,_)]⟩ rfl (ab.ite h4 rfl (fun _ h4=>?_) (fun _ h4=>?_)))))
   ·refine ab.seq (ab.ah ⟨[(2,_),(3,_),(4,_)],[(101,_),(102,_),(103,_)]⟩ rfl (ab.bP mixed 22 [Pt 101 2,Pt 101 3,.b (.one (.int .u32 a0.W.a1)),.b (.one (.int .u64 (IntKind.u64.wrap a0.W.a1))),.b (.one (.int .u64 (IntKind.u64.wrap ((IntKind.u64.wrap a0.W.a1) * 4294967296)))),Pt 101 2,Pt 101 2,.b (.one (.int .u32 a0.W.a0)),.b (.one (.int .u64 (IntKind.u64.wrap a0.W.a0))),.b (.one (.int .u64 (lU .u64 (IntKind.u64.wrap ((IntKind.u64.wrap a0.W.a1) * 4294967296)) (IntKind.u64.wrap a0.W.a0)))),Pt 102 2,Pt 102 3,.b (.one (.int .u32 b0.W.a1)),.b (.one (.int .u64 (IntKind.u64.wrap b0.W.a1))),.b (.one (.int .u64 (IntKind.u64.wrap ((IntKind.u64.wrap b0.W.a1) * 4294967296)))),Pt 102 2,Pt 102 2,.b (.one (.int .u32 b0.W.a0)),.b (.one (.int .u64 (IntKind.u64.wrap b0.W.a0))),.b (.one (.int .u64 (lU .u64 (IntKind.u64.wrap ((IntKind.u64.wrap b0.W.a1) * 4294967296)) (IntKind.u64.wrap b0.W.a0)))),.b (.one (.int .u64 (lU .u64 (IntKind.u64.wrap ((IntKind.u64.wrap a0.W.a1) * 4294967296)) (IntKind.u64.wrap a0.W.a0)))),.b (.one (.int .u64 (lU .u64 (IntKind.u64.wrap ((IntKind.u64.wrap b0.W.a1) * 4294967296)) (IntKind.u64.wrap b0.W.a0))))] [4,5,6] [103] (s':=⟨[(4,_),(5,.b (.one (.int .u64 (lU .u64 (IntKind.u64.wrap ((IntKind.u64.wrap a0.W.a1) * 4294967296)) (IntKind.u64.wrap a0.W.a0))))),(6,.b (.one (.int .u64 (lU .u64 (IntKind.u64.wrap ((IntKind.u64.wrap b0.W.a1) * 4294967296)) (IntKind.u64.wrap b0.W.a0)))))],[(103,_)]⟩) rfl ⟨fun _=>.p (af ba rfl rfl),fun _=>.p (aN bE (by decide) (by decide) rfl rfl rfl),fun _=>.p (ax bl rfl rfl rfl),fun _=>.p (aF bG bu rfl),fun _=>.p (ns (m:=32) (q:=4294967296) (by decide) rfl rfl (by decide)),fun _=>.p (af ba rfl rfl),fun _=>.p (aN bE (by decide) (by decide) rfl rfl rfl),fun _=>.p (ax bl rfl rfl rfl),fun _=>.p (aF bG bu rfl),fun _=>.p (ss rfl rfl),fun _=>.p (af ba rfl rfl),fun _=>.p (aN bE (by decide) (by decide) rfl rfl rfl),fun _=>.p (ax bl rfl rfl rfl),fun _=>.p (aF bG bu rfl),fun _=>.p (ns (m:=32) (q:=4294967296) (by decide) rfl rfl (by decide)),fun _=>.p (af ba rfl rfl),fun _=>.p (aN bE (by decide) (by decide) rfl rfl rfl),fun _=>.p (ax bl rfl rfl rfl),fun _=>.p (aF bG bu rfl),fun _=>.p (ss rfl rfl),fun _=>.p oa,fun _=>.p oa,trivial⟩ rfl rfl ?_))
    obtain ⟨v11,h12,h4⟩:=aE h4
    refine ab.cB (v:=v11) (fun (x_5:Int)=>⟨[(4,Pt 103 0),(5,.b (.one (.int .u64 x_5)))],[(103,.box 25 cO)]⟩) (fun z=>z) ?_ ?_
    ·refine ab.block (ab.cS h12 (b7 fun (x_6:Int) (y_7:Int)=>⟨[(4,Pt 103 0),(5,.b (.one (.int .u64 x_6))),(6,.b (.one (.int .u64 y_7)))],[(103,.box 25 cO)]⟩) [4,5,6] [103] rfl ?_)
     rintro ⟨x_6,y_7⟩ o13 h14 hy15
     refine ab.seq (ab.seq (ab.aa ?_))
     refine Oc om (Oc (dY rfl rfl) ?_)
     refine ad.aj ⟨[(4,_),(5,_),(6,_),(48,B (decide (y_7 ≠ 0)))],[(103,_)]⟩ rfl (ab.ite h14 rfl (fun _ h14=>?_) (fun _ h14=>?_))
     ·refine ab.skip (Fin.ah ⟨[(4,_),(5,_),(6,_)],[(103,_)]⟩ rfl (Fin.then (ab.block ?_)))
      refine ab.ah ⟨[(4,_),(5,_),(6,_)],[(103,_)]⟩ rfl ?_
      obtain ⟨x_9,e16,h14⟩:=aE h14
      refine ab.jy mixed 5 [.b (.one (.int .u64 y_7)),.b (.one (.int .u64 x_6)),.b (.one (.int .u64 y_7)),.b (.one (.int .u64 x_9)),.b (.one (.int .u64 y_7))] [4,5,6] [103] (s':=⟨[(4,_),(5,.b (.one (.int .u64 y_7))),(6,.b (.one (.int .u64 x_9)))],[(103,_)]⟩) rfl ⟨fun _=>.p om,fun _=>.p om,fun _=>.p om,fun _=>.p (pB e16 rfl rfl),fun _=>.p oa,trivial⟩ ⟨_,by exact .p oa,rfl⟩ rfl (Fin.aH ?_)
      exact Fin.bR [4,5,6] [103] (y_7,x_9) (Option.some.inj h14) rfl
     ·refine ab.exit (Fin.aG ?_)
      obtain rfl:=hy15 _ (Option.some.inj h14).symm
      refine Fin.aG (Fin.aY ?_)
      exact Fin.join [4,5] [103] x_6 rfl rfl
    ·rintro x_5 hv
     subst v11
     refine ab.seq (ab.aa ?_)
     refine Oc om (Oc (aF bu bG rfl) (Oc om (Oc (iW (m:=32) (by decide) rfl rfl rfl) (Oc (aF bu bG rfl) ?_))))
     refine ad.ek eW h4 rfl (fg gh rfl rfl) (fun x_10 h4=>?_)
     obtain ⟨x_11,e17,h4⟩:=aE h4
     refine Oc (ae (cJ e17) iw rfl rfl) (Oc (ag ao rfl rfl rfl rfl (Nat.le_of_ble_eq_true rfl) rfl) ?_)
     refine ad.aj ⟨[(4,_)],[(103,.box 25 (au x_11))]⟩ rfl (ab.ret ?_)
     obtain rfl:=Option.some.inj h4
     refine Fin.ar ?_
     obtain rfl:=Option.some.inj h
     refine Fin.ah ⟨[(4,_)],[(103,_)]⟩ rfl (Fin.aq [.agg (au x_11)] (.inl rfl) rfl (.cons (.agg ao rfl rfl rfl rfl) .nil) ⟨rfl,rfl⟩)
   ·refine ab.skip ?_
    exact Fin.join [2,3,4] [101,102,103] () (Option.some.inj h4) rfl
  ·rintro _ hv
   subst v3
   refine ab.seq (ab.seq ?_)
   refine ab.ah ⟨[(2,_),(3,_),(4,_)],[(101,_),(102,_),(103,_)]⟩ rfl (ab.pz mixed [false,false,false,false,true,true,true,true] [Pt 101 2,.b (.agg (eW a0.W)),Pt 102 2,.b (.agg (eW b0.W)),Pt 105 0,Pt 106 0,B true,B true] [⟨[false,false,false,false,false,false,false,false],[(2,Pt 101 0),(3,Pt 102 0),(4,Pt 103 0)],[(101,.box 25 (au a0)),(102,.box 25 (au b0)),(103,.box 25 cO)],[true,true,true,true,true,true,true,true],[]⟩,⟨[false,false,false,false,true,false,false,false],[(2,Pt 101 0),(3,Pt 102 0),(4,Pt 103 0)],[(101,.box 25 (au a0)),(102,.box 25 (au b0)),(103,.box 25 cO),(105,.box 23 (eW aP.zero))],[true,true,true,true,true,true,true,true],[4]⟩,⟨[false,false,false,false,false,true,false,false],[(2,Pt 101 0),(3,Pt 102 0),(4,Pt 103 0)],[(101,.box 25 (au a0)),(102,.box 25 (au b0)),(103,.box 25 cO),(106,.box 23 (eW aP.zero))],[true,true,true,true,true,true,true,true],[5]⟩,⟨[false,false,false,false,true,true,false,false],[(2,Pt 101 0),(3,Pt 102 0),(4,Pt 103 0)],[(101,.box 25 (au a0)),(102,.box 25 (au b0)),(103,.box 25 cO),(105,.box 23 (eW aP.zero)),(106,.box 23 (eW aP.zero))],[true,true,true,true,true,true,true,true],[4,5]⟩,⟨[false,false,false,false,true,true,true,false],[(2,Pt 101 0),(3,Pt 102 0),(4,Pt 103 0)],[(101,.box 25 (au a0)),(102,.box 25 (au b0)),(103,.box 25 cO),(105,.box 23 (eW a0.W)),(106,.box 23 (eW aP.zero))],[true,true,true,true,true,true,true,true],[0,1,4,5,6]⟩,⟨[false,false,false,false,true,true,true,true],[(2,Pt 101 0),(3,Pt 102 0),(4,Pt 103 0)],[(101,.box 25 (au a0)),(102,.box 25 (au b0)),(103,.box 25 cO),(105,.box 23 (eW a0.W)),(106,.box 23 (eW b0.W))],[true,true,true,true,true,true,true,true],[0,1,2,3,4,5,6,7]⟩] rfl (⟨by kernel_rfl,⟨⟨Pt 101 2,fun _=>rfl,fun _=>.p (by exact af ba rfl rfl)⟩,⟨.b (.agg (eW a0.W)),fun _=>rfl,fun _=>.p (by exact aQ aK rfl rfl rfl rfl)⟩,⟨Pt 102 2,fun _=>rfl,fun _=>.p (by exact af ba rfl rfl)⟩,⟨.b (.agg (eW b0.W)),fun _=>rfl,fun _=>.p (by exact aQ aK rfl rfl rfl rfl)⟩,⟨_,some 105,Pt 105 0,rfl,fun _=>rfl,rfl,rfl,fun _=>.qP [101,102,103,105] (by exact .p (by exact aA (k:=105) cD rfl)) (by exact rfl)⟩,⟨_,some 106,Pt 106 0,rfl,fun _=>rfl,rfl,rfl,fun _=>.qP [101,102,103,106] (by exact .p (by exact aA (k:=106) cD rfl)) (by exact rfl)⟩,trivial,trivial,trivial⟩,⟨by kernel_rfl,⟨⟨Pt 101 2,fun _=>rfl,fun _=>.p (by exact af ba rfl rfl)⟩,⟨.b (.agg (eW a0.W)),fun _=>rfl,fun _=>.p (by exact aQ aK rfl rfl rfl rfl)⟩,⟨Pt 102 2,fun _=>rfl,fun _=>.p (by exact af ba rfl rfl)⟩,⟨.b (.agg (eW b0.W)),fun _=>rfl,fun _=>.p (by exact aQ aK rfl rfl rfl rfl)⟩,trivial,⟨_,some 106,Pt 106 0,rfl,fun _=>rfl,rfl,rfl,fun _=>.qP [101,102,103,105,106] (by exact .p (by exact aA (k:=106) cD rfl)) (by exact rfl)⟩,trivial,trivial,trivial⟩,⟨by kernel_rfl,⟨⟨Pt 101 2,fun _=>rfl,fun _=>.p (by exact af ba rfl rfl)⟩,⟨.b (.agg (eW a0.W)),fun _=>rfl,fun _=>.p (by exact aQ aK rfl rfl rfl rfl)⟩,⟨Pt 102 2,fun _=>rfl,fun _=>.p (by exact af ba rfl rfl)⟩,⟨.b (.agg (eW b0.W)),fun _=>rfl,fun _=>.p (by exact aQ aK rfl rfl rfl rfl)⟩,⟨_,some 105,Pt 105 0,rfl,fun _=>rfl,rfl,rfl,fun _=>.qP [101,102,103,105,106] (by exact .p (by exact aA (k:=105) cD rfl)) (by exact rfl)⟩,trivial,trivial,trivial,trivial⟩,⟨by kernel_rfl,⟨⟨Pt 101 2,fun _=>rfl,fun _=>.p (by exact af ba rfl rfl)⟩,⟨.b (.agg (eW a0.W)),fun _=>rfl,fun _=>.p (by exact aQ aK rfl rfl rfl rfl)⟩,⟨Pt 102 2,fun _=>rfl,fun _=>.p (by exact af ba rfl rfl)⟩,⟨.b (.agg (eW b0.W)),fun _=>rfl,fun _=>.p (by exact aQ aK rfl rfl rfl rfl)⟩,trivial,trivial,⟨_,none,.b (.one .any),rfl,(fun e=>by simp at e),rfl,rfl,fun _=>.qP [101,102,103,105,106] (by exact .p (by exact ag aK rfl rfl rfl rfl (Nat.le_of_ble_eq_true rfl) rfl)) (by exact rfl)⟩,trivial,trivial⟩,⟨by kernel_rfl,⟨trivial,trivial,⟨Pt 102 2,fun _=>rfl,fun _=>.p (by exact af ba rfl rfl)⟩,⟨.b (.agg (eW b0.W)),fun _=>rfl,fun _=>.p (by exact aQ aK rfl rfl rfl rfl)⟩,trivial,trivial,trivial,⟨_,none,.b (.one .any),rfl,(fun e=>by simp at e),rfl,rfl,fun _=>.qP [101,102,103,105,106] (by exact .p (by exact ag aK rfl rfl rfl rfl (Nat.le_of_ble_eq_true rfl) rfl)) (by exact rfl)⟩,trivial⟩,⟨by kernel_rfl,⟨trivial,trivial,trivial,trivial,trivial,trivial,trivial,trivial,trivial⟩,trivial⟩⟩⟩⟩⟩⟩) rfl rfl rfl [2,4,7,8] [101,103,105,106] (s':=⟨[(2,_),(4,_),(7,Pt 105 0),(8,Pt 106 0)],[(101,_),(103,_),(105,.box 23 (eW a0.W)),(106,.box 23 (eW b0.W))]⟩) rfl ?_)
   refine ab.seq (ab.aa ?_)
   refine Oc (lp aK) (Oc (fg gh rfl rfl) (Oc (hZ (nF b0.W aP.zero) rfl rfl l5) ?_))
   refine ad.aj ⟨[(2,_),(4,_),(7,_),(8,_),(66,B (decide (b0.W ≠ aP.zero)))],[(101,_),(103,_),(105,_),(106,_)]⟩ rfl (ab.ite h rfl (fun _ h=>?_) (fun _ h=>?_))
   ·refine ab.seq (ab.aa ?_)
    refine Oc (lp aK) (Oc (lp aK) ?_)
    obtain ⟨⟨x_12,x_13⟩,e18,h⟩:=aE h
    refine Oc (ae (n4 e18) AY rfl rfl) (Oc om (Oc (ay rfl rfl) ?_))
    refine ad.ah ⟨[(4,_),(8,_),(67,.fE [.agg (eW x_12),.agg (eW x_13)]),(71,.b (.agg (eW x_12)))],[(103,_),(106,_)]⟩ rfl (Oc (ay rfl rfl) (Oc (aA (k:=107) cD rfl) (Oc (aA (k:=108) cD rfl) (Oc (ag aK rfl rfl rfl rfl (Nat.le_of_ble_eq_true rfl) rfl) (Oc (ag aK rfl rfl rfl rfl (Nat.le_of_ble_eq_true rfl) rfl) ?_)))))
    refine ad.aj ⟨[(4,_),(8,_),(10,Pt 108 0)],[(103,_),(106,_),(108,.box 23 (eW x_13))]⟩ rfl (ab.seq ?_)
    obtain ⟨x_14,e19,h⟩:=aE h
    obtain ⟨x_15,e20,h⟩:=aE h
    obtain ⟨x_16,e21,h⟩:=aE h
    refine ab.bP mixed 5 [.b (.agg (eW b0.W)),.b (.agg (au x_14)),.b (.agg (eW x_13)),.b (.agg (au x_15)),.b (.agg (au x_16))] [4] [103] (s':=⟨[(4,_)],[(103,.box 25 (au x_16))]⟩) rfl ⟨fun _=>.p (lp aK),fun _=>.p (ae (cJ e19) iw rfl rfl),fun _=>.p (lp aK),fun _=>.p (ae (cJ e20) iw rfl rfl),fun _=>.p (ae (ih e21) vM rfl rfl),trivial⟩ ⟨_,by exact .p (ag ao rfl rfl rfl rfl (Nat.le_of_ble_eq_true rfl) rfl),rfl⟩ rfl (ab.ret (Fin.ar ?_))
    obtain rfl:=Option.some.inj h
    refine Fin.ah ⟨[(4,_)],[(103,_)]⟩ rfl (Fin.aq [.agg (au x_16)] (.inl rfl) rfl (.cons (.agg ao rfl rfl rfl rfl) .nil) ⟨rfl,rfl⟩)
   ·refine ab.skip (Fin.ah ⟨[(2,_),(4,_)],[(101,_),(103,_)]⟩ rfl (Fin.then (ab.seq (ab.aa ?_))))
    refine Oc (lp ao) ?_
    obtain ⟨x_17,e22,h⟩:=aE h
    refine Oc (ae (zp e22) goes139 rfl rfl) (Oc (ag ao rfl rfl rfl rfl (Nat.le_of_ble_eq_true rfl) rfl) ?_)
    refine ad.aj ⟨[(4,_)],[(103,.box 25 (au x_17))]⟩ rfl (ab.ret ?_)
    obtain rfl:=Option.some.inj h
    refine Fin.ah ⟨[(4,_)],[(103,_)]⟩ rfl (Fin.aq [.agg (au x_17)] (.inl rfl) rfl (.cons (.agg ao rfl rfl rfl rfl) .nil) ⟨rfl,rfl⟩)
theorem qC {F:Nat} {a0:bt} {b0:bt} {r:bt} (h:px F a0 b0 = some r):az Tryz.prog (bj mx) 77 [] [.agg (au a0),.agg (au b0)] (Is [] (.b (.agg (au r)))):=xZ F h
def ja (F:Nat) (n0:Int):Option bt :=
 Option.bind (if (decide (n0 < 0)) = true then (bD (IntKind.u64.wrap (-(IntKind.u64.wrap n0))) fun x_2=>some x_2) else (some (IntKind.u64.wrap n0))) (fun u_1=>bD (⟨IntKind.u32.wrap u_1,IntKind.u32.wrap (u_1 / 4294967296),0,0,0,0,0,0,0,0,0,0,0,0,0,0⟩:aP) fun x_3=>(cL F (decide (n0 < 0)) x_3).bind fun x_4=>some x_4)
theorem gO {F:Nat} {n0:Int} {r:bt} (h:ja F n0 = some r):az Tryz.prog (bj mx) 74 [] [.one (.i n0)] (Is [] (.b (.agg (au r)))):=by
 unfold ja at h
 refine az.intro 19 Tryz.func74 Tryz.ntmps74 rfl (by simp) fun E=>?_
 show ab _ E ⟨19,[],[]⟩ _ ⟨[(0,I n0)],[]⟩ _
 refine ab.seq (ab.aa ?_)
 refine Oc (aA (k:=101) bx rfl) (ad.aj ⟨[(0,I n0),(2,Pt 101 0)],[(101,.box 25 cO)]⟩ rfl (ab.seq (ab.aa ?_)))
 refine Oc om (Oc (aF lc bu rfl) (Oc oa ?_))
 refine ad.aj ⟨[(0,_),(2,_),(3,.b (.one (.int .u64 (IntKind.u64.wrap n0))))],[(101,_)]⟩ rfl ?_
 obtain ⟨v1,h2,h⟩:=aE h
 refine ab.cB (v:=v1) (fun (u_1:Int)=>⟨[(0,I n0),(2,Pt 101 0),(3,.b (.one (.int .u64 u_1)))],[(101,.box 25 cO)]⟩) (fun z=>z) ?_ ?_
 ·refine ab.seq (ab.aa ?_)
  refine Oc om (Oc (bK rfl rfl) ?_)
  refine ad.aj ⟨[(0,_),(2,_),(3,_),(7,B (decide (n0 < 0)))],[(101,_)]⟩ rfl (ab.ite h2 rfl (fun _ h2=>?_) (fun _ h2=>?_))
  ·refine ab.aa (Oc om (ad.cp .u64 h2 rfl (mn rfl) (fun x_2 h2=>?_)))
   refine Oc oa (ad.nil ?_)
   exact Fin.join [0,2,3] [101] x_2 (Option.some.inj h2) rfl
  ·refine ab.skip ?_
   exact Fin.join [0,2,3] [101] (IntKind.u64.wrap n0) (Option.some.inj h2) rfl
 ·rintro u_1 hv
  subst v1
  refine ab.seq (ab.aa ?_)
  refine Oc om (Oc (bK rfl rfl) (Oc om (Oc (aF bu bG rfl) (Oc om (Oc (iW (m:=32) (by decide) rfl rfl rfl) ?_)))))
  refine Oc (aF bu bG rfl) (ad.ah ⟨[(2,_),(11,B (decide (n0 < 0))),(13,.b (.one (.int .u32 (IntKind.u32.wrap u_1)))),(16,.b (.one (.int .u32 (IntKind.u32.wrap (u_1 / 4294967296)))))],[(101,_)]⟩ rfl (ad.ek eW h rfl (fg gh rfl rfl) (fun x_3 h=>?_)))
  obtain ⟨x_4,e3,h⟩:=aE h
  refine Oc (ae (cJ e3) iw rfl rfl) (Oc (ag ao rfl rfl rfl rfl (Nat.le_of_ble_eq_true rfl) rfl) ?_)
  refine ad.aj ⟨[(2,_)],[(101,.box 25 (au x_4))]⟩ rfl (ab.ret ?_)
  obtain rfl:=Option.some.inj h
  refine Fin.ah ⟨[(2,_)],[(101,_)]⟩ rfl (Fin.aq [.agg (au x_4)] (.inl rfl) rfl (.cons (.agg ao rfl rfl rfl rfl) .nil) ⟨rfl,rfl⟩)
def kH (F:Nat):Option bt :=
 (ja F 1).bind fun x_1=>some x_1
theorem lJ {F:Nat} {r:bt} (h:kH F = some r):az Tryz.prog (bj mx) 63 [] [] (Is [] (.b (.agg (au r)))):=by
 unfold kH at h
 refine az.intro 2 Tryz.func63 Tryz.ntmps63 rfl (by simp) fun E=>?_
 show ab _ E ⟨2,[],[]⟩ _ ⟨[],[]⟩ _
 refine ab.seq (ab.aa ?_)
 refine Oc (aA (k:=101) bx rfl) (ad.aj ⟨[(0,Pt 101 0)],[(101,.box 25 cO)]⟩ rfl (ab.seq (ab.aa ?_)))
 obtain ⟨x_1,e1,h⟩:=aE h
 refine Oc (ae (gO e1) mq rfl rfl) (Oc (ag ao rfl rfl rfl rfl (Nat.le_of_ble_eq_true rfl) rfl) ?_)
 refine ad.aj ⟨[(0,_)],[(101,.box 25 (au x_1))]⟩ rfl (ab.ret ?_)
 obtain rfl:=Option.some.inj h
 refine Fin.ah ⟨[(0,_)],[(101,_)]⟩ rfl (Fin.aq [.agg (au x_1)] (.inl rfl) rfl (.cons (.agg ao rfl rfl rfl rfl) .nil) ⟨rfl,rfl⟩)
def dE (F:Nat) (x0:bN):Option Bool :=
 (j8 F x0.N).bind fun x_1=>(bA x_1 (j8 F x0.D)).bind fun x_2=>(bA (x_1 && x_2) (hE F x0.D)).bind fun x_3=>(bA ((x_1 && x_2) && (decide (0 < x_3))) (px F x0.N x0.D)).bind fun x_4=>(bA ((x_1 && x_2) && (decide (0 < x_3))) (kH F)).bind fun x_5=>some (((x_1 && x_2) && (decide (0 < x_3))) && (decide (x_4 = x_5)))
theorem dQ {F:Nat} {x0:bN} {r:Bool} (h:dE F x0 = some r):az Tryz.prog (bj mx) 62 [] [.agg (aI x0)] (Is [] (.b (.one (.bool r)))):=by
 unfold dE at h
 refine az.intro 26 Tryz.func62 Tryz.ntmps62 rfl (by simp) fun E=>?_
 show ab _ E ⟨26,[],[]⟩ _ ⟨[(0,.b (.agg (aI x0)))],[]⟩ _
 refine ab.seq (ab.aa ?_)
 refine Oc (aS (k:=101) rfl rfl) (Oc oa ?_)
 refine ad.aj ⟨[(1,Pt 101 0)],[(101,.box 27 (aI x0))]⟩ rfl (ab.seq (ab.aa ?_))
 refine Oc (af bF rfl rfl) (Oc (lp ao) ?_)
 obtain ⟨x_1,e1,h⟩:=aE h
 refine Oc (ae (mf e1) tp rfl rfl) (Oc om ?_)
 refine bU x_1 [] (fun g2=>trivial) (fun g2=>af bm rfl rfl) (ad.ah ⟨[(1,_),(6,B x_1),(7,.dA x_1 (.ptr 101 18))],[(101,_)]⟩ rfl (bU x_1 [7] (fun g3=>⟨g3,trivial⟩) (fun g3=>lp ao) ?_))
 obtain ⟨x_2,e5,h⟩:=aE h
 refine bU x_1 [8] (fun g4=>⟨g4,trivial⟩) (fun g4=>ae (mf (gc e5 g4)) tp rfl rfl) (Oc (aD (fun e=>e) rfl rfl rfl rfl) (Oc om ?_))
 refine bU (x_1 && x_2) [] (fun g6=>trivial) (fun g6=>af bm rfl rfl) (bU (x_1 && x_2) [12] (fun g7=>⟨g7,trivial⟩) (fun g7=>lp ao) (ad.ah ⟨[(1,_),(11,B (x_1 && x_2)),(13,.dA (x_1 && x_2) (.agg (au x0.D)))],[(101,_)]⟩ rfl ?_))
 obtain ⟨x_3,e9,h⟩:=aE h
 refine bU (x_1 && x_2) [13] (fun g8=>⟨g8,trivial⟩) (fun g8=>ae (kh (gc e9 g8)) tT rfl rfl) (bU (x_1 && x_2) [14] (fun g10=>⟨g10,trivial⟩) (fun g10=>dB rfl rfl) (Oc (aD (fun e=>e) rfl rfl rfl rfl) (Oc om ?_)))
 refine bU ((x_1 && x_2) && (decide (0 < x_3))) [] (fun g11=>trivial) (fun g11=>af bF rfl rfl) (bU ((x_1 && x_2) && (decide (0 < x_3))) [18] (fun g12=>⟨g12,trivial⟩) (fun g12=>lp ao) (bU ((x_1 && x_2) && (decide (0 < x_3))) [] (fun g13=>by exact trivial) (fun g13=>af bm rfl rfl) (bU ((x_1 && x_2) && (decide (0 < x_3))) [20] (fun g14=>by exact ⟨g14,trivial⟩) (fun g14=>lp ao) (ad.ah ⟨[(17,B ((x_1 && x_2) && (decide (0 < x_3)))),(19,.dA ((x_1 && x_2) && (decide (0 < x_3))) (.agg (au x0.N))),(21,.dA ((x_1 && x_2) && (decide (0 < x_3))) (.agg (au x0.D)))],[]⟩ rfl ?_))))
 obtain ⟨x_4,e16,h⟩:=aE h
 refine bU ((x_1 && x_2) && (decide (0 < x_3))) [19,21] (fun g15=>⟨g15,g15,trivial⟩) (fun g15=>ae (qC (gc e16 g15)) vM rfl rfl) ?_
 obtain ⟨x_5,e18,h⟩:=aE h
 refine bU ((x_1 && x_2) && (decide (0 < x_3))) [] (fun g17=>trivial) (fun g17=>ae (lJ (gc e18 g17)) tU rfl rfl) (bU ((x_1 && x_2) && (decide (0 < x_3))) [22,23] (fun g19=>⟨g19,g19,trivial⟩) (fun g19=>eH (wK x_4 x_5) rfl rfl) (Oc (aD (fun e=>e) rfl rfl rfl rfl) (Oc oa ?_)))
 refine ad.aj ⟨[(2,B (((x_1 && x_2) && (decide (0 < x_3))) && (decide (x_4 = x_5))))],[]⟩ rfl (ab.ret ?_)
 obtain rfl:=Option.some.inj h
 refine Fin.ah ⟨[(2,_)],[]⟩ rfl (Fin.aq [.one (.bool (((x_1 && x_2) && (decide (0 < x_3))) && (decide (x_4 = x_5))))] (.inl rfl) rfl (.cons (.tmp rfl) .nil) ⟨rfl,rfl⟩)
def im (F:Nat):Option bN :=
 (fV F).bind fun x_1=>(kH F).bind fun x_2=>some (⟨x_1,x_2⟩:bN)
theorem gA {F:Nat} {r:bN} (h:im F = some r):az Tryz.prog (bj mx) 75 [] [] (Is [] (.b (.agg (aI r)))):=by
 unfold im at h
 refine az.intro 4 Tryz.func75 Tryz.ntmps75 rfl (by simp) fun E=>?_
 show ab _ E ⟨4,[],[]⟩ _ ⟨[],[]⟩ _
 refine ab.seq (ab.aa ?_)
 refine Oc (aA (k:=101) bO rfl) (ad.aj ⟨[(0,Pt 101 0)],[(101,.box 27 eh)]⟩ rfl (ab.seq (ab.aa ?_)))
 obtain ⟨x_1,e1,h⟩:=aE h
 refine Oc (ae (ec e1) iu rfl rfl) ?_
 obtain ⟨x_2,e2,h⟩:=aE h
 refine Oc (ae (lJ e2) tU rfl rfl) (Oc (aV fB rfl rfl) (Oc (ag aC rfl rfl rfl rfl (Nat.le_of_ble_eq_true rfl) rfl) ?_))
 refine ad.aj ⟨[(0,_)],[(101,.box 27 (au x_1 ++ (au x_2)))]⟩ rfl (ab.ret ?_)
 obtain rfl:=Option.some.inj h
 refine Fin.ah ⟨[(0,_)],[(101,_)]⟩ rfl (Fin.aq [.agg (au x_1 ++ (au x_2))] (.inl rfl) rfl (.cons (.agg aC rfl rfl rfl rfl) .nil) ⟨rfl,rfl⟩)
def oA (F:Nat) (x0:bt):Option Int :=
 (hC F x0.W).bind fun x_1=>(eL F [x0]).bind fun x_2=>if ((!x_2) || (decide (x_1 = 0))) = true then (some 0) else (bD (IntKind.i64.wrap (32 * (IntKind.i64.wrap (x_1 - 1)))) fun x_3=>(bB x0.W.l (IntKind.i64.wrap (x_1 - 1))).bind fun x_4=>(iG F x_4).bind fun x_5=>some (IntKind.i64.wrap (x_3 + x_5)))
theorem x5 {F:Nat} {x0:bt} {r:Int} (h:oA F x0 = some r):az Tryz.prog (bj mx) 202 [] [.agg (au x0)] (Is [] (.b (.one (.i r)))):=by
 unfold oA at h
 refine az.intro 25 Tryz.func202 Tryz.ntmps202 rfl (by simp) fun E=>?_
 show ab _ E ⟨25,[],[]⟩ _ ⟨[(0,.b (.agg (au x0)))],[]⟩ _
 refine ab.seq (ab.aa ?_)
 refine Oc (aS (k:=101) rfl rfl) (Oc oa ?_)
 refine ad.aj ⟨[(1,Pt 101 0)],[(101,.box 25 (au x0))]⟩ rfl (ab.seq (ab.aa ?_))
 refine Oc (af ba rfl rfl) (Oc (lp aK) ?_)
 obtain ⟨x_1,e1,h⟩:=aE h
 refine Oc (ae (ig e1) nC rfl rfl) (Oc oa ?_)
 refine ad.aj ⟨[(1,_),(3,I x_1)],[(101,_)]⟩ rfl (ab.seq (ab.seq (ab.aa ?_)))
 refine Oc (lp ao) (Oc (br (k:=102) (es:=[x0].map au) ju rfl rfl (c5 fun _=>rfl) rfl (by decide) (by decide) rfl) ?_)
 obtain ⟨x_2,e2,h⟩:=aE h
 refine Oc (eQ (fc e2) jV rfl CP.dJ) (Oc (bq rfl) ?_)
 refine ad.ah ⟨[(1,_),(3,_),(10,B (!x_2))],[(101,_)]⟩ rfl (Oc om (cN (!(!x_2)) [] (fun g3=>by exact trivial) (fun g3=>om) (cN (!(!x_2)) [12] (fun g4=>by exact ⟨g4,trivial⟩) (fun g4=>cy rfl rfl) (Oc (aU (fun e=>by rw [e]; rfl) rfl rfl rfl rfl) (ad.aj ⟨[(1,_),(3,_),(14,B ((!x_2) || (decide (x_1 = 0))))],[(101,_)]⟩ rfl ?_)))))
 refine ab.ite h rfl (fun _ h=>?_) (fun _ h=>?_)
 ·refine ab.seq (ab.aa ?_)
  refine Oc oa (ad.aj ⟨[(2,I 0)],[]⟩ rfl (ab.ret (Fin.ar ?_)))
  obtain rfl:=Option.some.inj h
  refine Fin.ah ⟨[(2,_)],[]⟩ rfl (Fin.aq [.one (.i 0)] (.inl rfl) rfl (.cons (.tmp rfl) .nil) ⟨rfl,rfl⟩)
 ·refine ab.skip (Fin.ah ⟨[(1,_),(3,_)],[(101,_)]⟩ rfl (Fin.then (ab.seq (ab.aa ?_))))
  refine Oc om (Oc (bX rfl rfl) ?_)
  refine ad.cp .i64 h rfl (fN rfl rfl) (fun x_3 h=>?_)
  refine Oc om (Oc (bX rfl rfl) (Oc (af ba rfl rfl) ?_))
  obtain ⟨x_4,e5,h⟩:=aE h
  refine Oc (aN bE (bp e5) (b9 e5) rfl rfl rfl) (ad.ah ⟨[(17,I x_3),(21,.b (.ptr 101 (2 + (IntKind.i64.wrap (x_1 - 1):Int).toNat * 1)))],[(101,_)]⟩ rfl (Oc (ax bl rfl rfl (cc (post:=[]) (k:=.u32) [.bool x0.Bad,.bool x0.Neg] e5 rfl rfl rfl)) ?_))
  obtain ⟨x_5,e6,h⟩:=aE h
  refine Oc (ae (n6 e6) AL rfl rfl) (Oc (bb rfl rfl) (Oc oa ?_))
  refine ad.aj ⟨[(2,I (IntKind.i64.wrap (x_3 + x_5)))],[]⟩ rfl (ab.ret ?_)
  obtain rfl:=Option.some.inj h
  refine Fin.ah ⟨[(2,_)],[]⟩ rfl (Fin.aq [.one (.i (IntKind.i64.wrap (x_3 + x_5)))] (.inl rfl) rfl (.cons (.tmp rfl) .nil) ⟨rfl,rfl⟩)
def jh (F:Nat) (x0:bt):Option (Int × Bool) :=
 (eL F [x0]).bind fun x_1=>(bA (!(!x_1)) (oA F x0)).bind fun x_2=>if ((!x_1) || (decide (64 < x_2))) = true then (some (0,false)) else (bD (IntKind.u64.wrap ((IntKind.u64.wrap x0.W.a1) * 4294967296)) fun x_3=>bD (lU .u64 x_3 (IntKind.u64.wrap x0.W.a0)) fun x_4=>if (x0.Neg && (decide (x_4 ≤ 9223372036854775808))) = true then (bD (IntKind.i64.wrap (IntKind.u64.wrap (-x_4))) fun x_5=>some (x_5,true)) else (if ((!x0.Neg) && (decide (x_4 < 9223372036854775808))) = true then (some (IntKind.i64.wrap x_4,true)) else (some (0,false))))
theorem rE {F:Nat} {x0:bt} {r:Int × Bool} (h:jh F x0 = some r):az Tryz.prog (bj mx) 181 [] [.agg (au x0)] (Is [] (.fE [.one (.i r.1),.one (.bool r.2)])):=by
 unfold jh at h
 refine az.intro 44 Tryz.func181 Tryz.ntmps181 rfl (by simp) fun E=>?_
 show ab _ E ⟨44,[],[]⟩ _ ⟨[(0,.b (.agg (au x0)))],[]⟩ _
 refine ab.seq (ab.aa ?_)
 refine Oc (aS (k:=101) rfl rfl) (Oc oa (Oc oa ?_))
 refine ad.aj ⟨[(1,Pt 101 0)],[(101,.box 25 (au x0))]⟩ rfl (ab.seq (ab.seq (ab.aa ?_)))
 refine Oc (lp ao) (Oc (br (k:=102) (es:=[x0].map au) ju rfl rfl (c5 fun _=>rfl) rfl (by decide) (by decide) rfl) ?_)
 obtain ⟨x_1,e1,h⟩:=aE h
 refine Oc (eQ (fc e1) jV rfl CP.dJ) (Oc (bq rfl) ?_)
 refine ad.ah ⟨[(1,_),(8,B (!x_1))],[(101,_)]⟩ rfl (Oc om (cN (!(!x_1)) [] (fun g2=>by exact trivial) (fun g2=>lp ao) ?_))
 obtain ⟨x_2,e4,h⟩:=aE h
 refine cN (!(!x_1)) [10] (fun g3=>⟨g3,trivial⟩) (fun g3=>ae (x5 (gc e4 g3)) goes202 rfl rfl) (cN (!(!x_1)) [11] (fun g5=>⟨g5,trivial⟩) (fun g5=>dB rfl rfl) (Oc (aU (fun e=>by rw [e]; rfl) rfl rfl rfl rfl) (ad.aj ⟨[(1,_),(13,B ((!x_1) || (decide (64 < x_2))))],[(101,_)]⟩ rfl (ab.ite h rfl (fun _ h=>?_) (fun _ h=>?_)))))
 ·refine ab.seq (ab.aa ?_)
  refine Oc oa (Oc oa ?_)
  refine ad.aj ⟨[(2,I 0),(3,B false)],[]⟩ rfl (ab.ret (Fin.ar ?_))
  obtain rfl:=Option.some.inj h
  refine Fin.ah ⟨[(2,_),(3,_)],[]⟩ rfl (Fin.aq [.one (.i 0),.one (.bool false)] (.inl rfl) rfl (.cons (.tmp rfl) (.cons (.tmp rfl) .nil)) ⟨rfl,rfl⟩)
 ·refine ab.skip (Fin.ah ⟨[(1,_)],[(101,_)]⟩ rfl (Fin.then (ab.seq (ab.aa ?_))))
  refine Oc (af ba rfl rfl) (Oc (aN bE (by decide) (by decide) rfl rfl rfl) (Oc (ax bl rfl rfl rfl) (Oc (aF bG bu rfl) ?_)))
  refine ad.cp .u64 h rfl (ns (m:=32) (q:=4294967296) (by decide) rfl rfl (by decide)) (fun x_3 h=>?_)
  refine Oc (af ba rfl rfl) (Oc (aN bE (by decide) (by decide) rfl rfl rfl) ?_)
  refine ad.ah ⟨[(1,_),(18,.b (.one (.int .u64 x_3))),(20,Pt 101 2)],[(101,_)]⟩ rfl (Oc (ax bl rfl rfl rfl) (Oc (aF bG bu rfl) ?_))
  refine ad.cp .u64 h rfl (ss rfl rfl) (fun x_4 h=>?_)
  refine Oc oa (ad.aj ⟨[(1,_),(4,.b (.one (.int .u64 x_4)))],[(101,_)]⟩ rfl (ab.seq (ab.block (ab.seq (ab.aa ?_)))))
  refine Oc (af bM rfl rfl) (Oc (ax cC rfl rfl rfl) (Oc om ?_))
  refine bU x0.Neg [] (fun g6=>trivial) (fun g6=>om) (bU x0.Neg [28] (fun g7=>by exact ⟨g7,trivial⟩) (fun g7=>lh rfl rfl) (Oc (aD (fun e=>e) rfl rfl rfl rfl) (Oc oa ?_)))
  refine ad.aj ⟨[(1,_),(4,_),(24,B (x0.Neg && (decide (x_4 ≤ 9223372036854775808))))],[(101,_)]⟩ rfl (ab.ite h rfl (fun _ h=>?_) (fun _ h=>?_))
  ·refine ab.seq (ab.aa ?_)
   refine Oc om (Oc (mn rfl) ?_)
   refine ad.cp .i64 h rfl (aF bu lc rfl) (fun x_5 h=>?_)
   refine Oc oa (Oc oa ?_)
   refine ad.aj ⟨[(2,I x_5),(3,B true)],[]⟩ rfl (ab.ret (Fin.aL (Fin.ar ?_)))
   obtain rfl:=Option.some.inj h
   refine Fin.ah ⟨[(2,_),(3,_)],[]⟩ rfl (Fin.aq [.one (.i x_5),.one (.bool true)] (.inl rfl) rfl (.cons (.tmp rfl) (.cons (.tmp rfl) .nil)) ⟨rfl,rfl⟩)
  ·refine ab.seq (ab.aa ?_)
   refine Oc (af bM rfl rfl) (Oc (ax cC rfl rfl rfl) (Oc (bq rfl) (Oc om ?_)))
   refine bU (!x0.Neg) [] (fun g8=>trivial) (fun g8=>om) (bU (!x0.Neg) [39] (fun g9=>by exact ⟨g9,trivial⟩) (fun g9=>bK rfl rfl) (Oc (aD (fun e=>e) rfl rfl rfl rfl) (Oc oa ?_)))
   refine ad.aj ⟨[(4,_),(34,B ((!x0.Neg) && (decide (x_4 < 9223372036854775808))))],[]⟩ rfl (ab.ite h rfl (fun _ h=>?_) (fun _ h=>?_))
   ·refine ab.seq (ab.aa ?_)
    refine Oc om (Oc (aF bu lc rfl) (Oc oa (Oc oa ?_)))
    refine ad.aj ⟨[(2,I (IntKind.i64.wrap x_4)),(3,B true)],[]⟩ rfl (ab.ret (Fin.aL (Fin.ar ?_)))
    obtain rfl:=Option.some.inj h
    refine Fin.ah ⟨[(2,_),(3,_)],[]⟩ rfl (Fin.aq [.one (.i (IntKind.i64.wrap x_4)),.one (.bool true)] (.inl rfl) rfl (.cons (.tmp rfl) (.cons (.tmp rfl) .nil)) ⟨rfl,rfl⟩)
   ·refine ab.skip (Fin.aH (Fin.ah ⟨[],[]⟩ rfl (Fin.then (ab.seq (ab.aa ?_)))))
    refine Oc oa (Oc oa ?_)
    refine ad.aj ⟨[(2,I 0),(3,B false)],[]⟩ rfl (ab.ret ?_)
    obtain rfl:=Option.some.inj h
    refine Fin.ah ⟨[(2,_),(3,_)],[]⟩ rfl (Fin.aq [.one (.i 0),.one (.bool false)] (.inl rfl) rfl (.cons (.tmp rfl) (.cons (.tmp rfl) .nil)) ⟨rfl,rfl⟩)
def nk (F:Nat) (x0:bt):Option bt :=
 (eL F [x0]).bind fun x_1=>if (!x_1) = true then ((fV F).bind fun x_2=>some x_2) else ((cL F (!x0.Neg) x0.W).bind fun x_3=>some x_3)
theorem qB {F:Nat} {x0:bt} {r:bt} (h:nk F x0 = some r):az Tryz.prog (bj mx) 81 [] [.agg (au x0)] (Is [] (.b (.agg (au r)))):=by
 unfold nk at h
 refine az.intro 14 Tryz.func81 Tryz.ntmps81 rfl (by simp) fun E=>?_
 show ab _ E ⟨14,[],[]⟩ _ ⟨[(0,.b (.agg (au x0)))],[]⟩ _
 refine ab.seq (ab.aa ?_)
 refine Oc (aS (k:=101) rfl rfl) (Oc (aA (k:=102) bx rfl) ?_)
 refine ad.aj ⟨[(1,Pt 101 0),(2,Pt 102 0)],[(101,.box 25 (au x0)),(102,.box 25 cO)]⟩ rfl (ab.seq (ab.seq (ab.aa ?_)))
 refine Oc (lp ao) (Oc (br (k:=103) (es:=[x0].map au) ju rfl rfl (c5 fun _=>rfl) rfl (by decide) (by decide) rfl) ?_)
 obtain ⟨x_1,e1,h⟩:=aE h
 refine Oc (eQ (fc e1) jV rfl CP.dJ) (Oc (bq rfl) ?_)
 refine ad.aj ⟨[(1,_),(2,_),(6,B (!x_1))],[(101,_),(102,_)]⟩ rfl (ab.ite h rfl (fun _ h=>?_) (fun _ h=>?_))
 ·refine ab.seq (ab.aa ?_)
  obtain ⟨x_2,e2,h⟩:=aE h
  refine Oc (ae (ec e2) iu rfl rfl) (Oc (ag ao rfl rfl rfl rfl (Nat.le_of_ble_eq_true rfl) rfl) ?_)
  refine ad.aj ⟨[(2,_)],[(102,.box 25 (au x_2))]⟩ rfl (ab.ret (Fin.ar ?_))
  obtain rfl:=Option.some.inj h
  refine Fin.ah ⟨[(2,_)],[(102,_)]⟩ rfl (Fin.aq [.agg (au x_2)] (.inl rfl) rfl (.cons (.agg ao rfl rfl rfl rfl) .nil) ⟨rfl,rfl⟩)
 ·refine ab.skip (Fin.ah ⟨[(1,_),(2,_)],[(101,_),(102,_)]⟩ rfl (Fin.then (ab.seq (ab.aa ?_))))
  refine Oc (af bM rfl rfl) (Oc (ax cC rfl rfl rfl) (Oc (bq rfl) (Oc (af ba rfl rfl) (Oc (lp aK) ?_))))
  obtain ⟨x_3,e3,h⟩:=aE h
  refine Oc (ae (cJ e3) iw rfl rfl) (Oc (ag ao rfl rfl rfl rfl (Nat.le_of_ble_eq_true rfl) rfl) ?_)
  refine ad.aj ⟨[(2,_)],[(102,.box 25 (au x_3))]⟩ rfl (ab.ret ?_)
  obtain rfl:=Option.some.inj h
  refine Fin.ah ⟨[(2,_)],[(102,_)]⟩ rfl (Fin.aq [.agg (au x_3)] (.inl rfl) rfl (.cons (.agg ao rfl rfl rfl rfl) .nil) ⟨rfl,rfl⟩)
def oy (F:Nat) (a0:aP) (b0:aP):Option (aP × Bool) :=
 Option.bind (iter F (kA fun out_3 carry_4 x_5=>if (decide (x_5 < 16)) = true then ((bB a0.l x_5).bind fun x_8=>(bB b0.l x_5).bind fun x_9=>bD (IntKind.u64.wrap (carry_4 + (IntKind.u64.wrap ((IntKind.u64.wrap x_8) + (IntKind.u64.wrap x_9))))) fun x_10=>(bB out_3.l x_5).bind fun x_11=>bD (IntKind.u64.wrap (carry_4 + (IntKind.u64.wrap ((IntKind.u64.wrap x_8) + (IntKind.u64.wrap x_9))))) fun x_12=>some (.inl (out_3.set x_5 (IntKind.u32.wrap x_10),x_12 / 4294967296,IntKind.i64.wrap (x_5 + 1)))) else (some (.inr (out_3,carry_4)))) (aP.zero,0,0)) (b7 fun out_1 carry_2=>some (out_1,decide (carry_2 = 0)))
theorem xW {F:Nat} {a0:aP} {b0:aP} {r:aP × Bool} (h:oy F a0 b0 = some r):az Tryz.prog (bj mx) 141 [] [.agg (eW a0),.agg (eW b0)] (Is [] (.fE [.agg (eW r.1),.one (.bool r.2)])):=by
 unfold oy at h
 refine az.intro 33 Tryz.func141 Tryz.ntmps141 rfl (by simp) fun E=>?_
 show ab _ E ⟨33,[],[]⟩ _ ⟨[(0,.b (.agg (eW a0))),(1,.b (.agg (eW b0)))],[]⟩ _
 refine ab.seq (ab.aa ?_)
 refine Oc (aS (k:=101) rfl rfl) (Oc (aS (k:=102) rfl rfl) (Oc (aA (k:=103) cD rfl) (Oc oa ?_)))
 refine ad.aj ⟨[(2,Pt 101 0),(3,Pt 102 0),(4,Pt 103 0)],[(101,.box 23 (eW a0)),(102,.box 23 (eW b0)),(103,.box 23 (eW aP.zero))]⟩ rfl (ab.seq (ab.aa ?_))
 refine Oc (aA (k:=104) cD rfl) (ad.aj ⟨[(2,_),(3,_),(4,_),(6,Pt 104 0)],[(101,_),(102,_),(103,_),(104,.box 23 (eW aP.zero))]⟩ rfl (ab.seq (ab.aa ?_)))
 refine Oc oa (ad.aj ⟨[(2,_),(3,_),(4,_),(6,_),(7,.b (.one (.int .u64 0)))],[(101,_),(102,_),(103,_),(104,_)]⟩ rfl ?_)
 obtain ⟨v1,h2,h⟩:=aE h
 refine ab.cB (v:=v1) (b7 fun (out_1:aP) (carry_2:Int)=>⟨[(4,Pt 103 0),(6,Pt 104 0),(7,.b (.one (.int .u64 carry_2)))],[(103,.box 23 (eW aP.zero)),(104,.box 23 (eW out_1))]⟩) (fun z=>z) ?_ ?_
 ·refine ab.seq (ab.aa ?_)
  refine Oc om (ad.aj ⟨[(2,_),(3,_),(4,_),(6,_),(7,_),(9,I 0)],[(101,_),(102,_),(103,_),(104,_)]⟩ rfl (ab.block (ab.cS h2 (kA fun (out_3:aP) (carry_4:Int) (x_5:Int)=>⟨[(2,Pt 101 0),(3,Pt 102 0),(4,Pt 103 0),(6,Pt 104 0),(7,.b (.one (.int .u64 carry_4))),(9,I x_5)],[(101,.box 23 (eW a0)),(102,.box 23 (eW b0)),(103,.box 23 (eW aP.zero)),(104,.box 23 (eW out_3))]⟩) [2,3,4,6,7,9] [101,102,103,104] rfl ?_)))
  rintro ⟨out_3,carry_4,x_5⟩ o3 h4 hy5
  refine ab.seq (ab.aa ?_)
  refine Oc (bK rfl rfl) (ad.aj ⟨[(2,_),(3,_),(4,_),(6,_),(7,_),(9,_),(10,B (decide (x_5 < 16)))],[(101,_),(102,_),(103,_),(104,_)]⟩ rfl (ab.seq (ab.ite h4 rfl (fun _ h4=>?_) (fun _ h4=>?_))))
  ·refine ab.skip (Fin.ah ⟨[(2,_),(3,_),(4,_),(6,_),(7,_),(9,_)],[(101,_),(102,_),(103,_),(104,_)]⟩ rfl (Fin.then (ab.seq (ab.block (ab.seq (ab.aa ?_))))))
   refine Oc om (Oc oa ?_)
   refine ad.aj ⟨[(2,_),(3,_),(4,_),(6,_),(7,_),(8,I x_5),(9,_)],[(101,_),(102,_),(103,_),(104,_)]⟩ rfl (ab.seq ?_)
   obtain ⟨x_8,e6,h4⟩:=aE h4
   obtain ⟨x_9,e7,h4⟩:=aE h4
   refine ab.bP mixed 11 [.b (.one (.int .u64 carry_4)),I x_5,.b (.ptr 101 (0 + (x_5:Int).toNat * 1)),.b (.one (.int .u32 x_8)),.b (.one (.int .u64 (IntKind.u64.wrap x_8))),I x_5,.b (.ptr 102 (0 + (x_5:Int).toNat * 1)),.b (.one (.int .u32 x_9)),.b (.one (.int .u64 (IntKind.u64.wrap x_9))),.b (.one (.int .u64 (IntKind.u64.wrap ((IntKind.u64.wrap x_8) + (IntKind.u64.wrap x_9))))),.b (.one (.int .u64 (IntKind.u64.wrap (carry_4 + (IntKind.u64.wrap ((IntKind.u64.wrap x_8) + (IntKind.u64.wrap x_9)))))))] [2,3,4,6,7,8,9] [101,102,103,104] (s':=⟨[(2,_),(3,_),(4,_),(6,_),(7,.b (.one (.int .u64 (IntKind.u64.wrap (carry_4 + (IntKind.u64.wrap ((IntKind.u64.wrap x_8) + (IntKind.u64.wrap x_9)))))))),(8,_),(9,_)],[(101,_),(102,_),(103,_),(104,_)]⟩) rfl ⟨fun _=>.p om,fun _=>.p om,fun _=>.p (aN bE (bp e6) (b9 e6) rfl rfl rfl),fun _=>.p (ax bl rfl rfl (cc (post:=[]) (k:=.u32) [] e6 rfl rfl rfl)),fun _=>.p (aF bG bu rfl),fun _=>.p om,fun _=>.p (aN bE (bp e7) (b9 e7) rfl rfl rfl),fun _=>.p (ax bl rfl rfl (cc (post:=[]) (k:=.u32) [] e7 rfl rfl rfl)),fun _=>.p (aF bG bu rfl),fun _=>.p (bb rfl rfl),fun _=>.p (bb rfl rfl),trivial⟩ ⟨_,by exact .p oa,rfl⟩ rfl (ab.seq (ab.aa ?_))
   refine Oc om (ad.cp .u64 h4 rfl om (fun x_10 h4=>?_))
   refine Oc (aF bu bG rfl) ?_
   obtain ⟨x_11,e8,h4⟩:=aE h4
   refine Oc (aN bE (bp e8) (b9 e8) rfl rfl rfl) (Oc (bQ bl rfl rfl rfl (jr (post:=[]) (k:=.u32) [] e8 rfl rfl rfl) (gW (post:=[]) (k:=.u32) [] e8 rfl rfl (aP.iO out_3 x_5 (IntKind.u32.wrap x_10)) rfl rfl)) ?_)
   refine ad.aj ⟨[(2,_),(3,_),(4,_),(6,_),(7,_),(9,_)],[(101,_),(102,_),(103,_),(104,.box 23 (eW (out_3.set x_5 (IntKind.u32.wrap x_10))))]⟩ rfl (ab.aa (ad.cp .u64 h4 rfl om (fun x_12 h4=>?_)))
   refine Oc (iW (m:=32) (by decide) rfl rfl rfl) (Oc oa ?_)
   refine ad.nil (Fin.aH (Fin.ah ⟨[(2,_),(3,_),(4,_),(6,_),(7,.b (.one (.int .u64 (x_12 / 4294967296)))),(9,_)],[(101,_),(102,_),(103,_),(104,_)]⟩ rfl (Fin.then (ab.aa ?_))))
   refine Oc (bb rfl rfl) (Oc om ?_)
   refine ad.nil ?_
   exact Fin.bR [2,3,4,6,7,9] [101,102,103,104] (out_3.set x_5 (IntKind.u32.wrap x_10),x_12 / 4294967296,IntKind.i64.wrap (x_5 + 1)) (Option.some.inj h4) rfl
  ·refine ab.exit (Fin.aG ?_)
   obtain rfl:=hy5 _ (Option.some.inj h4).symm
   refine Fin.aG (Fin.aY ?_)
   exact Fin.join [4,6,7] [103,104] (out_3,carry_4) rfl rfl
 ·rintro ⟨out_1,carry_2⟩ hv
  subst v1
  refine ab.seq (ab.aa ?_)
  refine Oc (lp aK) (Oc om (Oc (cy rfl rfl) (Oc (ag aK rfl rfl rfl rfl (Nat.le_of_ble_eq_true rfl) rfl) (Oc oa ?_))))
  refine ad.aj ⟨[(4,_),(5,B (decide (carry_2 = 0)))],[(103,.box 23 (eW out_1))]⟩ rfl (ab.ret ?_)
  obtain rfl:=Option.some.inj h
  refine Fin.ah ⟨[(4,_),(5,_)],[(103,_)]⟩ rfl (Fin.aq [.agg (eW out_1),.one (.bool (decide (carry_2 = 0)))] (.inl rfl) rfl (.cons (.agg aK rfl rfl rfl rfl) (.cons (.tmp rfl) .nil)) ⟨rfl,rfl⟩)
def jg (F:Nat) (a0:aP) (b0:aP):Option aP :=
 Option.bind (iter F (kA fun out_2 borrow_3 x_4=>if (decide (x_4 < 16)) = true then ((bB a0.l x_4).bind fun x_6=>(bB b0.l x_4).bind fun x_7=>bD (IntKind.u64.wrap ((IntKind.u64.wrap ((IntKind.u64.wrap x_6) - (IntKind.u64.wrap x_7))) - borrow_3)) fun x_8=>(bB out_2.l x_4).bind fun x_9=>bD (IntKind.u64.wrap ((IntKind.u64.wrap ((IntKind.u64.wrap x_6) - (IntKind.u64.wrap x_7))) - borrow_3)) fun x_10=>some (.inl (out_2.set x_4 (IntKind.u32.wrap x_8),x_10 / 9223372036854775808,IntKind.i64.wrap (x_4 + 1)))) else (some (.inr out_2))) (aP.zero,0,0)) (fun out_1=>some out_1)
theorem nP {F:Nat} {a0:aP} {b0:aP} {r:aP} (h:jg F a0 b0 = some r):az Tryz.prog (bj mx) 143 [] [.agg (eW a0),.agg (eW b0)] (Is [] (.b (.agg (eW r)))):=by
 unfold jg at h
 refine az.intro 31 Tryz.func143 Tryz.ntmps143 rfl (by simp) fun E=>?_
 show ab _ E ⟨31,[],[]⟩ _ ⟨[(0,.b (.agg (eW a0))),(1,.b (.agg (eW b0)))],[]⟩ _
 refine ab.seq (ab.aa ?_)
 refine Oc (aS (k:=101) rfl rfl) (Oc (aS (k:=102) rfl rfl) (Oc (aA (k:=103) cD rfl) ?_))
 refine ad.aj ⟨[(2,Pt 101 0),(3,Pt 102 0),(4,Pt 103 0)],[(101,.box 23 (eW a0)),(102,.box 23 (eW b0)),(103,.box 23 (eW aP.zero))]⟩ rfl (ab.seq (ab.aa ?_))
 refine Oc (aA (k:=104) cD rfl) (ad.aj ⟨[(2,_),(3,_),(4,_),(5,Pt 104 0)],[(101,_),(102,_),(103,_),(104,.box 23 (eW aP.zero))]⟩ rfl (ab.seq (ab.aa ?_)))
 refine Oc oa (ad.aj ⟨[(2,_),(3,_),(4,_),(5,_),(6,.b (.one (.int .u64 0)))],[(101,_),(102,_),(103,_),(104,_)]⟩ rfl ?_)
 obtain ⟨v1,h2,h⟩:=aE h
 refine ab.cB (v:=v1) (fun (out_1:aP)=>⟨[(4,Pt 103 0),(5,Pt 104 0)],[(103,.box 23 (eW aP.zero)),(104,.box 23 (eW out_1))]⟩) (fun z=>z) ?_ ?_
 ·refine ab.seq (ab.aa ?_)
  refine Oc om (ad.aj ⟨[(2,_),(3,_),(4,_),(5,_),(6,_),(9,I 0)],[(101,_),(102,_),(103,_),(104,_)]⟩ rfl (ab.block (ab.cS h2 (kA fun (out_2:aP) (borrow_3:Int) (x_4:Int)=>⟨[(2,Pt 101 0),(3,Pt 102 0),(4,Pt 103 0),(5,Pt 104 0),(6,.b (.one (.int .u64 borrow_3))),(9,I x_4)],[(101,.box 23 (eW a0)),(102,.box 23 (eW b0)),(103,.box 23 (eW aP.zero)),(104,.box 23 (eW out_2))]⟩) [2,3,4,5,6,9] [101,102,103,104] rfl ?_)))
  rintro ⟨out_2,borrow_3,x_4⟩ o3 h4 hy5
  refine ab.seq (ab.aa ?_)
  refine Oc (bK rfl rfl) (ad.aj ⟨[(2,_),(3,_),(4,_),(5,_),(6,_),(9,_),(10,B (decide (x_4 < 16)))],[(101,_),(102,_),(103,_),(104,_)]⟩ rfl (ab.seq (ab.ite h4 rfl (fun _ h4=>?_) (fun _ h4=>?_))))
  ·refine ab.skip (Fin.ah ⟨[(2,_),(3,_),(4,_),(5,_),(6,_),(9,_)],[(101,_),(102,_),(103,_),(104,_)]⟩ rfl (Fin.then (ab.seq (ab.block (ab.seq (ab.aa ?_))))))
   refine Oc om (Oc oa ?_)
   refine ad.aj ⟨[(2,_),(3,_),(4,_),(5,_),(6,_),(7,I x_4),(9,_)],[(101,_),(102,_),(103,_),(104,_)]⟩ rfl (ab.seq ?_)
   obtain ⟨x_6,e6,h4⟩:=aE h4
   obtain ⟨x_7,e7,h4⟩:=aE h4
   refine ab.bP mixed 12 [I x_4,.b (.ptr 101 (0 + (x_4:Int).toNat * 1)),.b (.one (.int .u32 x_6)),.b (.one (.int .u64 (IntKind.u64.wrap x_6))),I x_4,.b (.ptr 102 (0 + (x_4:Int).toNat * 1)),.b (.one (.int .u32 x_7)),.b (.one (.int .u64 (IntKind.u64.wrap x_7))),.b (.one (.int .u64 (IntKind.u64.wrap ((IntKind.u64.wrap x_6) - (IntKind.u64.wrap x_7))))),.b (.one (.int .u64 borrow_3)),.b (.one (.int .u64 (IntKind.u64.wrap ((IntKind.u64.wrap ((IntKind.u64.wrap x_6) - (IntKind.u64.wrap x_7))) - borrow_3)))),.b (.one (.int .u64 (IntKind.u64.wrap ((IntKind.u64.wrap ((IntKind.u64.wrap x_6) - (IntKind.u64.wrap x_7))) - borrow_3))))] [2,3,4,5,7,8,9] [101,102,103,104] (s':=⟨[(2,_),(3,_),(4,_),(5,_),(7,_),(8,.b (.one (.int .u64 (IntKind.u64.wrap ((IntKind.u64.wrap ((IntKind.u64.wrap x_6) - (IntKind.u64.wrap x_7))) - borrow_3))))),(9,_)],[(101,_),(102,_),(103,_),(104,_)]⟩) rfl ⟨fun _=>.p om,fun _=>.p (aN bE (bp e6) (b9 e6) rfl rfl rfl),fun _=>.p (ax bl rfl rfl (cc (post:=[]) (k:=.u32) [] e6 rfl rfl rfl)),fun _=>.p (aF bG bu rfl),fun _=>.p om,fun _=>.p (aN bE (bp e7) (b9 e7) rfl rfl rfl),fun _=>.p (ax bl rfl rfl (cc (post:=[]) (k:=.u32) [] e7 rfl rfl rfl)),fun _=>.p (aF bG bu rfl),fun _=>.p (bX rfl rfl),fun _=>.p om,fun _=>.p (bX rfl rfl),fun _=>.p oa,trivial⟩ rfl rfl (ab.seq (ab.aa ?_))
   refine Oc om (ad.cp .u64 h4 rfl om (fun x_8 h4=>?_))
   refine Oc (aF bu bG rfl) ?_
   obtain ⟨x_9,e8,h4⟩:=aE h4
   refine Oc (aN bE (bp e8) (b9 e8) rfl rfl rfl) (Oc (bQ bl rfl rfl rfl (jr (post:=[]) (k:=.u32) [] e8 rfl rfl rfl) (gW (post:=[]) (k:=.u32) [] e8 rfl rfl (aP.iO out_2 x_4 (IntKind.u32.wrap x_8)) rfl rfl)) ?_)
   refine ad.aj ⟨[(2,_),(3,_),(4,_),(5,_),(8,_),(9,_)],[(101,_),(102,_),(103,_),(104,.box 23 (eW (out_2.set x_4 (IntKind.u32.wrap x_8))))]⟩ rfl (ab.aa (ad.cp .u64 h4 rfl om (fun x_10 h4=>?_)))
   refine Oc (iW (m:=63) (by decide) rfl rfl rfl) (Oc oa ?_)
   refine ad.nil (Fin.aH (Fin.ah ⟨[(2,_),(3,_),(4,_),(5,_),(6,.b (.one (.int .u64 (x_10 / 9223372036854775808)))),(9,_)],[(101,_),(102,_),(103,_),(104,_)]⟩ rfl (Fin.then (ab.aa ?_))))
   refine Oc (bb rfl rfl) (Oc om ?_)
   refine ad.nil ?_
   exact Fin.bR [2,3,4,5,6,9] [101,102,103,104] (out_2.set x_4 (IntKind.u32.wrap x_8),x_10 / 9223372036854775808,IntKind.i64.wrap (x_4 + 1)) (Option.some.inj h4) rfl
  ·refine ab.exit (Fin.aG ?_)
   obtain rfl:=hy5 _ (Option.some.inj h4).symm
   refine Fin.aG (Fin.aY ?_)
   exact Fin.join [4,5] [103,104] out_2 rfl rfl
 ·rintro out_1 hv
  subst v1
  refine ab.seq (ab.aa ?_)
  refine Oc (lp aK) (Oc (ag aK rfl rfl rfl rfl (Nat.le_of_ble_eq_true rfl) rfl) ?_)
  refine ad.aj ⟨[(4,_)],[(103,.box 23 (eW out_1))]⟩ rfl (ab.ret ?_)
  obtain rfl:=Option.some.inj h
  refine Fin.ah ⟨[(4,_)],[(103,_)]⟩ rfl (Fin.aq [.agg (eW out_1)] (.inl rfl) rfl (.cons (.agg aK rfl rfl rfl rfl) .nil) ⟨rfl,rfl⟩)
def nn (F:Nat) (a0:bt) (b0:bt):Option bt :=
 (eL F [a0,b0]).bind fun x_1=>if (!x_1) = true then ((fV F).bind fun x_2=>some x_2) else (if (a0.Neg == b0.Neg) = true then (Option.bind (oy F a0.W b0.W) (b7 fun x_3 x_4=>if (!x_4) = true then ((fV F).bind fun x_5=>some x_5) else ((cL F a0.Neg x_3).bind fun x_6=>some x_6))) else ((kS F a0.W b0.W).bind fun x_7=>if (decide (0 ≤ x_7)) = true then ((jg F a0.W b0.W).bind fun x_8=>(cL F a0.Neg x_8).bind fun x_9=>some x_9) else ((jg F b0.W a0.W).bind fun x_10=>(cL F b0.Neg x_10).bind fun x_11=>some x_11)))
theorem qD {F:Nat} {a0:bt} {b0:bt} {r:bt} (h:nn F a0 b0 = some r):az Tryz.prog (bj mx) 79 [] [.agg (au a0),.agg (au b0)] (Is [] (.b (.agg (au r)))):=by
 unfold nn at h
 refine az.intro 55 Tryz.func79 Tryz.ntmps79 rfl (by simp) fun E=>?_
 show ab _ E ⟨55,[],[]⟩ _ ⟨[(0,.b (.agg (au a0))),(1,.b (.agg (au b0)))],[]⟩ _
 refine ab.seq (ab.aa ?_)
 refine Oc (aS (k:=101) rfl rfl) (Oc (aS (k:=102) rfl rfl) (Oc (aA (k:=103) bx rfl) ?_))
 refine ad.aj ⟨[(2,Pt 101 0),(3,Pt 102 0),(4,Pt 103 0)],[(101,.box 25 (au a0)),(102,.box 25 (au b0)),(103,.box 25 cO)]⟩ rfl (ab.seq (ab.seq (ab.aa ?_)))
 refine Oc (lp ao) (Oc (lp ao) (Oc (br (k:=104) (es:=[a0,b0].map au) ju rfl rfl (c5 fun _=>rfl) rfl (by decide) (by decide) rfl) ?_))
 obtain ⟨x_1,e1,h⟩:=aE h
 refine Oc (eQ (fc e1) jV rfl CP.dJ) (Oc (bq rfl) ?_)
 refine ad.aj ⟨[(2,_),(3,_),(4,_),(11,B (!x_1))],[(101,_),(102,_),(103,_)]⟩ rfl (ab.ite h rfl (fun _ h=>?_) (fun _ h=>?_))
 ·refine ab.seq (ab.aa ?_)
  obtain ⟨x_2,e2,h⟩:=aE h
  refine Oc (ae (ec e2) iu rfl rfl) (Oc (ag ao rfl rfl rfl rfl (Nat.le_of_ble_eq_true rfl) rfl) ?_)
  refine ad.aj ⟨[(4,_)],[(103,.box 25 (au x_2))]⟩ rfl (ab.ret (Fin.ar ?_))
  obtain rfl:=Option.some.inj h
  refine Fin.ah ⟨[(4,_)],[(103,_)]⟩ rfl (Fin.aq [.agg (au x_2)] (.inl rfl) rfl (.cons (.agg ao rfl rfl rfl rfl) .nil) ⟨rfl,rfl⟩)
 ·refine ab.skip (Fin.ah ⟨[(2,_),(3,_),(4,_)],[(101,_),(102,_),(103,_)]⟩ rfl (Fin.then (ab.seq (ab.seq (ab.aa ?_)))))
  refine Oc (af bM rfl rfl) (Oc (ax cC rfl rfl rfl) (Oc (af bM rfl rfl) (Oc (ax cC rfl rfl rfl) (Oc (sK uQ rfl rfl) ?_))))
  refine ad.aj ⟨[(2,_),(3,_),(4,_),(17,B (a0.Neg == b0.Neg))],[(101,_),(102,_),(103,_)]⟩ rfl (ab.ite h rfl (fun _ h=>?_) (fun _ h=>?_))
  ·refine ab.seq (ab.aa ?_)
   refine Oc (af ba rfl rfl) (Oc (lp aK) (Oc (af ba rfl rfl) (Oc (lp aK) ?_)))
   obtain ⟨⟨x_3,x_4⟩,e3,h⟩:=aE h
   refine Oc (ae (xW e3) goes141 rfl rfl) (ad.ah ⟨[(2,_),(4,_),(23,.fE [.agg (eW x_3),.one (.bool x_4)])],[(101,_),(103,_)]⟩ rfl (Oc om (Oc (ay rfl rfl) (Oc (ay rfl rfl) (Oc (aA (k:=105) cD rfl) (Oc (ag aK rfl rfl rfl rfl (Nat.le_of_ble_eq_true rfl) rfl) (Oc oa ?_)))))))
   refine ad.aj ⟨[(2,_),(4,_),(5,Pt 105 0),(6,B x_4)],[(101,_),(103,_),(105,.box 23 (eW x_3))]⟩ rfl (ab.seq (ab.seq (ab.aa ?_)))
   refine Oc om (Oc (bq rfl) ?_)
   refine ad.aj ⟨[(2,_),(4,_),(5,_),(27,B (!x_4))],[(101,_),(103,_),(105,_)]⟩ rfl (ab.ite h rfl (fun _ h=>?_) (fun _ h=>?_))
   ·refine ab.seq (ab.aa ?_)
    obtain ⟨x_5,e4,h⟩:=aE h
    refine Oc (ae (ec e4) iu rfl rfl) (Oc (ag ao rfl rfl rfl rfl (Nat.le_of_ble_eq_true rfl) rfl) ?_)
    refine ad.aj ⟨[(4,_)],[(103,.box 25 (au x_5))]⟩ rfl (ab.ret (Fin.ar (Fin.ar ?_)))
    obtain rfl:=Option.some.inj h
    refine Fin.ah ⟨[(4,_)],[(103,_)]⟩ rfl (Fin.aq [.agg (au x_5)] (.inl rfl) rfl (.cons (.agg ao rfl rfl rfl rfl) .nil) ⟨rfl,rfl⟩)
   ·refine ab.skip (Fin.ah ⟨[(2,_),(4,_),(5,_)],[(101,_),(103,_),(105,_)]⟩ rfl (Fin.then (ab.seq (ab.aa ?_))))
    refine Oc (af bM rfl rfl) (Oc (ax cC rfl rfl rfl) (Oc (lp aK) ?_))
    obtain ⟨x_6,e5,h⟩:=aE h
    refine Oc (ae (cJ e5) iw rfl rfl) (Oc (ag ao rfl rfl rfl rfl (Nat.le_of_ble_eq_true rfl) rfl) ?_)
    refine ad.aj ⟨[(4,_)],[(103,.box 25 (au x_6))]⟩ rfl (ab.ret (Fin.ar ?_))
    obtain rfl:=Option.some.inj h
    refine Fin.ah ⟨[(4,_)],[(103,_)]⟩ rfl (Fin.aq [.agg (au x_6)] (.inl rfl) rfl (.cons (.agg ao rfl rfl rfl rfl) .nil) ⟨rfl,rfl⟩)
  ·refine ab.skip (Fin.ah ⟨[(2,_),(3,_),(4,_)],[(101,_),(102,_),(103,_)]⟩ rfl (Fin.then (ab.seq (ab.seq (ab.aa ?_)))))
   refine Oc (af ba rfl rfl) (Oc (lp aK) (Oc (af ba rfl rfl) (Oc (lp aK) ?_)))
   obtain ⟨x_7,e6,h⟩:=aE h
   refine Oc (ae (rC e6) AX rfl rfl) (Oc (fy rfl rfl) ?_)
   refine ad.aj ⟨[(2,_),(3,_),(4,_),(38,B (decide (0 ≤ x_7)))],[(101,_),(102,_),(103,_)]⟩ rfl (ab.ite h rfl (fun _ h=>?_) (fun _ h=>?_))
   ·refine ab.seq (ab.ah ⟨[(2,_),(3,_),(4,_)],[(101,_),(102,_),(103,_)]⟩ rfl ?_)
    obtain ⟨x_8,e7,h⟩:=aE h
    obtain ⟨x_9,e8,h⟩:=aE h
    refine ab.bP mixed 8 [Pt 101 1,B a0.Neg,Pt 101 2,.b (.agg (eW a0.W)),Pt 102 2,.b (.agg (eW b0.W)),.b (.agg (eW x_8)),.b (.agg (au x_9))] [4] [103] (s':=⟨[(4,_)],[(103,.box 25 (au x_9))]⟩) rfl ⟨fun _=>.p (af bM rfl rfl),fun _=>.p (ax cC rfl rfl rfl),fun _=>.p (af ba rfl rfl),fun _=>.p (lp aK),fun _=>.p (af ba rfl rfl),fun _=>.p (lp aK),fun _=>.p (ae (nP e7) wv rfl rfl),fun _=>.p (ae (cJ e8) iw rfl rfl),trivial⟩ ⟨_,by exact .p (ag ao rfl rfl rfl rfl (Nat.le_of_ble_eq_true rfl) rfl),rfl⟩ rfl (ab.ret (Fin.ar ?_))
    obtain rfl:=Option.some.inj h
    refine Fin.ah ⟨[(4,_)],[(103,_)]⟩ rfl (Fin.aq [.agg (au x_9)] (.inl rfl) rfl (.cons (.agg ao rfl rfl rfl rfl) .nil) ⟨rfl,rfl⟩)
   ·refine ab.skip (Fin.ah ⟨[(2,_),(3,_),(4,_)],[(101,_),(102,_),(103,_)]⟩ rfl (Fin.then (ab.seq ?_)))
    refine ab.ah ⟨[(2,_),(3,_),(4,_)],[(101,_),(102,_),(103,_)]⟩ rfl ?_
    obtain ⟨x_10,e9,h⟩:=aE h
    obtain ⟨x_11,e10,h⟩:=aE h
    refine ab.bP mixed 8 [Pt 102 1,B b0.Neg,Pt 102 2,.b (.agg (eW b0.W)),Pt 101 2,.b (.agg (eW a0.W)),.b (.agg (eW x_10)),.b (.agg (au x_11))] [4] [103] (s':=⟨[(4,_)],[(103,.box 25 (au x_11))]⟩) rfl ⟨fun _=>.p (af bM rfl rfl),fun _=>.p (ax cC rfl rfl rfl),fun _=>.p (af ba rfl rfl),fun _=>.p (lp aK),fun _=>.p (af ba rfl rfl),fun _=>.p (lp aK),fun _=>.p (ae (nP e9) wv rfl rfl),fun _=>.p (ae (cJ e10) iw rfl rfl),trivial⟩ ⟨_,by exact .p (ag ao rfl rfl rfl rfl (Nat.le_of_ble_eq_true rfl) rfl),rfl⟩ rfl (ab.ret ?_)
    obtain rfl:=Option.some.inj h
    refine Fin.ah ⟨[(4,_)],[(103,_)]⟩ rfl (Fin.aq [.agg (au x_11)] (.inl rfl) rfl (.cons (.agg ao rfl rfl rfl rfl) .nil) ⟨rfl,rfl⟩)
def pw (F:Nat) (a0:bt) (b0:bt):Option bt :=
 (nk F b0).bind fun x_1=>(nn F a0 x_1).bind fun x_2=>some x_2
theorem zn {F:Nat} {a0:bt} {b0:bt} {r:bt} (h:pw F a0 b0 = some r):az Tryz.prog (bj mx) 182 [] [.agg (au a0),.agg (au b0)] (Is [] (.b (.agg (au r)))):=by
 unfold pw at h
 refine az.intro 9 Tryz.func182 Tryz.ntmps182 rfl (by simp) fun E=>?_
 show ab _ E ⟨9,[],[]⟩ _ ⟨[(0,.b (.agg (au a0))),(1,.b (.agg (au b0)))],[]⟩ _
 refine ab.seq (ab.aa ?_)
 refine Oc (aS (k:=101) rfl rfl) (Oc (aS (k:=102) rfl rfl) (Oc (aA (k:=103) bx rfl) ?_))
 refine ad.aj ⟨[(2,Pt 101 0),(3,Pt 102 0),(4,Pt 103 0)],[(101,.box 25 (au a0)),(102,.box 25 (au b0)),(103,.box 25 cO)]⟩ rfl (ab.seq ?_)
 obtain ⟨x_1,e1,h⟩:=aE h
 obtain ⟨x_2,e2,h⟩:=aE h
 refine ab.bP mixed 4 [.b (.agg (au a0)),.b (.agg (au b0)),.b (.agg (au x_1)),.b (.agg (au x_2))] [4] [103] (s':=⟨[(4,_)],[(103,.box 25 (au x_2))]⟩) rfl ⟨fun _=>.p (lp ao),fun _=>.p (lp ao),fun _=>.p (ae (qB e1) yY rfl rfl),fun _=>.p (ae (qD e2) yZ rfl rfl),trivial⟩ ⟨_,by exact .p (ag ao rfl rfl rfl rfl (Nat.le_of_ble_eq_true rfl) rfl),rfl⟩ rfl (ab.ret ?_)
 obtain rfl:=Option.some.inj h
 refine Fin.ah ⟨[(4,_)],[(103,_)]⟩ rfl (Fin.aq [.agg (au x_2)] (.inl rfl) rfl (.cons (.agg ao rfl rfl rfl rfl) .nil) ⟨rfl,rfl⟩)
def kg (F:Nat) (a0:bt) (b0:bt):Option (bt × bt) :=
 (eL F [a0,b0]).bind fun x_1=>(bA (!(!x_1)) (hE F b0)).bind fun x_2=>if ((!x_1) || (decide (x_2 = 0))) = true then ((fV F).bind fun x_3=>(fV F).bind fun x_4=>some (x_3,x_4)) else (Option.bind (Option.bind (jh F a0) (b7 fun x_5 x_6=>if (x_6 && (decide (x_5 ≠ (-9223372036854775808)))) = true then (Option.bind (jh F b0) (b7 fun x_7 x_8=>if (x_8 && (decide (x_7 ≠ (-9223372036854775808)))) = true then ((k7 .i64 x_5 x_7).bind fun x_9=>(tC x_5 x_7).bind fun x_10=>Option.bind (bD ((decide (x_10 ≠ 0)) && ((decide (x_10 < 0)) != (decide (x_7 < 0)))) fun x_13=>if x_13 = true then (some (IntKind.i64.wrap (x_9 - 1),IntKind.i64.wrap (x_10 + x_7))) else (some (x_9,x_10))) (b7 fun q_11 r_12=>(ja F q_11).bind fun x_14=>(ja F r_12).bind fun x_15=>some (.inr (x_14,x_15)))) else (some (.inl ())))) else (some (.inl ())))) (j4 (fun _=>Option.bind (iz F a0.W b0.W) (b7 fun x_16 x_17=>(cL F (a0.Neg != b0.Neg) x_16).bind fun x_18=>Option.bind (if ((decide (x_17 ≠ aP.zero)) && (a0.Neg != b0.Neg)) = true then ((ja F 1).bind fun x_21=>(pw F x_18 x_21).bind fun x_22=>(jg F b0.W x_17).bind fun x_23=>some (x_23,x_22)) else (some (x_17,x_18))) (b7 fun r_19 q_20=>(cL F b0.Neg r_19).bind fun x_24=>some (q_20,x_24)))) (fun y=>some y)))
theorem uI {F:Nat} {a0:bt} {b0:bt} {r:bt × bt} (h:kg F a0 b0 = some r):az Tryz.prog (bj mx) 140 [] [.agg (au a0),.agg (au b0)] (Is [] (.fE [.agg (au r.1),.agg (au r.2)])):=by
 unfold kg at h
 refine az.intro 108 Tryz.func140 Tryz.ntmps140 rfl (by simp) fun E=>?_
 show ab _ E ⟨108,[],[]⟩ _ ⟨[(0,.b (.agg (au a0))),(1,.b (.agg (au b0)))],[]⟩ _
 refine ab.seq (ab.aa ?_)
 refine Oc (aS (k:=101) rfl rfl) (Oc (aS (k:=102) rfl rfl) (Oc (aA (k:=103) bx rfl) (Oc (aA (k:=104) bx rfl) ?_)))
 refine ad.aj ⟨[(2,Pt 101 0),(3,Pt 102 0),(4,Pt 103 0),(5,Pt 104 0)],[(101,.box 25 (au a0)),(102,.box 25 (au b0)),(103,.box 25 cO),(104,.box 25 cO)]⟩ rfl (ab.seq (ab.seq (ab.aa ?_)))
 refine Oc (lp ao) (Oc (lp ao) (Oc (br (k:=105) (es:=[a0,b0].map au) ju rfl rfl (c5 fun _=>rfl) rfl (by decide) (by decide) rfl) ?_))
 obtain ⟨x_1,e1,h⟩:=aE h
 refine Oc (eQ (fc e1) jV rfl CP.dJ) (ad.ah ⟨[(2,_),(3,_),(4,_),(5,_),(18,B x_1)],[(101,_),(102,_),(103,_),(104,_)]⟩ rfl (Oc (bq rfl) (Oc om ?_)))
 refine cN (!(!x_1)) [] (fun g2=>trivial) (fun g2=>lp ao) ?_
 obtain ⟨x_2,e4,h⟩:=aE h
 refine cN (!(!x_1)) [21] (fun g3=>⟨g3,trivial⟩) (fun g3=>ae (kh (gc e4 g3)) tT rfl rfl) (cN (!(!x_1)) [22] (fun g5=>⟨g5,trivial⟩) (fun g5=>cy rfl rfl) (Oc (aU (fun e=>by rw [e]; rfl) rfl rfl rfl rfl) (ad.aj ⟨[(2,_),(3,_),(4,_),(5,_),(24,B ((!x_1) || (decide (x_2 = 0))))],[(101,_),(102,_),(103,_),(104,_)]⟩ rfl (ab.ite h rfl (fun _ h=>?_) (fun _ h=>?_)))))
 ·refine ab.seq (ab.aa ?_)
  obtain ⟨x_3,e6,h⟩:=aE h
  refine Oc (ae (ec e6) iu rfl rfl) ?_
  obtain ⟨x_4,e7,h⟩:=aE h
  refine Oc (ae (ec e7) iu rfl rfl) (Oc (ag ao rfl rfl rfl rfl (Nat.le_of_ble_eq_true rfl) rfl) (Oc (ag ao rfl rfl rfl rfl (Nat.le_of_ble_eq_true rfl) rfl) ?_))
  refine ad.aj ⟨[(4,_),(5,_)],[(103,.box 25 (au x_3)),(104,.box 25 (au x_4))]⟩ rfl (ab.ret (Fin.ar ?_))
  obtain rfl:=Option.some.inj h
  refine Fin.ah ⟨[(4,_),(5,_)],[(103,_),(104,_)]⟩ rfl (Fin.aq [.agg (au x_3),.agg (au x_4)] (.inl rfl) rfl (.cons (.agg ao rfl rfl rfl rfl) (.cons (.agg ao rfl rfl rfl rfl) .nil)) ⟨rfl,rfl⟩)
 ·refine ab.skip (Fin.ah ⟨[(2,_),(3,_),(4,_),(5,_)],[(101,_),(102,_),(103,_),(104,_)]⟩ rfl (Fin.then ?_))
  obtain ⟨v8,h9,h⟩:=aE h
  refine ab.cB (v:=v8) (fun (_:Unit)=>⟨[(2,Pt 101 0),(3,Pt 102 0),(4,Pt 103 0),(5,Pt 104 0)],[(101,.box 25 (au a0)),(102,.box 25 (au b0)),(103,.box 25 cO),(104,.box 25 cO)]⟩) (fun z=>.inl z) ?_ ?_
  ·refine ab.seq (ab.aa ?_)
   refine Oc (lp ao) ?_
   obtain ⟨⟨x_5,x_6⟩,e10,h9⟩:=aE h9
   refine Oc (ae (rE e10) AP rfl rfl) (Oc om (Oc (ay rfl rfl) (Oc (ay rfl rfl) (Oc oa (Oc oa ?_)))))
   refine ad.aj ⟨[(2,_),(3,_),(4,_),(5,_),(6,I x_5),(7,B x_6)],[(101,_),(102,_),(103,_),(104,_)]⟩ rfl (ab.seq (ab.aa ?_))
   refine Oc om (Oc om ?_)
   refine bU x_6 [] (fun g11=>trivial) (fun g11=>om) (bU x_6 [34] (fun g12=>by exact ⟨g12,trivial⟩) (fun g12=>dY rfl rfl) (Oc (aD (fun e=>e) rfl rfl rfl rfl) (ad.aj ⟨[(2,_),(3,_),(4,_),(5,_),(6,_),(36,B (x_6 && (decide (x_5 ≠ (-9223372036854775808)))))],[(101,_),(102,_),(103,_),(104,_)]⟩ rfl (ab.ite h9 rfl (fun _ h9=>?_) (fun _ h9=>?_)))))
   ·refine ab.seq (ab.aa ?_)
    refine Oc (lp ao) ?_
    obtain ⟨⟨x_7,x_8⟩,e13,h9⟩:=aE h9
    refine Oc (ae (rE e13) AP rfl rfl) (Oc om (Oc (ay rfl rfl) (Oc (ay rfl rfl) (Oc oa (Oc oa ?_)))))
    refine ad.aj ⟨[(2,_),(3,_),(4,_),(5,_),(6,_),(8,I x_7),(9,B x_8)],[(101,_),(102,_),(103,_),(104,_)]⟩ rfl (ab.seq (ab.aa ?_))
    refine Oc om (Oc om ?_)
    refine bU x_8 [] (fun g14=>trivial) (fun g14=>om) (bU x_8 [44] (fun g15=>by exact ⟨g15,trivial⟩) (fun g15=>dY rfl rfl) (Oc (aD (fun e=>e) rfl rfl rfl rfl) (ad.aj ⟨[(2,_),(3,_),(4,_),(5,_),(6,_),(8,_),(46,B (x_8 && (decide (x_7 ≠ (-9223372036854775808)))))],[(101,_),(102,_),(103,_),(104,_)]⟩ rfl (ab.ite h9 rfl (fun _ h9=>?_) (fun _ h9=>?_)))))
    ·refine ab.seq (ab.ah ⟨[(4,_),(5,_),(6,_),(8,_)],[(103,_),(104,_)]⟩ rfl ?_)
     obtain ⟨x_9,e16,h9⟩:=aE h9
     obtain ⟨x_10,e17,h9⟩:=aE h9
     refine ab.bP mixed 8 [I x_5,I x_7,I x_9,I x_5,I x_7,I x_10,I x_9,I x_10] [4,5,8,10,11] [103,104] (s':=⟨[(4,_),(5,_),(8,_),(10,I x_9),(11,I x_10)],[(103,_),(104,_)]⟩) rfl ⟨fun _=>.p om,fun _=>.p om,fun _=>.p (fw e16 rfl rfl),fun _=>.p om,fun _=>.p om,fun _=>.p (pB e17 rfl rfl),fun _=>.p oa,fun _=>.p oa,trivial⟩ rfl rfl ?_
     obtain ⟨v18,h19,h9⟩:=aE h9
     refine ab.cB (v:=v18) (b7 fun (q_11:Int) (r_12:Int)=>⟨[(4,Pt 103 0),(5,Pt 104 0),(10,I q_11),(11,I r_12)],[(103,.box 25 cO),(104,.box 25 cO)]⟩) (fun z=>z) ?_ ?_
     ·refine ab.seq (ab.aa ?_)
      refine Oc om (Oc (dY rfl rfl) (Oc om ?_))
      refine bU (decide (x_10 ≠ 0)) [] (fun g20=>trivial) (fun g20=>om) (bU (decide (x_10 ≠ 0)) [56] (fun g21=>by exact ⟨g21,trivial⟩) (fun g21=>bK rfl rfl) (bU (decide (x_10 ≠ 0)) [] (fun g22=>by exact trivial) (fun g22=>om) (bU (decide (x_10 ≠ 0)) [58] (fun g23=>by exact ⟨g23,trivial⟩) (fun g23=>bK rfl rfl) (bU (decide (x_10 ≠ 0)) [57,59] (fun g24=>by exact ⟨g24,g24,trivial⟩) (fun g24=>gw uQ rfl rfl) (ad.iJ h19 rfl (aD (fun e=>e) rfl rfl rfl rfl) (fun x_13 h19=>?_))))))
      refine ad.aj ⟨[(4,_),(5,_),(8,_),(10,_),(11,_),(61,B x_13)],[(103,_),(104,_)]⟩ rfl (ab.ite h19 rfl (fun _ h19=>?_) (fun _ h19=>?_))
      ·refine ab.aa (Oc om (Oc (bX rfl rfl) (Oc om (Oc om (Oc (bb rfl rfl) (Oc oa ?_))))))
       refine Oc oa (ad.nil ?_)
       exact Fin.join [4,5,10,11] [103,104] (IntKind.i64.wrap (x_9 - 1),IntKind.i64.wrap (x_10 + x_7)) (Option.some.inj h19) rfl
      ·refine ab.skip ?_
       exact Fin.join [4,5,10,11] [103,104] (x_9,x_10) (Option.some.inj h19) rfl
     ·rintro ⟨q_11,r_12⟩ hv
      subst v18
      refine ab.seq (ab.aa ?_)
      refine Oc om ?_
      obtain ⟨x_14,e25,h9⟩:=aE h9
      refine Oc (ae (gO e25) mq rfl rfl) (Oc om ?_)
      refine ad.ah ⟨[(4,_),(5,_),(68,.b (.agg (au x_14))),(69,I r_12)],[(103,_),(104,_)]⟩ rfl ?_
      obtain ⟨x_15,e26,h9⟩:=aE h9
      refine Oc (ae (gO e26) mq rfl rfl) (Oc (ag ao rfl rfl rfl rfl (Nat.le_of_ble_eq_true rfl) rfl) (Oc (ag ao rfl rfl rfl rfl (Nat.le_of_ble_eq_true rfl) rfl) ?_))
      refine ad.aj ⟨[(4,_),(5,_)],[(103,.box 25 (au x_14)),(104,.box 25 (au x_15))]⟩ rfl (ab.ret ?_)
      obtain rfl:=Option.some.inj h9
      refine Fin.ar ?_
      obtain rfl:=Option.some.inj h
      refine Fin.ah ⟨[(4,_),(5,_)],[(103,_),(104,_)]⟩ rfl (Fin.aq [.agg (au x_14),.agg (au x_15)] (.inl rfl) rfl (.cons (.agg ao rfl rfl rfl rfl) (.cons (.agg ao rfl rfl rfl rfl) .nil)) ⟨rfl,rfl⟩)
    ·refine ab.skip ?_
     exact Fin.join [2,3,4,5] [101,102,103,104] () (Option.some.inj h9) rfl
   ·refine ab.skip ?_
    exact Fin.join [2,3,4,5] [101,102,103,104] () (Option.some.inj h9) rfl
  ·rintro _ hv
   subst v8
   refine ab.seq (ab.aa ?_)
   refine Oc (af ba rfl rfl) (Oc (lp aK) (Oc (af ba rfl rfl) (Oc (lp aK) ?_)))
   obtain ⟨⟨x_16,x_17⟩,e27,h⟩:=aE h
   refine Oc (ae (n4 e27) AY rfl rfl) (ad.ah ⟨[(2,_),(3,_),(4,_),(5,_),(76,.fE [.agg (eW x_16),.agg (eW x_17)])],[(101,_),(102,_),(103,_),(104,_)]⟩ rfl (Oc om (Oc (ay rfl rfl) (Oc (ay rfl rfl) (Oc (aA (k:=106) cD rfl) (Oc (aA (k:=107) cD rfl) (Oc (ag aK rfl rfl rfl rfl (Nat.le_of_ble_eq_true rfl) rfl) ?_)))))))
   refine Oc (ag aK rfl rfl rfl rfl (Nat.le_of_ble_eq_true rfl) rfl) (ad.aj ⟨[(2,_),(3,_),(4,_),(5,_),(12,Pt 106 0),(13,Pt 107 0)],[(101,_),(102,_),(103,_),(104,_),(106,.box 23 (eW x_16)),(107,.box 23 (eW x_17))]⟩ rfl (ab.seq (ab.aa ?_)))
   refine Oc (af bM rfl rfl) (Oc (ax cC rfl rfl rfl) (Oc (af bM rfl rfl) (Oc (ax cC rfl rfl rfl) (Oc (gw uQ rfl rfl) (Oc (lp aK) ?_)))))
   refine ad.ah ⟨[(2,_),(3,_),(4,_),(5,_),(13,_),(83,B (a0.Neg != b0.Neg)),(84,.b (.agg (eW x_16)))],[(101,_),(102,_),(103,_),(104,_),(107,_)]⟩ rfl ?_
   obtain ⟨x_18,e28,h⟩:=aE h
   refine Oc (ae (cJ e28) iw rfl rfl) (Oc (aA (k:=108) bx rfl) (Oc (ag ao rfl rfl rfl rfl (Nat.le_of_ble_eq_true rfl) rfl) ?_))
   refine ad.aj ⟨[(2,_),(3,_),(4,_),(5,_),(13,_),(14,Pt 108 0)],[(101,_),(102,_),(103,_),(104,_),(107,_),(108,.box 25 (au x_18))]⟩ rfl ?_
   obtain ⟨v29,h30,h⟩:=aE h
   refine ab.cB (v:=v29) (b7 fun (r_19:aP) (q_20:bt)=>⟨[(3,Pt 102 0),(4,Pt 103 0),(5,Pt 104 0),(13,Pt 107 0),(14,Pt 108 0)],[(102,.box 25 (au b0)),(103,.box 25 cO),(104,.box 25 cO),(107,.box 23 (eW r_19)),(108,.box 25 (au q_20))]⟩) (fun z=>z) ?_ ?_
   ·refine ab.seq (ab.aa ?_)
    refine Oc (lp aK) (Oc (fg gh rfl rfl) (Oc (hZ (nF x_17 aP.zero) rfl rfl l5) (Oc om ?_)))
    refine bU (decide (x_17 ≠ aP.zero)) [] (fun g31=>trivial) (fun g31=>af bM rfl rfl) (bU (decide (x_17 ≠ aP.zero)) [90] (fun g32=>⟨g32,trivial⟩) (fun g32=>ax cC rfl rfl rfl) (bU (decide (x_17 ≠ aP.zero)) [] (fun g33=>trivial) (fun g33=>af bM rfl rfl) (ad.ah ⟨[(3,_),(4,_),(5,_),(13,_),(14,_),(89,B (decide (x_17 ≠ aP.zero))),(91,.dA (decide (x_17 ≠ aP.zero)) (.one (.bool a0.Neg))),(92,.dA (decide (x_17 ≠ aP.zero)) (.ptr 102 1))],[(102,_),(103,_),(104,_),(107,_),(108,_)]⟩ rfl (bU (decide (x_17 ≠ aP.zero)) [92] (fun g34=>⟨g34,trivial⟩) (fun g34=>ax cC rfl rfl rfl) (bU (decide (x_17 ≠ aP.zero)) [91,93] (fun g35=>⟨g35,g35,trivial⟩) (fun g35=>gw uQ rfl rfl) ?_)))))
    refine Oc (aD (fun e=>e) rfl rfl rfl rfl) (ad.aj ⟨[(3,_),(4,_),(5,_),(13,_),(14,_),(95,B ((decide (x_17 ≠ aP.zero)) && (a0.Neg != b0.Neg)))],[(102,_),(103,_),(104,_),(107,_),(108,_)]⟩ rfl (ab.ite h30 rfl (fun _ h30=>?_) (fun _ h30=>?_)))
    ·refine ab.ah ⟨[(3,_),(4,_),(5,_),(13,_),(14,_)],[(102,_),(103,_),(104,_),(107,_),(108,_)]⟩ rfl ?_
     obtain ⟨x_21,e36,h30⟩:=aE h30
     obtain ⟨x_22,e37,h30⟩:=aE h30
     obtain ⟨x_23,e38,h30⟩:=aE h30
     refine ab.jy mixed 7 [.b (.agg (au x_18)),.b (.agg (au x_21)),.b (.agg (au x_22)),Pt 102 2,.b (.agg (eW b0.W)),.b (.agg (eW x_17)),.b (.agg (eW x_23))] [3,4,5,13,14] [102,103,104,107,108] (s':=⟨[(3,_),(4,_),(5,_),(13,_),(14,_)],[(102,_),(103,_),(104,_),(107,.box 23 (eW x_23)),(108,.box 25 (au x_22))]⟩) rfl ⟨fun _=>.p (lp ao),fun _=>.p (ae (gO e36) mq rfl rfl),fun _=>.p (ae (zn e37) goes182 rfl rfl),fun _=>.p (af ba rfl rfl),fun _=>.p (lp aK),fun _=>.p (lp aK),fun _=>.p (ae (nP e38) wv rfl rfl),trivial⟩ ⟨_,by exact .p (ag ao rfl rfl rfl rfl (Nat.le_of_ble_eq_true rfl) rfl),⟨_,by exact .p (ag aK rfl rfl rfl rfl (Nat.le_of_ble_eq_true rfl) rfl),rfl⟩⟩ rfl ?_
     exact Fin.join [3,4,5,13,14] [102,103,104,107,108] (x_23,x_22) (Option.some.inj h30) rfl
    ·refine ab.skip ?_
     exact Fin.join [3,4,5,13,14] [102,103,104,107,108] (x_17,x_18) (Option.some.inj h30) rfl
   ·rintro ⟨r_19,q_20⟩ hv
    subst v29
    refine ab.seq (ab.ah ⟨[(3,_),(4,_),(5,_),(13,_),(14,_)],[(102,_),(103,_),(104,_),(107,_),(108,_)]⟩ rfl ?_)
    obtain ⟨x_24,e39,h⟩:=aE h
    refine ab.bP mixed 5 [.b (.agg (au q_20)),Pt 102 1,B b0.Neg,.b (.agg (eW r_19)),.b (.agg (au x_24))] [4,5] [103,104] (s':=⟨[(4,_),(5,_)],[(103,.box 25 (au q_20)),(104,.box 25 (au x_24))]⟩) rfl ⟨fun _=>.p (lp ao),fun _=>.p (af bM rfl rfl),fun _=>.p (ax cC rfl rfl rfl),fun _=>.p (lp aK),fun _=>.p (ae (cJ e39) iw rfl rfl),trivial⟩ ⟨_,by exact .p (ag ao rfl rfl rfl rfl (Nat.le_of_ble_eq_true rfl) rfl),⟨_,by exact .p (ag ao rfl rfl rfl rfl (Nat.le_of_ble_eq_true rfl) rfl),rfl⟩⟩ rfl (ab.ret ?_)
    obtain rfl:=Option.some.inj h
    refine Fin.ah ⟨[(4,_),(5,_)],[(103,_),(104,_)]⟩ rfl (Fin.aq [.agg (au q_20),.agg (au x_24)] (.inl rfl) rfl (.cons (.agg ao rfl rfl rfl rfl) (.cons (.agg ao rfl rfl rfl rfl) .nil)) ⟨rfl,rfl⟩)
def kG (F:Nat) (a0:bt) (b0:bt):Option bt :=
 Option.bind (kg F a0 b0) (b7 fun x_1 x_2=>some x_1)
theorem fP {F:Nat} {a0:bt} {b0:bt} {r:bt} (h:kG F a0 b0 = some r):az Tryz.prog (bj mx) 78 [] [.agg (au a0),.agg (au b0)] (Is [] (.b (.agg (au r)))):=by
 unfold kG at h
 refine az.intro 14 Tryz.func78 Tryz.ntmps78 rfl (by simp) fun E=>?_
 show ab _ E ⟨14,[],[]⟩ _ ⟨[(0,.b (.agg (au a0))),(1,.b (.agg (au b0)))],[]⟩ _
 refine ab.seq (ab.aa ?_)
 refine Oc (aS (k:=101) rfl rfl) (Oc (aS (k:=102) rfl rfl) (Oc (aA (k:=103) bx rfl) ?_))
 refine ad.aj ⟨[(2,Pt 101 0),(3,Pt 102 0),(4,Pt 103 0)],[(101,.box 25 (au a0)),(102,.box 25 (au b0)),(103,.box 25 cO)]⟩ rfl (ab.seq (ab.aa ?_))
 refine Oc (lp ao) (Oc (lp ao) ?_)
 obtain ⟨⟨x_1,x_2⟩,e1,h⟩:=aE h
 refine Oc (ae (uI e1) goes140 rfl rfl) (Oc om (Oc (ay rfl rfl) ?_))
 refine ad.ah ⟨[(4,_),(7,.fE [.agg (au x_1),.agg (au x_2)]),(11,.b (.agg (au x_1)))],[(103,_)]⟩ rfl (Oc (ay rfl rfl) (Oc (aA (k:=104) bx rfl) (Oc (aA (k:=105) bx rfl) (Oc (ag ao rfl rfl rfl rfl (Nat.le_of_ble_eq_true rfl) rfl) (Oc (ag ao rfl rfl rfl rfl (Nat.le_of_ble_eq_true rfl) rfl) ?_)))))
 refine ad.aj ⟨[(4,_),(5,Pt 104 0)],[(103,_),(104,.box 25 (au x_1))]⟩ rfl (ab.seq (ab.aa ?_))
 refine Oc (lp ao) (Oc (ag ao rfl rfl rfl rfl (Nat.le_of_ble_eq_true rfl) rfl) ?_)
 refine ad.aj ⟨[(4,_)],[(103,.box 25 (au x_1))]⟩ rfl (ab.ret ?_)
 obtain rfl:=Option.some.inj h
 refine Fin.ah ⟨[(4,_)],[(103,_)]⟩ rfl (Fin.aq [.agg (au x_1)] (.inl rfl) rfl (.cons (.agg ao rfl rfl rfl rfl) .nil) ⟨rfl,rfl⟩)
def jt (F:Nat) (a0:bt) (b0:bt):Option bt :=
 (eL F [a0,b0]).bind fun x_1=>if (!x_1) = true then ((fV F).bind fun x_2=>some x_2) else ((hC F a0.W).bind fun x_3=>(hC F b0.W).bind fun x_4=>Option.bind (iter F (b7 fun out_6 x_7=>if (decide (x_7 < x_3)) = true then (Option.bind (Option.bind (iter F (kA fun out_12 carry_13 x_14=>if (decide (x_14 < x_4)) = true then ((bB a0.W.l x_7).bind fun x_17=>(bB b0.W.l x_14).bind fun x_18=>(bB out_12.l (IntKind.i64.wrap (x_7 + x_14))).bind fun x_19=>bD (IntKind.u64.wrap (carry_13 + (IntKind.u64.wrap ((IntKind.u64.wrap ((IntKind.u64.wrap x_17) * (IntKind.u64.wrap x_18))) + (IntKind.u64.wrap x_19))))) fun x_20=>(bB out_12.l (IntKind.i64.wrap (x_7 + x_14))).bind fun x_21=>bD (IntKind.u64.wrap (carry_13 + (IntKind.u64.wrap ((IntKind.u64.wrap ((IntKind.u64.wrap x_17) * (IntKind.u64.wrap x_18))) + (IntKind.u64.wrap x_19))))) fun x_22=>some (.inl (out_12.set (IntKind.i64.wrap (x_7 + x_14)) (IntKind.u32.wrap x_20),x_22 / 4294967296,IntKind.i64.wrap (x_14 + 1)))) else (some (.inr (out_12,carry_13)))) (out_6,0,0)) (b7 fun out_10 carry_11=>(bB out_10.l (IntKind.i64.wrap (x_7 + x_4))).bind fun x_23=>some (out_10.set (IntKind.i64.wrap (x_7 + x_4)) (IntKind.u32.wrap carry_11)))) (fun out_9=>some (.inl (out_9,IntKind.i64.wrap (x_7 + 1))))) else (some (.inr out_6))) (gY.zero,0)) (fun out_5=>bD (⟨out_5.zX,out_5.a17,out_5.a18,out_5.a19,out_5.a20,out_5.a21,out_5.a22,out_5.a23,out_5.a24,out_5.a25,out_5.a26,out_5.a27,out_5.a28,out_5.a29,out_5.a30,out_5.a31⟩:aP) fun x_24=>if (decide (x_24 ≠ aP.zero)) = true then ((fV F).bind fun x_25=>some x_25) else ((cL F (a0.Neg != b0.Neg) (⟨out_5.a0,out_5.a1,out_5.a2,out_5.a3,out_5.a4,out_5.a5,out_5.a6,out_5.a7,out_5.a8,out_5.a9,out_5.a10,out_5.a11,out_5.a12,out_5.a13,out_5.a14,out_5.a15⟩:aP)).bind fun x_26=>some x_26)))
theorem eE {F:Nat} {a0:bt} {b0:bt} {r:bt} (h:jt F a0 b0 = some r):az Tryz.prog (bj mx) 80 [] [.agg (au a0),.agg (au b0)] (Is [] (.b (.agg (au r)))):=by
 unfold jt at h
 refine az.intro 82 Tryz.func80 Tryz.ntmps80 rfl (by simp) fun E=>?_
 show ab _ E ⟨82,[],[]⟩ _ ⟨[(0,.b (.agg (au a0))),(1,.b (.agg (au b0)))],[]⟩ _
 refine ab.seq (ab.aa ?_)
 refine Oc (aS (k:=101) rfl rfl) (Oc (aS (k:=102) rfl rfl) (Oc (aA (k:=103) bx rfl) ?_))
 refine ad.aj ⟨[(2,Pt 101 0),(3,Pt 102 0),(4,Pt 103 0)],[(101,.box 25 (au a0)),(102,.box 25 (au b0)),(103,.box 25 cO)]⟩ rfl (ab.seq (ab.seq (ab.aa ?_)))
 refine Oc (lp ao) (Oc (lp ao) (Oc (br (k:=104) (es:=[a0,b0].map au) ju rfl rfl (c5 fun _=>rfl) rfl (by decide) (by decide) rfl) ?_))
 obtain ⟨x_1,e1,h⟩:=aE h
 refine Oc (eQ (fc e1) jV rfl CP.dJ) (Oc (bq rfl) ?_)
 refine ad.aj ⟨[(2,_),(3,_),(4,_),(15,B (!x_1))],[(101,_),(102,_),(103,_)]⟩ rfl (ab.ite h rfl (fun _ h=>?_) (fun _ h=>?_))
 ·refine ab.seq (ab.aa ?_)
  obtain ⟨x_2,e2,h⟩:=aE h
  refine Oc (ae (ec e2) iu rfl rfl) (Oc (ag ao rfl rfl rfl rfl (Nat.le_of_ble_eq_true rfl) rfl) ?_)
  refine ad.aj ⟨[(4,_)],[(103,.box 25 (au x_2))]⟩ rfl (ab.ret (Fin.ar ?_))
  obtain rfl:=Option.some.inj h
  refine Fin.ah ⟨[(4,_)],[(103,_)]⟩ rfl (Fin.aq [.agg (au x_2)] (.inl rfl) rfl (.cons (.agg ao rfl rfl rfl rfl) .nil) ⟨rfl,rfl⟩)
 ·refine ab.skip (Fin.ah ⟨[(2,_),(3,_),(4,_)],[(101,_),(102,_),(103,_)]⟩ rfl (Fin.then (ab.seq (ab.aa ?_))))
  refine Oc (aA (k:=105) Bx rfl) (ad.aj ⟨[(2,_),(3,_),(4,_),(5,Pt 105 0)],[(101,_),(102,_),(103,_),(105,.box 157 ((w9 .u32) gY.zero))]⟩ rfl (ab.seq ?_))
  obtain ⟨x_3,e3,h⟩:=aE h
  obtain ⟨x_4,e4,h⟩:=aE h
  refine ab.bP mixed 8 [Pt 101 2,.b (.agg (eW a0.W)),I x_3,Pt 102 2,.b (.agg (eW b0.W)),I x_4,I x_3,I x_4] [2,3,4,5,6,7] [101,102,103,105] (s':=⟨[(2,_),(3,_),(4,_),(5,_),(6,I x_3),(7,I x_4)],[(101,_),(102,_),(103,_),(105,_)]⟩) rfl ⟨fun _=>.p (af ba rfl rfl),fun _=>.p (lp aK),fun _=>.p (ae (ig e3) nC rfl rfl),fun _=>.p (af ba rfl rfl),fun _=>.p (lp aK),fun _=>.p (ae (ig e4) nC rfl rfl),fun _=>.p oa,fun _=>.p oa,trivial⟩ rfl rfl ?_
  obtain ⟨v5,h6,h⟩:=aE h
  refine ab.cB (v:=v5) (fun (out_5:gY)=>⟨[(2,Pt 101 0),(3,Pt 102 0),(4,Pt 103 0),(5,Pt 105 0)],[(101,.box 25 (au a0)),(102,.box 25 (au b0)),(103,.box 25 cO),(105,.box 157 ((w9 .u32) out_5))]⟩) (fun z=>z) ?_ ?_
  ·refine ab.seq (ab.aa ?_)
   refine Oc om (Oc om ?_)
   refine ad.aj ⟨[(2,_),(3,_),(4,_),(5,_),(7,_),(23,I x_3),(24,I 0)],[(101,_),(102,_),(103,_),(105,_)]⟩ rfl (ab.block (ab.cS h6 (b7 fun (out_6:gY) (x_7:Int)=>⟨[(2,Pt 101 0),(3,Pt 102 0),(4,Pt 103 0),(5,Pt 105 0),(7,I x_4),(23,I x_3),(24,I x_7)],[(101,.box 25 (au a0)),(102,.box 25 (au b0)),(103,.box 25 cO),(105,.box 157 ((w9 .u32) out_6))]⟩) [2,3,4,5,7,23,24] [101,102,103,105] rfl ?_))
   rintro ⟨out_6,x_7⟩ o7 h8 hy9
   refine ab.seq (ab.aa ?_)
   refine Oc (bK rfl rfl) (ad.aj ⟨[(2,_),(3,_),(4,_),(5,_),(7,_),(23,_),(24,_),(25,B (decide (x_7 < x_3)))],[(101,_),(102,_),(103,_),(105,_)]⟩ rfl (ab.seq (ab.ite h8 rfl (fun _ h8=>?_) (fun _ h8=>?_))))
   ·refine ab.skip (Fin.ah ⟨[(2,_),(3,_),(4,_),(5,_),(7,_),(23,_),(24,_)],[(101,_),(102,_),(103,_),(105,_)]⟩ rfl (Fin.then ?_))
    obtain ⟨v10,h11,h8⟩:=aE h8
    refine ab.cB (v:=v10) (fun (out_9:gY)=>⟨[(2,Pt 101 0),(3,Pt 102 0),(4,Pt 103 0),(5,Pt 105 0),(7,I x_4),(23,I x_3),(24,I x_7)],[(101,.box 25 (au a0)),(102,.box 25 (au b0)),(103,.box 25 cO),(105,.box 157 ((w9 .u32) out_9))]⟩) (fun z=>z) ?_ ?_
    ·refine ab.block (ab.seq (ab.aa ?_))
     refine Oc om (Oc oa ?_)
     refine ad.aj ⟨[(2,_),(3,_),(4,_),(5,_),(7,_),(8,I x_7),(23,_),(24,_)],[(101,_),(102,_),(103,_),(105,_)]⟩ rfl (ab.seq (ab.aa ?_))
     refine Oc oa (ad.aj ⟨[(2,_),(3,_),(4,_),(5,_),(7,_),(8,_),(9,.b (.one (.int .u64 0))),(23,_),(24,_)],[(101,_),(102,_),(103,_),(105,_)]⟩ rfl ?_)
     obtain ⟨v12,h13,h11⟩:=aE h11
     refine ab.cB (v:=v12) (b7 fun (out_10:gY) (carry_11:Int)=>⟨[(2,Pt 101 0),(3,Pt 102 0),(4,Pt 103 0),(5,Pt 105 0),(7,I x_4),(8,I x_7),(9,.b (.one (.int .u64 carry_11))),(23,I x_3),(24,I x_7)],[(101,.box 25 (au a0)),(102,.box 25 (au b0)),(103,.box 25 cO),(105,.box 157 ((w9 .u32) out_10))]⟩) (fun z=>z) ?_ ?_
     ·refine ab.seq (ab.aa ?_)
      refine Oc om (Oc om ?_)
      refine ad.aj ⟨[(2,_),(3,_),(4,_),(5,_),(7,_),(8,_),(9,_),(23,_),(24,_),(27,I x_4),(28,I 0)],[(101,_),(102,_),(103,_),(105,_)]⟩ rfl (ab.block (ab.cS h13 (kA fun (out_12:gY) (carry_13:Int) (x_14:Int)=>⟨[(2,Pt 101 0),(3,Pt 102 0),(4,Pt 103 0),(5,Pt 105 0),(7,I x_4),(8,I x_7),(9,.b (.one (.int .u64 carry_13))),(23,I x_3),(24,I x_7),(27,I x_4),(28,I x_14)],[(101,.box 25 (au a0)),(102,.box 25 (au b0)),(103,.box 25 cO),(105,.box 157 ((w9 .u32) out_12))]⟩) [2,3,4,5,7,8,9,23,24,27,28] [101,102,103,105] rfl ?_))
      rintro ⟨out_12,carry_13,x_14⟩ o14 h15 hy16
      refine ab.seq (ab.aa ?_)
      refine Oc (bK rfl rfl) (ad.aj ⟨[(2,_),(3,_),(4,_),(5,_),(7,_),(8,_),(9,_),(23,_),(24,_),(27,_),(28,_),(29,B (decide (x_14 < x_4)))],[(101,_),(102,_),(103,_),(105,_)]⟩ rfl (ab.seq (ab.ite h15 rfl (fun _ h15=>?_) (fun _ h15=>?_))))
      ·refine ab.skip (Fin.ah ⟨[(2,_),(3,_),(4,_),(5,_),(7,_),(8,_),(9,_),(23,_),(24,_),(27,_),(28,_)],[(101,_),(102,_),(103,_),(105,_)]⟩ rfl (Fin.then (ab.seq (ab.block (ab.seq (ab.aa ?_))))))
       refine Oc om (Oc oa ?_)
       refine ad.aj ⟨[(2,_),(3,_),(4,_),(5,_),(7,_),(8,_),(9,_),(10,I x_14),(23,_),(24,_),(27,_),(28,_)],[(101,_),(102,_),(103,_),(105,_)]⟩ rfl (ab.seq ?_)
       obtain ⟨x_17,e17,h15⟩:=aE h15
       obtain ⟨x_18,e18,h15⟩:=aE h15
       obtain ⟨x_19,e19,h15⟩:=aE h15
       refine ab.bP mixed 20 [.b (.one (.int .u64 carry_13)),I x_7,Pt 101 2,.b (.ptr 101 (2 + (x_7:Int).toNat * 1)),.b (.one (.int .u32 x_17)),.b (.one (.int .u64 (IntKind.u64.wrap x_17))),I x_14,Pt 102 2,.b (.ptr 102 (2 + (x_14:Int).toNat * 1)),.b (.one (.int .u32 x_18)),.b (.one (.int .u64 (IntKind.u64.wrap x_18))),.b (.one (.int .u64 (IntKind.u64.wrap ((IntKind.u64.wrap x_17) * (IntKind.u64.wrap x_18))))),I x_7,I x_14,I (IntKind.i64.wrap (x_7 + x_14)),.b (.ptr 105 (0 + (IntKind.i64.wrap (x_7 + x_14):Int).toNat * 1)),.b (.one (.int .u32 x_19)),.b (.one (.int .u64 (IntKind.u64.wrap x_19))),.b (.one (.int .u64 (IntKind.u64.wrap ((IntKind.u64.wrap ((IntKind.u64.wrap x_17) * (IntKind.u64.wrap x_18))) + (IntKind.u64.wrap x_19))))),.b (.one (.int .u64 (IntKind.u64.wrap (carry_13 + (IntKind.u64.wrap ((IntKind.u64.wrap ((IntKind.u64.wrap x_17) * (IntKind.u64.wrap x_18))) + (IntKind.u64.wrap x_19)))))))] [2,3,4,5,7,8,9,10,23,24,27,28] [101,102,103,105] (s':=⟨[(2,_),(3,_),(4,_),(5,_),(7,_),(8,_),(9,.b (.one (.int .u64 (IntKind.u64.wrap (carry_13 + (IntKind.u64.wrap ((IntKind.u64.wrap ((IntKind.u64.wrap x_17) * (IntKind.u64.wrap x_18))) + (IntKind.u64.wrap x_19)))))))),(10,_),(23,_),(24,_),(27,_),(28,_)],[(101,_),(102,_),(103,_),(105,_)]⟩) rfl ⟨fun _=>.p om,fun _=>.p om,fun _=>.p (af ba rfl rfl),fun _=>.p (aN bE (bp e17) (b9 e17) rfl rfl rfl),fun _=>.p (ax bl rfl rfl (cc (post:=[]) (k:=.u32) [.bool a0.Bad,.bool a0.Neg] e17 rfl rfl rfl)),fun _=>.p (aF bG bu rfl),fun _=>.p om,fun _=>.p (af ba rfl rfl),fun _=>.p (aN bE (bp e18) (b9 e18) rfl rfl rfl),fun _=>.p (ax bl rfl rfl (cc (post:=[]) (k:=.u32) [.bool b0.Bad,.bool b0.Neg] e18 rfl rfl rfl)),fun _=>.p (aF bG bu rfl),fun _=>.p (fN rfl rfl),fun _=>.p om,fun _=>.p om,fun _=>.p (bb rfl rfl),fun _=>.p (aN oC (bp e19) (b9 e19) rfl rfl rfl),fun _=>.p (ax bl rfl rfl (cc (post:=[]) (k:=.u32) [] e19 rfl rfl rfl)),fun _=>.p (aF bG bu rfl),fun _=>.p (bb rfl rfl),fun _=>.p (bb rfl rfl),trivial⟩ ⟨_,by exact .p oa,rfl⟩ rfl (ab.seq (ab.aa ?_))
       refine Oc om (Oc om (Oc (bb rfl rfl) ?_))
       refine ad.cp .u64 h15 rfl om (fun x_20 h15=>?_)
       refine Oc (aF bu bG rfl) ?_
       obtain ⟨x_21,e20,h15⟩:=aE h15
       refine Oc (aN oC (bp e20) (b9 e20) rfl rfl rfl) (Oc (bQ bl rfl rfl rfl (jr (post:=[]) (k:=.u32) [] e20 rfl rfl rfl) (gW (post:=[]) (k:=.u32) [] e20 rfl rfl (gY.iO out_12 (IntKind.i64.wrap (x_7 + x_14)) (IntKind.u32.wrap x_20)) rfl rfl)) ?_)
       refine ad.aj ⟨[(2,_),(3,_),(4,_),(5,_),(7,_),(8,_),(9,_),(23,_),(24,_),(27,_),(28,_)],[(101,_),(102,_),(103,_),(105,.box 157 ((w9 .u32) (out_12.set (IntKind.i64.wrap (x_7 + x_14)) (IntKind.u32.wrap x_20))))]⟩ rfl (ab.aa (ad.cp .u64 h15 rfl om (fun x_22 h15=>?_)))
       refine Oc (iW (m:=32) (by decide) rfl rfl rfl) (Oc oa ?_)
       refine ad.nil (Fin.aH (Fin.ah ⟨[(2,_),(3,_),(4,_),(5,_),(7,_),(8,_),(9,.b (.one (.int .u64 (x_22 / 4294967296)))),(23,_),(24,_),(27,_),(28,_)],[(101,_),(102,_),(103,_),(105,_)]⟩ rfl (Fin.then (ab.aa ?_))))
       refine Oc (bb rfl rfl) (Oc om ?_)
       refine ad.nil ?_
       exact Fin.bR [2,3,4,5,7,8,9,23,24,27,28] [101,102,103,105] (out_12.set (IntKind.i64.wrap (x_7 + x_14)) (IntKind.u32.wrap x_20),x_22 / 4294967296,IntKind.i64.wrap (x_14 + 1)) (Option.some.inj h15) rfl
      ·refine ab.exit (Fin.aG ?_)
       obtain rfl:=hy16 _ (Option.some.inj h15).symm
       refine Fin.aG (Fin.aY ?_)
       exact Fin.join [2,3,4,5,7,8,9,23,24] [101,102,103,105] (out_12,carry_13) rfl rfl
     ·rintro ⟨out_10,carry_11⟩ hv
      subst v12
      refine ab.aa (Oc om (Oc om (Oc (bb rfl rfl) (Oc om (Oc (aF bu bG rfl) ?_)))))
      obtain ⟨x_23,e21,h11⟩:=aE h11
      refine Oc (aN oC (bp e21) (b9 e21) rfl rfl rfl) (Oc (bQ bl rfl rfl rfl (jr (post:=[]) (k:=.u32) [] e21 rfl rfl rfl) (gW (post:=[]) (k:=.u32) [] e21 rfl rfl (gY.iO out_10 (IntKind.i64.wrap (x_7 + x_4)) (IntKind.u32.wrap carry_11)) rfl rfl)) ?_)
      refine ad.nil (Fin.aH ?_)
      exact Fin.join [2,3,4,5,7,23,24] [101,102,103,105] (out_10.set (IntKind.i64.wrap (x_7 + x_4)) (IntKind.u32.wrap carry_11)) (Option.some.inj h11) rfl
    ·rintro out_9 hv
     subst v10
     refine ab.aa (Oc (bb rfl rfl) (Oc om ?_))
     refine ad.nil ?_
     exact Fin.bR [2,3,4,5,7,23,24] [101,102,103,105] (out_9,IntKind.i64.wrap (x_7 + 1)) (Option.some.inj h8) rfl
   ·refine ab.exit (Fin.aG ?_)
    obtain rfl:=hy9 _ (Option.some.inj h8).symm
    refine Fin.aG (Fin.aY ?_)
    exact Fin.join [2,3,4,5] [101,102,103,105] out_6 rfl rfl
  ·rintro out_5 hv
   subst v5
   refine ab.seq (ab.seq (ab.aa ?_))
   refine Oc (ym (i:=16) oC (by decide) (by decide) rfl rfl) (Oc (ug bE (by decide) rfl) ?_)
   refine ad.ek eW h rfl (lp aK) (fun x_24 h=>?_)
   refine Oc (fg gh rfl rfl) (Oc (hZ (nF x_24 aP.zero) rfl rfl l5) ?_)
   refine ad.aj ⟨[(2,_),(3,_),(4,_),(5,_),(71,B (decide (x_24 ≠ aP.zero)))],[(101,_),(102,_),(103,_),(105,_)]⟩ rfl (ab.ite h rfl (fun _ h=>?_) (fun _ h=>?_))
   ·refine ab.seq (ab.aa ?_)
    obtain ⟨x_25,e22,h⟩:=aE h
    refine Oc (ae (ec e22) iu rfl rfl) (Oc (ag ao rfl rfl rfl rfl (Nat.le_of_ble_eq_true rfl) rfl) ?_)
    refine ad.aj ⟨[(4,_)],[(103,.box 25 (au x_25))]⟩ rfl (ab.ret (Fin.ar ?_))
    obtain rfl:=Option.some.inj h
    refine Fin.ah ⟨[(4,_)],[(103,_)]⟩ rfl (Fin.aq [.agg (au x_25)] (.inl rfl) rfl (.cons (.agg ao rfl rfl rfl rfl) .nil) ⟨rfl,rfl⟩)
   ·refine ab.skip (Fin.ah ⟨[(2,_),(3,_),(4,_),(5,_)],[(101,_),(102,_),(103,_),(105,_)]⟩ rfl (Fin.then (ab.seq ?_)))
    refine ab.ah ⟨[(2,_),(3,_),(4,_),(5,_)],[(101,_),(102,_),(103,_),(105,_)]⟩ rfl ?_
    obtain ⟨x_26,e23,h⟩:=aE h
    refine ab.bP mixed 9 [Pt 101 1,B a0.Neg,Pt 102 1,B b0.Neg,B (a0.Neg != b0.Neg),.b (.s9 105 0 16 32),Pt 105 0,.b (.agg [.int .u32 out_5.a0,.int .u32 out_5.a1,.int .u32 out_5.a2,.int .u32 out_5.a3,.int .u32 out_5.a4,.int .u32 out_5.a5,.int .u32 out_5.a6,.int .u32 out_5.a7,.int .u32 out_5.a8,.int .u32 out_5.a9,.int .u32 out_5.a10,.int .u32 out_5.a11,.int .u32 out_5.a12,.int .u32 out_5.a13,.int .u32 out_5.a14,.int .u32 out_5.a15]),.b (.agg (au x_26))] [4] [103] (s':=⟨[(4,_)],[(103,.box 25 (au x_26))]⟩) rfl ⟨fun _=>.p (af bM rfl rfl),fun _=>.p (ax cC rfl rfl rfl),fun _=>.p (af bM rfl rfl),fun _=>.p (ax cC rfl rfl rfl),fun _=>.p (gw uQ rfl rfl),fun _=>.p (sI (i:=16) oC (by decide) (by decide) rfl rfl),fun _=>.p (ug bE (by decide) rfl),fun _=>.p (lp aK),fun _=>.p (ae (cJ e23) iw rfl rfl),trivial⟩ ⟨_,by exact .p (ag ao rfl rfl rfl rfl (Nat.le_of_ble_eq_true rfl) rfl),rfl⟩ rfl (ab.ret ?_)
    obtain rfl:=Option.some.inj h
    refine Fin.ah ⟨[(4,_)],[(103,_)]⟩ rfl (Fin.aq [.agg (au x_26)] (.inl rfl) rfl (.cons (.agg ao rfl rfl rfl rfl) .nil) ⟨rfl,rfl⟩)
def iS (F:Nat) (n0:bt) (d0:bt):Option bN :=
 (j8 F n0).bind fun x_1=>(bA (!(!x_1)) (j8 F d0)).bind fun x_2=>(bA (!((!x_1) || (!x_2))) (hE F d0)).bind fun x_3=>if (((!x_1) || (!x_2)) || (decide (x_3 = 0))) = true then ((im F).bind fun x_4=>some x_4) else ((px F n0 d0).bind fun x_5=>Option.bind ((hE F d0).bind fun x_7=>if (decide (x_7 < 0)) = true then ((nk F x_5).bind fun x_8=>some x_8) else (some x_5)) (fun g_6=>(kG F n0 g_6).bind fun x_9=>(kG F d0 g_6).bind fun x_10=>some (⟨x_9,x_10⟩:bN)))
theorem dP {F:Nat} {n0:bt} {d0:bt} {r:bN} (h:iS F n0 d0 = some r):az Tryz.prog (bj mx) 76 [] [.agg (au n0),.agg (au d0)] (Is [] (.b (.agg (aI r)))):=by
 unfold iS at h
 refine az.intro 35 Tryz.func76 Tryz.ntmps76 rfl (by simp) fun E=>?_
 show ab _ E ⟨35,[],[]⟩ _ ⟨[(0,.b (.agg (au n0))),(1,.b (.agg (au d0)))],[]⟩ _
 refine ab.seq (ab.aa ?_)
 refine Oc (aS (k:=101) rfl rfl) (Oc (aS (k:=102) rfl rfl) (Oc (aA (k:=103) bO rfl) ?_))
 refine ad.aj ⟨[(2,Pt 101 0),(3,Pt 102 0),(4,Pt 103 0)],[(101,.box 25 (au n0)),(102,.box 25 (au d0)),(103,.box 27 eh)]⟩ rfl (ab.seq (ab.seq (ab.aa ?_)))
 refine Oc (lp ao) ?_
 obtain ⟨x_1,e1,h⟩:=aE h
 refine Oc (ae (mf e1) tp rfl rfl) (Oc (bq rfl) (Oc om ?_))
 refine cN (!(!x_1)) [] (fun g2=>trivial) (fun g2=>lp ao) (ad.ah ⟨[(2,_),(3,_),(4,_),(9,B (!x_1)),(10,.dA (!(!x_1)) (.agg (au d0)))],[(101,_),(102,_),(103,_)]⟩ rfl ?_)
 obtain ⟨x_2,e4,h⟩:=aE h
 refine cN (!(!x_1)) [10] (fun g3=>⟨g3,trivial⟩) (fun g3=>ae (mf (gc e4 g3)) tp rfl rfl) (cN (!(!x_1)) [11] (fun g5=>⟨g5,trivial⟩) (fun g5=>bq rfl) (Oc (aU (fun e=>by rw [e]; rfl) rfl rfl rfl rfl) (Oc om ?_)))
 refine cN (!((!x_1) || (!x_2))) [] (fun g6=>trivial) (fun g6=>lp ao) ?_
 obtain ⟨x_3,e8,h⟩:=aE h
 refine cN (!((!x_1) || (!x_2))) [15] (fun g7=>⟨g7,trivial⟩) (fun g7=>ae (kh (gc e8 g7)) tT rfl rfl) (cN (!((!x_1) || (!x_2))) [16] (fun g9=>⟨g9,trivial⟩) (fun g9=>cy rfl rfl) (Oc (aU (fun e=>by rw [e]; rfl) rfl rfl rfl rfl) (ad.aj ⟨[(2,_),(3,_),(4,_),(18,B (((!x_1) || (!x_2)) || (decide (x_3 = 0))))],[(101,_),(102,_),(103,_)]⟩ rfl (ab.ite h rfl (fun _ h=>?_) (fun _ h=>?_)))))
 ·refine ab.seq (ab.aa ?_)
  obtain ⟨x_4,e10,h⟩:=aE h
  refine Oc (ae (gA e10) nj rfl rfl) (Oc (ag aC rfl rfl rfl rfl (Nat.le_of_ble_eq_true rfl) rfl) ?_)
  refine ad.aj ⟨[(4,_)],[(103,.box 27 (aI x_4))]⟩ rfl (ab.ret (Fin.ar ?_))
  obtain rfl:=Option.some.inj h
  refine Fin.ah ⟨[(4,_)],[(103,_)]⟩ rfl (Fin.aq [.agg (aI x_4)] (.inl rfl) rfl (.cons (.agg aC rfl rfl rfl rfl) .nil) ⟨rfl,rfl⟩)
 ·refine ab.skip (Fin.ah ⟨[(2,_),(3,_),(4,_)],[(101,_),(102,_),(103,_)]⟩ rfl (Fin.then (ab.seq (ab.aa ?_))))
  refine Oc (lp ao) (Oc (lp ao) ?_)
  obtain ⟨x_5,e11,h⟩:=aE h
  refine Oc (ae (qC e11) vM rfl rfl) (Oc (aA (k:=104) bx rfl) (Oc (ag ao rfl rfl rfl rfl (Nat.le_of_ble_eq_true rfl) rfl) ?_))
  refine ad.aj ⟨[(2,_),(3,_),(4,_),(5,Pt 104 0)],[(101,_),(102,_),(103,_),(104,.box 25 (au x_5))]⟩ rfl ?_
  obtain ⟨v12,h13,h⟩:=aE h
  refine ab.cB (v:=v12) (fun (g_6:bt)=>⟨[(2,Pt 101 0),(3,Pt 102 0),(4,Pt 103 0),(5,Pt 104 0)],[(101,.box 25 (au n0)),(102,.box 25 (au d0)),(103,.box 27 eh),(104,.box 25 (au g_6))]⟩) (fun z=>z) ?_ ?_
  ·refine ab.seq (ab.aa ?_)
   refine Oc (lp ao) ?_
   obtain ⟨x_7,e14,h13⟩:=aE h13
   refine Oc (ae (kh e14) tT rfl rfl) (Oc (bK rfl rfl) ?_)
   refine ad.aj ⟨[(2,_),(3,_),(4,_),(5,_),(25,B (decide (x_7 < 0)))],[(101,_),(102,_),(103,_),(104,_)]⟩ rfl (ab.ite h13 rfl (fun _ h13=>?_) (fun _ h13=>?_))
   ·refine ab.aa (Oc (lp ao) ?_)
    obtain ⟨x_8,e15,h13⟩:=aE h13
    refine Oc (ae (qB e15) yY rfl rfl) (Oc (ag ao rfl rfl rfl rfl (Nat.le_of_ble_eq_true rfl) rfl) ?_)
    refine ad.nil ?_
    exact Fin.join [2,3,4,5] [101,102,103,104] x_8 (Option.some.inj h13) rfl
   ·refine ab.skip ?_
    exact Fin.join [2,3,4,5] [101,102,103,104] x_5 (Option.some.inj h13) rfl
  ·rintro g_6 hv
   subst v12
   refine ab.seq (ab.ah ⟨[(2,_),(3,_),(4,_),(5,_)],[(101,_),(102,_),(103,_),(104,_)]⟩ rfl ?_)
   obtain ⟨x_9,e16,h⟩:=aE h
   obtain ⟨x_10,e17,h⟩:=aE h
   refine ab.bP mixed 7 [.b (.agg (au n0)),.b (.agg (au g_6)),.b (.agg (au x_9)),.b (.agg (au d0)),.b (.agg (au g_6)),.b (.agg (au x_10)),.b (.agg (au x_9 ++ (au x_10)))] [4] [103] (s':=⟨[(4,_)],[(103,.box 27 (au x_9 ++ (au x_10)))]⟩) rfl ⟨fun _=>.p (lp ao),fun _=>.p (lp ao),fun _=>.p (ae (fP e16) mo rfl rfl),fun _=>.p (lp ao),fun _=>.p (lp ao),fun _=>.p (ae (fP e17) mo rfl rfl),fun _=>.p (aV fB rfl rfl),trivial⟩ ⟨_,by exact .p (ag aC rfl rfl rfl rfl (Nat.le_of_ble_eq_true rfl) rfl),rfl⟩ rfl (ab.ret ?_)
   obtain rfl:=Option.some.inj h
   refine Fin.ah ⟨[(4,_)],[(103,_)]⟩ rfl (Fin.aq [.agg (au x_9 ++ (au x_10))] (.inl rfl) rfl (.cons (.agg aC rfl rfl rfl rfl) .nil) ⟨rfl,rfl⟩)
def qZ (F:Nat) (x0:bN) (y0:bN):Option bN :=
 (dE F x0).bind fun x_1=>(bA (!(!x_1)) (dE F y0)).bind fun x_2=>if ((!x_1) || (!x_2)) = true then ((im F).bind fun x_3=>some x_3) else ((px F x0.D y0.D).bind fun x_4=>(kG F x0.D x_4).bind fun x_5=>(kG F y0.D x_4).bind fun x_6=>(jt F x0.N x_6).bind fun x_7=>(jt F y0.N x_5).bind fun x_8=>(nn F x_7 x_8).bind fun x_9=>(jt F x_5 y0.D).bind fun x_10=>(iS F x_9 x_10).bind fun x_11=>some x_11)
theorem qK {F:Nat} {x0:bN} {y0:bN} {r:bN} (h:qZ F x0 y0 = some r):az Tryz.prog (bj mx) 22 [] [.agg (aI x0),.agg (aI y0)] (Is [] (.b (.agg (aI r)))):=by
 unfold qZ at h
 refine az.intro 44 Tryz.func22 Tryz.ntmps22 rfl (by simp) fun E=>?_
 show ab _ E ⟨44,[],[]⟩ _ ⟨[(0,.b (.agg (aI x0))),(1,.b (.agg (aI y0)))],[]⟩ _
 refine ab.seq (ab.aa ?_)
 refine Oc (aS (k:=101) rfl rfl) (Oc (aS (k:=102) rfl rfl) (Oc (aA (k:=103) bO rfl) ?_))
 refine ad.aj ⟨[(2,Pt 101 0),(3,Pt 102 0),(4,Pt 103 0)],[(101,.box 27 (aI x0)),(102,.box 27 (aI y0)),(103,.box 27 eh)]⟩ rfl (ab.seq (ab.seq (ab.aa ?_)))
 refine Oc (lp aC) ?_
 obtain ⟨x_1,e1,h⟩:=aE h
 refine Oc (ae (dQ e1) kv rfl rfl) (Oc (bq rfl) (Oc om ?_))
 refine cN (!(!x_1)) [] (fun g2=>trivial) (fun g2=>lp aC) (ad.ah ⟨[(2,_),(3,_),(4,_),(11,B (!x_1)),(12,.dA (!(!x_1)) (.agg (aI y0)))],[(101,_),(102,_),(103,_)]⟩ rfl ?_)
 obtain ⟨x_2,e4,h⟩:=aE h
 refine cN (!(!x_1)) [12] (fun g3=>⟨g3,trivial⟩) (fun g3=>ae (dQ (gc e4 g3)) kv rfl rfl) (cN (!(!x_1)) [13] (fun g5=>⟨g5,trivial⟩) (fun g5=>bq rfl) (Oc (aU (fun e=>by rw [e]; rfl) rfl rfl rfl rfl) (ad.aj ⟨[(2,_),(3,_),(4,_),(15,B ((!x_1) || (!x_2)))],[(101,_),(102,_),(103,_)]⟩ rfl (ab.ite h rfl (fun _ h=>?_) (fun _ h=>?_)))))
 ·refine ab.seq (ab.aa ?_)
  obtain ⟨x_3,e6,h⟩:=aE h
  refine Oc (ae (gA e6) nj rfl rfl) (Oc (ag aC rfl rfl rfl rfl (Nat.le_of_ble_eq_true rfl) rfl) ?_)
  refine ad.aj ⟨[(4,_)],[(103,.box 27 (aI x_3))]⟩ rfl (ab.ret (Fin.ar ?_))
  obtain rfl:=Option.some.inj h
  refine Fin.ah ⟨[(4,_)],[(103,_)]⟩ rfl (Fin.aq [.agg (aI x_3)] (.inl rfl) rfl (.cons (.agg aC rfl rfl rfl rfl) .nil) ⟨rfl,rfl⟩)
 ·refine ab.skip (Fin.ah ⟨[(2,_),(3,_),(4,_)],[(101,_),(102,_),(103,_)]⟩ rfl (Fin.then (ab.seq (ab.aa ?_))))
  refine Oc (af bm rfl rfl) (Oc (lp ao) (Oc (af bm rfl rfl) (Oc (lp ao) ?_)))
  obtain ⟨x_4,e7,h⟩:=aE h
  refine Oc (ae (qC e7) vM rfl rfl) (Oc (aA (k:=104) bx rfl) (Oc (ag ao rfl rfl rfl rfl (Nat.le_of_ble_eq_true rfl) rfl) ?_))
  refine ad.aj ⟨[(2,_),(3,_),(4,_),(5,Pt 104 0)],[(101,_),(102,_),(103,_),(104,.box 25 (au x_4))]⟩ rfl (ab.seq ?_)
  obtain ⟨x_5,e8,h⟩:=aE h
  obtain ⟨x_6,e9,h⟩:=aE h
  refine ab.pz mixed [false,false,false,false,false,false,false,false,true,true,true,true] [Pt 101 18,.b (.agg (au x0.D)),.b (.agg (au x_4)),.b (.agg (au x_5)),Pt 102 18,.b (.agg (au y0.D)),.b (.agg (au x_4)),.b (.agg (au x_6)),Pt 105 0,Pt 106 0,B true,B true] [⟨[false,false,false,false,false,false,false,false,false,false,false,false],[(2,Pt 101 0),(3,Pt 102 0),(4,Pt 103 0),(5,Pt 104 0)],[(101,.box 27 (aI x0)),(102,.box 27 (aI y0)),(103,.box 27 eh),(104,.box 25 (au x_4))],[true,true,true,true,true,true,true,true,true,true,true,true],[]⟩,⟨[false,false,false,false,false,false,false,false,true,false,false,false],[(2,Pt 101 0),(3,Pt 102 0),(4,Pt 103 0),(5,Pt 104 0)],[(101,.box 27 (aI x0)),(102,.box 27 (aI y0)),(103,.box 27 eh),(104,.box 25 (au x_4)),(105,.box 25 cO)],[true,true,true,true,true,true,true,true,true,true,true,true],[8]⟩,⟨[false,false,false,false,false,false,false,false,false,true,false,false],[(2,Pt 101 0),(3,Pt 102 0),(4,Pt 103 0),(5,Pt 104 0)],[(101,.box 27 (aI x0)),(102,.box 27 (aI y0)),(103,.box 27 eh),(104,.box 25 (au x_4)),(106,.box 25 cO)],[true,true,true,true,true,true,true,true,true,true,true,true],[9]⟩,⟨[false,false,false,false,false,false,false,false,true,true,false,false],[(2,Pt 101 0),(3,Pt 102 0),(4,Pt 103 0),(5,Pt 104 0)],[(101,.box 27 (aI x0)),(102,.box 27 (aI y0)),(103,.box 27 eh),(104,.box 25 (au x_4)),(105,.box 25 cO),(106,.box 25 cO)],[true,true,true,true,true,true,true,true,true,true,true,true],[8,9]⟩,⟨[false,false,false,false,false,false,false,false,true,true,true,false],[(2,Pt 101 0),(3,Pt 102 0),(4,Pt 103 0),(5,Pt 104 0)],[(101,.box 27 (aI x0)),(102,.box 27 (aI y0)),(103,.box 27 eh),(104,.box 25 (au x_4)),(105,.box 25 (au x_5)),(106,.box 25 cO)],[true,true,true,true,true,true,true,true,true,true,true,true],[0,1,2,3,4,5,6,7,8,9,10]⟩,⟨[false,false,false,false,false,false,false,false,true,true,true,true],[(2,Pt 101 0),(3,Pt 102 0),(4,Pt 103 0),(5,Pt 104 0)],[(101,.box 27 (aI x0)),(102,.box 27 (aI y0)),(103,.box 27 eh),(104,.box 25 (au x_4)),(105,.box 25 (au x_5)),(106,.box 25 (au x_6))],[true,true,true,true,true,true,true,true,true,true,true,true],[0,1,2,3,4,5,6,7,8,9,10,11]⟩] rfl (⟨by kernel_rfl,⟨⟨Pt 101 18,fun _=>rfl,fun _=>.p (by exact af bm rfl rfl)⟩,⟨.b (.agg (au x0.D)),fun _=>rfl,fun _=>.p (by exact aQ ao rfl rfl rfl rfl)⟩,⟨.b (.agg (au x_4)),fun _=>rfl,fun _=>.p (by exact aQ ao rfl rfl rfl rfl)⟩,⟨.b (.agg (au x_5)),fun _=>rfl,fun _=>.p (by exact ae (fP e8) mo rfl rfl)⟩,⟨Pt 102 18,fun _=>rfl,fun _=>.p (by exact af bm rfl rfl)⟩,⟨.b (.agg (au y0.D)),fun _=>rfl,fun _=>.p (by exact aQ ao rfl rfl rfl rfl)⟩,⟨.b (.agg (au x_4)),fun _=>rfl,fun _=>.p (by exact aQ ao rfl rfl rfl rfl)⟩,⟨.b (.agg (au x_6)),fun _=>rfl,fun _=>.p (by exact ae (fP e9) mo rfl rfl)⟩,⟨_,some 105,Pt 105 0,rfl,fun _=>rfl,rfl,rfl,fun _=>.qP [101,102,103,104,105] (by exact .p (by exact aA (k:=105) bx rfl)) (by exact rfl)⟩,⟨_,some 106,Pt 106 0,rfl,fun _=>rfl,rfl,rfl,fun _=>.qP [101,102,103,104,106] (by exact .p (by exact aA (k:=106) bx rfl)) (by exact rfl)⟩,trivial,trivial,trivial⟩,⟨by kernel_rfl,⟨⟨Pt 101 18,fun _=>rfl,fun _=>.p (by exact af bm rfl rfl)⟩,⟨.b (.agg (au x0.D)),fun _=>rfl,fun _=>.p (by exact aQ ao rfl rfl rfl rfl)⟩,⟨.b (.agg (au x_4)),fun _=>rfl,fun _=>.p (by exact aQ ao rfl rfl rfl rfl)⟩,⟨.b (.agg (au x_5)),fun _=>rfl,fun _=>.p (by exact ae (fP e8) mo rfl rfl)⟩,⟨Pt 102 18,fun _=>rfl,fun _=>.p (by exact af bm rfl rfl)⟩,⟨.b (.agg (au y0.D)),fun _=>rfl,fun _=>.p (by exact aQ ao rfl rfl rfl rfl)⟩,⟨.b (.agg (au x_4)),fun _=>rfl,fun _=>.p (by exact aQ ao rfl rfl rfl rfl)⟩,⟨.b (.agg (au x_6)),fun _=>rfl,fun _=>.p (by exact ae (fP e9) mo rfl rfl)⟩,trivial,⟨_,some 106,Pt 106 0,rfl,fun _=>rfl,rfl,rfl,fun _=>.qP [101,102,103,104,105,106] (by exact .p (by exact aA (k:=106) bx rfl)) (by exact rfl)⟩,trivial,trivial,trivial⟩,⟨by kernel_rfl,⟨⟨Pt 101 18,fun _=>rfl,fun _=>.p (by exact af bm rfl rfl)⟩,⟨.b (.agg (au x0.D)),fun _=>rfl,fun _=>.p (by exact aQ ao rfl rfl rfl rfl)⟩,⟨.b (.agg (au x_4)),fun _=>rfl,fun _=>.p (by exact aQ ao rfl rfl rfl rfl)⟩,⟨.b (.agg (au x_5)),fun _=>rfl,fun _=>.p (by exact ae (fP e8) mo rfl rfl)⟩,⟨Pt 102 18,fun _=>rfl,fun _=>.p (by exact af bm rfl rfl)⟩,⟨.b (.agg (au y0.D)),fun _=>rfl,fun _=>.p (by exact aQ ao rfl rfl rfl rfl)⟩,⟨.b (.agg (au x_4)),fun _=>rfl,fun _=>.p (by exact aQ ao rfl rfl rfl rfl)⟩,⟨.b (.agg (au x_6)),fun _=>rfl,fun _=>.p (by exact ae (fP e9) mo rfl rfl)⟩,⟨_,some 105,Pt 105 0,rfl,fun _=>rfl,rfl,rfl,fun _=>.qP [101,102,103,104,105,106] (by exact .p (by exact aA (k:=105) bx rfl)) (by exact rfl)⟩,trivial,trivial,trivial,trivial⟩,⟨by kernel_rfl,⟨⟨Pt 101 18,fun _=>rfl,fun _=>.p (by exact af bm rfl rfl)⟩,⟨.b (.agg (au x0.D)),fun _=>rfl,fun _=>.p (by exact aQ ao rfl rfl rfl rfl)⟩,⟨.b (.agg (au x_4)),fun _=>rfl,fun _=>.p (by exact aQ ao rfl rfl rfl rfl)⟩,⟨.b (.agg (au x_5)),fun _=>rfl,fun _=>.p (by exact ae (fP e8) mo rfl rfl)⟩,⟨Pt 102 18,fun _=>rfl,fun _=>.p (by exact af bm rfl rfl)⟩,⟨.b (.agg (au y0.D)),fun _=>rfl,fun _=>.p (by exact aQ ao rfl rfl rfl rfl)⟩,⟨.b (.agg (au x_4)),fun _=>rfl,fun _=>.p (by exact aQ ao rfl rfl rfl rfl)⟩,⟨.b (.agg (au x_6)),fun _=>rfl,fun _=>.p (by exact ae (fP e9) mo rfl rfl)⟩,trivial,trivial,⟨_,none,.b (.one .any),rfl,(fun e=>by simp at e),rfl,rfl,fun _=>.qP [101,102,103,104,105,106] (by exact .p (by exact ag ao rfl rfl rfl rfl (Nat.le_of_ble_eq_true rfl) rfl)) (by exact rfl)⟩,trivial,trivial⟩,⟨by kernel_rfl,⟨trivial,trivial,trivial,trivial,trivial,trivial,trivial,trivial,trivial,trivial,trivial,⟨_,none,.b (.one .any),rfl,(fun e=>by simp at e),rfl,rfl,fun _=>.qP [101,102,103,104,105,106] (by exact .p (by exact ag ao rfl rfl rfl rfl (Nat.le_of_ble_eq_true rfl) rfl)) (by exact rfl)⟩,trivial⟩,⟨by kernel_rfl,⟨trivial,trivial,trivial,trivial,trivial,trivial,trivial,trivial,trivial,trivial,trivial,trivial,trivial⟩,trivial⟩⟩⟩⟩⟩⟩) rfl rfl rfl [2,3,4,6,7] [101,102,103,105,106] (s':=⟨[(2,_),(3,_),(4,_),(6,Pt 105 0),(7,Pt 106 0)],[(101,_),(102,_),(103,_),(105,.box 25 (au x_5)),(106,.box 25 (au x_6))]⟩) rfl ?_
  refine ab.seq (ab.ah ⟨[(2,_),(3,_),(4,_),(6,_),(7,_)],[(101,_),(102,_),(103,_),(105,_),(106,_)]⟩ rfl ?_)
  obtain ⟨x_7,e10,h⟩:=aE h
  obtain ⟨x_8,e11,h⟩:=aE h
  obtain ⟨x_9,e12,h⟩:=aE h
  obtain ⟨x_10,e13,h⟩:=aE h
  obtain ⟨x_11,e14,h⟩:=aE h
  refine ab.bP mixed 14 [Pt 101 0,.b (.agg (au x0.N)),.b (.agg (au x_6)),.b (.agg (au x_7)),Pt 102 0,.b (.agg (au y0.N)),.b (.agg (au x_5)),.b (.agg (au x_8)),.b (.agg (au x_9)),.b (.agg (au x_5)),Pt 102 18,.b (.agg (au y0.D)),.b (.agg (au x_10)),.b (.agg (aI x_11))] [4] [103] (s':=⟨[(4,_)],[(103,.box 27 (aI x_11))]⟩) rfl ⟨fun _=>.p (af bF rfl rfl),fun _=>.p (lp ao),fun _=>.p (lp ao),fun _=>.p (ae (eE e10) kr rfl rfl),fun _=>.p (af bF rfl rfl),fun _=>.p (lp ao),fun _=>.p (lp ao),fun _=>.p (ae (eE e11) kr rfl rfl),fun _=>.p (ae (qD e12) yZ rfl rfl),fun _=>.p (lp ao),fun _=>.p (af bm rfl rfl),fun _=>.p (lp ao),fun _=>.p (ae (eE e13) kr rfl rfl),fun _=>.p (ae (dP e14) ku rfl rfl),trivial⟩ ⟨_,by exact .p (ag aC rfl rfl rfl rfl (Nat.le_of_ble_eq_true rfl) rfl),rfl⟩ rfl (ab.ret ?_)
  obtain rfl:=Option.some.inj h
  refine Fin.ah ⟨[(4,_)],[(103,_)]⟩ rfl (Fin.aq [.agg (aI x_11)] (.inl rfl) rfl (.cons (.agg aC rfl rfl rfl rfl) .nil) ⟨rfl,rfl⟩)
def tg (F:Nat) (x0:bN):Option bN :=
 (dE F x0).bind fun x_1=>if (!x_1) = true then ((im F).bind fun x_2=>some x_2) else ((nk F x0.N).bind fun x_3=>some (⟨x_3,x0.D⟩:bN))
theorem uy {F:Nat} {x0:bN} {r:bN} (h:tg F x0 = some r):az Tryz.prog (bj mx) 24 [] [.agg (aI x0)] (Is [] (.b (.agg (aI r)))):=by
 unfold tg at h
 refine az.intro 13 Tryz.func24 Tryz.ntmps24 rfl (by simp) fun E=>?_
 show ab _ E ⟨13,[],[]⟩ _ ⟨[(0,.b (.agg (aI x0)))],[]⟩ _
 refine ab.seq (ab.aa ?_)
 refine Oc (aS (k:=101) rfl rfl) (Oc (aA (k:=102) bO rfl) ?_)
 refine ad.aj ⟨[(1,Pt 101 0),(2,Pt 102 0)],[(101,.box 27 (aI x0)),(102,.box 27 eh)]⟩ rfl (ab.seq (ab.seq (ab.aa ?_)))
 refine Oc (lp aC) ?_
 obtain ⟨x_1,e1,h⟩:=aE h
 refine Oc (ae (dQ e1) kv rfl rfl) (Oc (bq rfl) ?_)
 refine ad.aj ⟨[(1,_),(2,_),(5,B (!x_1))],[(101,_),(102,_)]⟩ rfl (ab.ite h rfl (fun _ h=>?_) (fun _ h=>?_))
 ·refine ab.seq (ab.aa ?_)
  obtain ⟨x_2,e2,h⟩:=aE h
  refine Oc (ae (gA e2) nj rfl rfl) (Oc (ag aC rfl rfl rfl rfl (Nat.le_of_ble_eq_true rfl) rfl) ?_)
  refine ad.aj ⟨[(2,_)],[(102,.box 27 (aI x_2))]⟩ rfl (ab.ret (Fin.ar ?_))
  obtain rfl:=Option.some.inj h
  refine Fin.ah ⟨[(2,_)],[(102,_)]⟩ rfl (Fin.aq [.agg (aI x_2)] (.inl rfl) rfl (.cons (.agg aC rfl rfl rfl rfl) .nil) ⟨rfl,rfl⟩)
 ·refine ab.skip (Fin.ah ⟨[(1,_),(2,_)],[(101,_),(102,_)]⟩ rfl (Fin.then (ab.seq ?_)))
  refine ab.ah ⟨[(1,_),(2,_)],[(101,_),(102,_)]⟩ rfl ?_
  obtain ⟨x_3,e3,h⟩:=aE h
  refine ab.bP mixed 6 [Pt 101 0,.b (.agg (au x0.N)),.b (.agg (au x_3)),Pt 101 18,.b (.agg (au x0.D)),.b (.agg (au x_3 ++ (au x0.D)))] [2] [102] (s':=⟨[(2,_)],[(102,.box 27 (au x_3 ++ (au x0.D)))]⟩) rfl ⟨fun _=>.p (af bF rfl rfl),fun _=>.p (lp ao),fun _=>.p (ae (qB e3) yY rfl rfl),fun _=>.p (af bm rfl rfl),fun _=>.p (lp ao),fun _=>.p (aV fB rfl rfl),trivial⟩ ⟨_,by exact .p (ag aC rfl rfl rfl rfl (Nat.le_of_ble_eq_true rfl) rfl),rfl⟩ rfl (ab.ret ?_)
  obtain rfl:=Option.some.inj h
  refine Fin.ah ⟨[(2,_)],[(102,_)]⟩ rfl (Fin.aq [.agg (au x_3 ++ (au x0.D))] (.inl rfl) rfl (.cons (.agg aC rfl rfl rfl rfl) .nil) ⟨rfl,rfl⟩)
def wg (F:Nat) (x0:bN) (y0:bN):Option bN :=
 (tg F y0).bind fun x_1=>(qZ F x0 x_1).bind fun x_2=>some x_2
theorem zE {F:Nat} {x0:bN} {y0:bN} {r:bN} (h:wg F x0 y0 = some r):az Tryz.prog (bj mx) 94 [] [.agg (aI x0),.agg (aI y0)] (Is [] (.b (.agg (aI r)))):=by
 unfold wg at h
 refine az.intro 9 Tryz.func94 Tryz.ntmps94 rfl (by simp) fun E=>?_
 show ab _ E ⟨9,[],[]⟩ _ ⟨[(0,.b (.agg (aI x0))),(1,.b (.agg (aI y0)))],[]⟩ _
 refine ab.seq (ab.aa ?_)
 refine Oc (aS (k:=101) rfl rfl) (Oc (aS (k:=102) rfl rfl) (Oc (aA (k:=103) bO rfl) ?_))
 refine ad.aj ⟨[(2,Pt 101 0),(3,Pt 102 0),(4,Pt 103 0)],[(101,.box 27 (aI x0)),(102,.box 27 (aI y0)),(103,.box 27 eh)]⟩ rfl (ab.seq ?_)
 obtain ⟨x_1,e1,h⟩:=aE h
 obtain ⟨x_2,e2,h⟩:=aE h
 refine ab.bP mixed 4 [.b (.agg (aI x0)),.b (.agg (aI y0)),.b (.agg (aI x_1)),.b (.agg (aI x_2))] [4] [103] (s':=⟨[(4,_)],[(103,.box 27 (aI x_2))]⟩) rfl ⟨fun _=>.p (lp aC),fun _=>.p (lp aC),fun _=>.p (ae (uy e1) C2 rfl rfl),fun _=>.p (ae (qK e2) y7 rfl rfl),trivial⟩ ⟨_,by exact .p (ag aC rfl rfl rfl rfl (Nat.le_of_ble_eq_true rfl) rfl),rfl⟩ rfl (ab.ret ?_)
 obtain rfl:=Option.some.inj h
 refine Fin.ah ⟨[(4,_)],[(103,_)]⟩ rfl (Fin.aq [.agg (aI x_2)] (.inl rfl) rfl (.cons (.agg aC rfl rfl rfl rfl) .nil) ⟨rfl,rfl⟩)
def lZ (F:Nat) (x0:bN) (y0:bN):Option bN :=
 (dE F x0).bind fun x_1=>(bA (!(!x_1)) (dE F y0)).bind fun x_2=>if ((!x_1) || (!x_2)) = true then ((im F).bind fun x_3=>some x_3) else ((iS F x0.N y0.D).bind fun x_4=>(iS F y0.N x0.D).bind fun x_5=>(jt F x_4.N x_5.N).bind fun x_6=>(jt F x_4.D x_5.D).bind fun x_7=>if (x_6.Bad || x_7.Bad) = true then ((im F).bind fun x_8=>some x_8) else (some (⟨x_6,x_7⟩:bN)))
theorem nK {F:Nat} {x0:bN} {y0:bN} {r:bN} (h:lZ F x0 y0 = some r):az Tryz.prog (bj mx) 25 [] [.agg (aI x0),.agg (aI y0)] (Is [] (.b (.agg (aI r)))):=by
 unfold lZ at h
 refine az.intro 48 Tryz.func25 Tryz.ntmps25 rfl (by simp) fun E=>?_
 show ab _ E ⟨48,[],[]⟩ _ ⟨[(0,.b (.agg (aI x0))),(1,.b (.agg (aI y0)))],[]⟩ _
 refine ab.seq (ab.aa ?_)
 refine Oc (aS (k:=101) rfl rfl) (Oc (aS (k:=102) rfl rfl) (Oc (aA (k:=103) bO rfl) ?_))
 refine ad.aj ⟨[(2,Pt 101 0),(3,Pt 102 0),(4,Pt 103 0)],[(101,.box 27 (aI x0)),(102,.box 27 (aI y0)),(103,.box 27 eh)]⟩ rfl (ab.seq (ab.seq (ab.aa ?_)))
 refine Oc (lp aC) ?_
 obtain ⟨x_1,e1,h⟩:=aE h
 refine Oc (ae (dQ e1) kv rfl rfl) (Oc (bq rfl) (Oc om ?_))
 refine cN (!(!x_1)) [] (fun g2=>trivial) (fun g2=>lp aC) (ad.ah ⟨[(2,_),(3,_),(4,_),(12,B (!x_1)),(13,.dA (!(!x_1)) (.agg (aI y0)))],[(101,_),(102,_),(103,_)]⟩ rfl ?_)
 obtain ⟨x_2,e4,h⟩:=aE h
 refine cN (!(!x_1)) [13] (fun g3=>⟨g3,trivial⟩) (fun g3=>ae (dQ (gc e4 g3)) kv rfl rfl) (cN (!(!x_1)) [14] (fun g5=>⟨g5,trivial⟩) (fun g5=>bq rfl) (Oc (aU (fun e=>by rw [e]; rfl) rfl rfl rfl rfl) (ad.aj ⟨[(2,_),(3,_),(4,_),(16,B ((!x_1) || (!x_2)))],[(101,_),(102,_),(103,_)]⟩ rfl (ab.ite h rfl (fun _ h=>?_) (fun _ h=>?_)))))
 ·refine ab.seq (ab.aa ?_)
  obtain ⟨x_3,e6,h⟩:=aE h
  refine Oc (ae (gA e6) nj rfl rfl) (Oc (ag aC rfl rfl rfl rfl (Nat.le_of_ble_eq_true rfl) rfl) ?_)
  refine ad.aj ⟨[(4,_)],[(103,.box 27 (aI x_3))]⟩ rfl (ab.ret (Fin.ar ?_))
  obtain rfl:=Option.some.inj h
  refine Fin.ah ⟨[(4,_)],[(103,_)]⟩ rfl (Fin.aq [.agg (aI x_3)] (.inl rfl) rfl (.cons (.agg aC rfl rfl rfl rfl) .nil) ⟨rfl,rfl⟩)
 ·refine ab.skip (Fin.ah ⟨[(2,_),(3,_),(4,_)],[(101,_),(102,_),(103,_)]⟩ rfl (Fin.then (ab.seq ?_)))
  refine ab.ah ⟨[(2,_),(3,_),(4,_)],[(101,_),(102,_),(103,_)]⟩ rfl ?_
  obtain ⟨x_4,e7,h⟩:=aE h
  obtain ⟨x_5,e8,h⟩:=aE h
  refine ab.pz mixed [false,false,false,false,false,false,false,false,false,false,true,true,true,true] [Pt 101 0,.b (.agg (au x0.N)),Pt 102 18,.b (.agg (au y0.D)),.b (.agg (aI x_4)),Pt 102 0,.b (.agg (au y0.N)),Pt 101 18,.b (.agg (au x0.D)),.b (.agg (aI x_5)),Pt 104 0,Pt 105 0,B true,B true] [⟨[false,false,false,false,false,false,false,false,false,false,false,false,false,false],[(2,Pt 101 0),(3,Pt 102 0),(4,Pt 103 0)],[(101,.box 27 (aI x0)),(102,.box 27 (aI y0)),(103,.box 27 eh)],[true,true,true,true,true,true,true,true,true,true,true,true,true,true],[]⟩,⟨[false,false,false,false,false,false,false,false,false,false,true,false,false,false],[(2,Pt 101 0),(3,Pt 102 0),(4,Pt 103 0)],[(101,.box 27 (aI x0)),(102,.box 27 (aI y0)),(103,.box 27 eh),(104,.box 27 eh)],[true,true,true,true,true,true,true,true,true,true,true,true,true,true],[10]⟩,⟨[false,false,false,false,false,false,false,false,false,false,false,true,false,false],[(2,Pt 101 0),(3,Pt 102 0),(4,Pt 103 0)],[(101,.box 27 (aI x0)),(102,.box 27 (aI y0)),(103,.box 27 eh),(105,.box 27 eh)],[true,true,true,true,true,true,true,true,true,true,true,true,true,true],[11]⟩,⟨[false,false,false,false,false,false,false,false,false,false,true,true,false,false],[(2,Pt 101 0),(3,Pt 102 0),(4,Pt 103 0)],[(101,.box 27 (aI x0)),(102,.box 27 (aI y0)),(103,.box 27 eh),(104,.box 27 eh),(105,.box 27 eh)],[true,true,true,true,true,true,true,true,true,true,true,true,true,true],[10,11]⟩,⟨[false,false,false,false,false,false,false,false,false,false,true,true,true,false],[(2,Pt 101 0),(3,Pt 102 0),(4,Pt 103 0)],[(101,.box 27 (aI x0)),(102,.box 27 (aI y0)),(103,.box 27 eh),(104,.box 27 (aI x_4)),(105,.box 27 eh)],[true,true,true,true,true,true,true,true,true,true,true,true,true,true],[0,1,2,3,4,5,6,7,8,9,10,11,12]⟩,⟨[false,false,false,false,false,false,false,false,false,false,true,true,true,true],[(2,Pt 101 0),(3,Pt 102 0),(4,Pt 103 0)],[(101,.box 27 (aI x0)),(102,.box 27 (aI y0)),(103,.box 27 eh),(104,.box 27 (aI x_4)),(105,.box 27 (aI x_5))],[true,true,true,true,true,true,true,true,true,true,true,true,true,true],[0,1,2,3,4,5,6,7,8,9,10,11,12,13]⟩] rfl (⟨by kernel_rfl,⟨⟨Pt 101 0,fun _=>rfl,fun _=>.p (by exact af bF rfl rfl)⟩,⟨.b (.agg (au x0.N)),fun _=>rfl,fun _=>.p (by exact aQ ao rfl rfl rfl rfl)⟩,⟨Pt 102 18,fun _=>rfl,fun _=>.p (by exact af bm rfl rfl)⟩,⟨.b (.agg (au y0.D)),fun _=>rfl,fun _=>.p (by exact aQ ao rfl rfl rfl rfl)⟩,⟨.b (.agg (aI x_4)),fun _=>rfl,fun _=>.p (by exact ae (dP e7) ku rfl rfl)⟩,⟨Pt 102 0,fun _=>rfl,fun _=>.p (by exact af bF rfl rfl)⟩,⟨.b (.agg (au y0.N)),fun _=>rfl,fun _=>.p (by exact aQ ao rfl rfl rfl rfl)⟩,⟨Pt 101 18,fun _=>rfl,fun _=>.p (by exact af bm rfl rfl)⟩,⟨.b (.agg (au x0.D)),fun _=>rfl,fun _=>.p (by exact aQ ao rfl rfl rfl rfl)⟩,⟨.b (.agg (aI x_5)),fun _=>rfl,fun _=>.p (by exact ae (dP e8) ku rfl rfl)⟩,⟨_,some 104,Pt 104 0,rfl,fun _=>rfl,rfl,rfl,fun _=>.qP [101,102,103,104] (by exact .p (by exact aA (k:=104) bO rfl)) (by exact rfl)⟩,⟨_,some 105,Pt 105 0,rfl,fun _=>rfl,rfl,rfl,fun _=>.qP [101,102,103,105] (by exact .p (by exact aA (k:=105) bO rfl)) (by exact rfl)⟩,trivial,trivial,trivial⟩,⟨by kernel_rfl,⟨⟨Pt 101 0,fun _=>rfl,fun _=>.p (by exact af bF rfl rfl)⟩,⟨.b (.agg (au x0.N)),fun _=>rfl,fun _=>.p (by exact aQ ao rfl rfl rfl rfl)⟩,⟨Pt 102 18,fun _=>rfl,fun _=>.p (by exact af bm rfl rfl)⟩,⟨.b (.agg (au y0.D)),fun _=>rfl,fun _=>.p (by exact aQ ao rfl rfl rfl rfl)⟩,⟨.b (.agg (aI x_4)),fun _=>rfl,fun _=>.p (by exact ae (dP e7) ku rfl rfl)⟩,⟨Pt 102 0,fun _=>rfl,fun _=>.p (by exact af bF rfl rfl)⟩,⟨.b (.agg (au y0.N)),fun _=>rfl,fun _=>.p (by exact aQ ao rfl rfl rfl rfl)⟩,⟨Pt 101 18,fun _=>rfl,fun _=>.p (by exact af bm rfl rfl)⟩,⟨.b (.agg (au x0.D)),fun _=>rfl,fun _=>.p (by exact aQ ao rfl rfl rfl rfl)⟩,⟨.b (.agg (aI x_5)),fun _=>rfl,fun _=>.p (by exact ae (dP e8) ku rfl rfl)⟩,trivial,⟨_,some 105,Pt 105 0,rfl,fun _=>rfl,rfl,rfl,fun _=>.qP [101,102,103,104,105] (by exact .p (by exact aA (k:=105) bO rfl)) (by exact rfl)⟩,trivial,trivial,trivial⟩,⟨by kernel_rfl,⟨⟨Pt 101 0,fun _=>rfl,fun _=>.p (by exact af bF rfl rfl)⟩,⟨.b (.agg (au x0.N)),fun _=>rfl,fun _=>.p (by exact aQ ao rfl rfl rfl rfl)⟩,⟨Pt 102 18,fun _=>rfl,fun _=>.p (by exact af bm rfl rfl)⟩,⟨.b (.agg (au y0.D)),fun _=>rfl,fun _=>.p (by exact aQ ao rfl rfl rfl rfl)⟩,⟨.b (.agg (aI x_4)),fun _=>rfl,fun _=>.p (by exact ae (dP e7) ku rfl rfl)⟩,⟨Pt 102 0,fun _=>rfl,fun _=>.p (by exact af bF rfl rfl)⟩,⟨.b (.agg (au y0.N)),fun _=>rfl,fun _=>.p (by exact aQ ao rfl rfl rfl rfl)⟩,⟨Pt 101 18,fun _=>rfl,fun _=>.p (by exact af bm rfl rfl)⟩,⟨.b (.agg (au x0.D)),fun _=>rfl,fun _=>.p (by exact aQ ao rfl rfl rfl rfl)⟩,⟨.b (.agg (aI x_5)),fun _=>rfl,fun _=>.p (by exact ae (dP e8) ku rfl rfl)⟩,⟨_,some 104,Pt 104 0,rfl,fun _=>rfl,rfl,rfl,fun _=>.qP [101,102,103,104,105] (by exact .p (by exact aA (k:=104) bO rfl)) (by exact rfl)⟩,trivial,trivial,trivial,trivial⟩,⟨by kernel_rfl,⟨⟨Pt 101 0,fun _=>rfl,fun _=>.p (by exact af bF rfl rfl)⟩,⟨.b (.agg (au x0.N)),fun _=>rfl,fun _=>.p (by exact aQ ao rfl rfl rfl rfl)⟩,⟨Pt 102 18,fun _=>rfl,fun _=>.p (by exact af bm rfl rfl)⟩,⟨.b (.agg (au y0.D)),fun _=>rfl,fun _=>.p (by exact aQ ao rfl rfl rfl rfl)⟩,⟨.b (.agg (aI x_4)),fun _=>rfl,fun _=>.p (by exact ae (dP e7) ku rfl rfl)⟩,⟨Pt 102 0,fun _=>rfl,fun _=>.p (by exact af bF rfl rfl)⟩,⟨.b (.agg (au y0.N)),fun _=>rfl,fun _=>.p (by exact aQ ao rfl rfl rfl rfl)⟩,⟨Pt 101 18,fun _=>rfl,fun _=>.p (by exact af bm rfl rfl)⟩,⟨.b (.agg (au x0.D)),fun _=>rfl,fun _=>.p (by exact aQ ao rfl rfl rfl rfl)⟩,⟨.b (.agg (aI x_5)),fun _=>rfl,fun _=>.p (by exact ae (dP e8) ku rfl rfl)⟩,trivial,trivial,⟨_,none,.b (.one .any),rfl,(fun e=>by simp at e),rfl,rfl,fun _=>.qP [101,102,103,104,105] (by exact .p (by exact ag aC rfl rfl rfl rfl (Nat.le_of_ble_eq_true rfl) rfl)) (by exact rfl)⟩,trivial,trivial⟩,⟨by kernel_rfl,⟨trivial,trivial,trivial,trivial,trivial,trivial,trivial,trivial,trivial,trivial,trivial,trivial,trivial,⟨_,none,.b (.one .any),rfl,(fun e=>by simp at e),rfl,rfl,fun _=>.qP [101,102,103,104,105] (by exact .p (by exact ag aC rfl rfl rfl rfl (Nat.le_of_ble_eq_true rfl) rfl)) (by exact rfl)⟩,trivial⟩,⟨by kernel_rfl,⟨trivial,trivial,trivial,trivial,trivial,trivial,trivial,trivial,trivial,trivial,trivial,trivial,trivial,trivial,trivial⟩,trivial⟩⟩⟩⟩⟩⟩) rfl rfl rfl [4,5,6] [103,104,105] (s':=⟨[(4,_),(5,Pt 104 0),(6,Pt 105 0)],[(103,_),(104,.box 27 (aI x_4)),(105,.box 27 (aI x_5))]⟩) rfl ?_
  refine ab.seq (ab.ah ⟨[(4,_),(5,_),(6,_)],[(103,_),(104,_),(105,_)]⟩ rfl ?_)
  obtain ⟨x_6,e9,h⟩:=aE h
  obtain ⟨x_7,e10,h⟩:=aE h
  refine ab.pz mixed [false,false,false,false,false,false,false,false,false,false,true,true,true,true] [Pt 104 0,.b (.agg (au x_4.N)),Pt 105 0,.b (.agg (au x_5.N)),.b (.agg (au x_6)),Pt 104 18,.b (.agg (au x_4.D)),Pt 105 18,.b (.agg (au x_5.D)),.b (.agg (au x_7)),Pt 106 0,Pt 107 0,B true,B true] [⟨[false,false,false,false,false,false,false,false,false,false,false,false,false,false],[(4,Pt 103 0),(5,Pt 104 0),(6,Pt 105 0)],[(103,.box 27 eh),(104,.box 27 (aI x_4)),(105,.box 27 (aI x_5))],[true,true,true,true,true,true,true,true,true,true,true,true,true,true],[]⟩,⟨[false,false,false,false,false,false,false,false,false,false,true,false,false,false],[(4,Pt 103 0),(5,Pt 104 0),(6,Pt 105 0)],[(103,.box 27 eh),(104,.box 27 (aI x_4)),(105,.box 27 (aI x_5)),(106,.box 25 cO)],[true,true,true,true,true,true,true,true,true,true,true,true,true,true],[10]⟩,⟨[false,false,false,false,false,false,false,false,false,false,false,true,false,false],[(4,Pt 103 0),(5,Pt 104 0),(6,Pt 105 0)],[(103,.box 27 eh),(104,.box 27 (aI x_4)),(105,.box 27 (aI x_5)),(107,.box 25 cO)],[true,true,true,true,true,true,true,true,true,true,true,true,true,true],[11]⟩,⟨[false,false,false,false,false,false,false,false,false,false,true,true,false,false],[(4,Pt 103 0),(5,Pt 104 0),(6,Pt 105 0)],[(103,.box 27 eh),(104,.box 27 (aI x_4)),(105,.box 27 (aI x_5)),(106,.box 25 cO),(107,.box 25 cO)],[true,true,true,true,true,true,true,true,true,true,true,true,true,true],[10,11]⟩,⟨[false,false,false,false,false,false,false,false,false,false,true,true,true,false],[(4,Pt 103 0),(5,Pt 104 0),(6,Pt 105 0)],[(103,.box 27 eh),(104,.box 27 (aI x_4)),(105,.box 27 (aI x_5)),(106,.box 25 (au x_6)),(107,.box 25 cO)],[true,true,true,true,true,true,true,true,true,true,true,true,true,true],[0,1,2,3,4,5,6,7,8,9,10,11,12]⟩,⟨[false,false,false,false,false,false,false,false,false,false,true,true,true,true],[(4,Pt 103 0),(5,Pt 104 0),(6,Pt 105 0)],[(103,.box 27 eh),(104,.box 27 (aI x_4)),(105,.box 27 (aI x_5)),(106,.box 25 (au x_6)),(107,.box 25 (au x_7))],[true,true,true,true,true,true,true,true,true,true,true,true,true,true],[0,1,2,3,4,5,6,7,8,9,10,11,12,13]⟩] rfl (⟨by kernel_rfl,⟨⟨Pt 104 0,fun _=>rfl,fun _=>.p (by exact af bF rfl rfl)⟩,⟨.b (.agg (au x_4.N)),fun _=>rfl,fun _=>.p (by exact aQ ao rfl rfl rfl rfl)⟩,⟨Pt 105 0,fun _=>rfl,fun _=>.p (by exact af bF rfl rfl)⟩,⟨.b (.agg (au x_5.N)),fun _=>rfl,fun _=>.p (by exact aQ ao rfl rfl rfl rfl)⟩,⟨.b (.agg (au x_6)),fun _=>rfl,fun _=>.p (by exact ae (eE e9) kr rfl rfl)⟩,⟨Pt 104 18,fun _=>rfl,fun _=>.p (by exact af bm rfl rfl)⟩,⟨.b (.agg (au x_4.D)),fun _=>rfl,fun _=>.p (by exact aQ ao rfl rfl rfl rfl)⟩,⟨Pt 105 18,fun _=>rfl,fun _=>.p (by exact af bm rfl rfl)⟩,⟨.b (.agg (au x_5.D)),fun _=>rfl,fun _=>.p (by exact aQ ao rfl rfl rfl rfl)⟩,⟨.b (.agg (au x_7)),fun _=>rfl,fun _=>.p (by exact ae (eE e10) kr rfl rfl)⟩,⟨_,some 106,Pt 106 0,rfl,fun _=>rfl,rfl,rfl,fun _=>.qP [103,104,105,106] (by exact .p (by exact aA (k:=106) bx rfl)) (by exact rfl)⟩,⟨_,some 107,Pt 107 0,rfl,fun _=>rfl,rfl,rfl,fun _=>.qP [103,104,105,107] (by exact .p (by exact aA (k:=107) bx rfl)) (by exact rfl)⟩,trivial,trivial,trivial⟩,⟨by kernel_rfl,⟨⟨Pt 104 0,fun _=>rfl,fun _=>.p (by exact af bF rfl rfl)⟩,⟨.b (.agg (au x_4.N)),fun _=>rfl,fun _=>.p (by exact aQ ao rfl rfl rfl rfl)⟩,⟨Pt 105 0,fun _=>rfl,fun _=>.p (by exact af bF rfl rfl)⟩,⟨.b (.agg (au x_5.N)),fun _=>rfl,fun _=>.p (by exact aQ ao rfl rfl rfl rfl)⟩,⟨.b (.agg (au x_6)),fun _=>rfl,fun _=>.p (by exact ae (eE e9) kr rfl rfl)⟩,⟨Pt 104 18,fun _=>rfl,fun _=>.p (by exact af bm rfl rfl)⟩,⟨.b (.agg (au x_4.D)),fun _=>rfl,fun _=>.p (by exact aQ ao rfl rfl rfl rfl)⟩,⟨Pt 105 18,fun _=>rfl,fun _=>.p (by exact af bm rfl rfl)⟩,⟨.b (.agg (au x_5.D)),fun _=>rfl,fun _=>.p (by exact aQ ao rfl rfl rfl rfl)⟩,⟨.b (.agg (au x_7)),fun _=>rfl,fun _=>.p (by exact ae (eE e10) kr rfl rfl)⟩,trivial,⟨_,some 107,Pt 107 0,rfl,fun _=>rfl,rfl,rfl,fun _=>.qP [103,104,105,106,107] (by exact .p (by exact aA (k:=107) bx rfl)) (by exact rfl)⟩,trivial,trivial,trivial⟩,⟨by kernel_rfl,⟨⟨Pt 104 0,fun _=>rfl,fun _=>.p (by exact af bF rfl rfl)⟩,⟨.b (.agg (au x_4.N)),fun _=>rfl,fun _=>.p (by exact aQ ao rfl rfl rfl rfl)⟩,⟨Pt 105 0,fun _=>rfl,fun _=>.p (by exact af bF rfl rfl)⟩,⟨.b (.agg (au x_5.N)),fun _=>rfl,fun _=>.p (by exact aQ ao rfl rfl rfl rfl)⟩,⟨.b (.agg (au x_6)),fun _=>rfl,fun _=>.p (by exact ae (eE e9) kr rfl rfl)⟩,⟨Pt 104 18,fun _=>rfl,fun _=>.p (by exact af bm rfl rfl)⟩,⟨.b (.agg (au x_4.D)),fun _=>rfl,fun _=>.p (by exact aQ ao rfl rfl rfl rfl)⟩,⟨Pt 105 18,fun _=>rfl,fun _=>.p (by exact af bm rfl rfl)⟩,⟨.b (.agg (au x_5.D)),fun _=>rfl,fun _=>.p (by exact aQ ao rfl rfl rfl rfl)⟩,⟨.b (.agg (au x_7)),fun _=>rfl,fun _=>.p (by exact ae (eE e10) kr rfl rfl)⟩,⟨_,some 106,Pt 106 0,rfl,fun _=>rfl,rfl,rfl,fun _=>.qP [103,104,105,106,107] (by exact .p (by exact aA (k:=106) bx rfl)) (by exact rfl)⟩,trivial,trivial,trivial,trivial⟩,⟨by kernel_rfl,⟨⟨Pt 104 0,fun _=>rfl,fun _=>.p (by exact af bF rfl rfl)⟩,⟨.b (.agg (au x_4.N)),fun _=>rfl,fun _=>.p (by exact aQ ao rfl rfl rfl rfl)⟩,⟨Pt 105 0,fun _=>rfl,fun _=>.p (by exact af bF rfl rfl)⟩,⟨.b (.agg (au x_5.N)),fun _=>rfl,fun _=>.p (by exact aQ ao rfl rfl rfl rfl)⟩,⟨.b (.agg (au x_6)),fun _=>rfl,fun _=>.p (by exact ae (eE e9) kr rfl rfl)⟩,⟨Pt 104 18,fun _=>rfl,fun _=>.p (by exact af bm rfl rfl)⟩,⟨.b (.agg (au x_4.D)),fun _=>rfl,fun _=>.p (by exact aQ ao rfl rfl rfl rfl)⟩,⟨Pt 105 18,fun _=>rfl,fun _=>.p (by exact af bm rfl rfl)⟩,⟨.b (.agg (au x_5.D)),fun _=>rfl,fun _=>.p (by exact aQ ao rfl rfl rfl rfl)⟩,⟨.b (.agg (au x_7)),fun _=>rfl,fun _=>.p (by exact ae (eE e10) kr rfl rfl)⟩,trivial,trivial,⟨_,none,.b (.one .any),rfl,(fun e=>by simp at e),rfl,rfl,fun _=>.qP [103,104,105,106,107] (by exact .p (by exact ag ao rfl rfl rfl rfl (Nat.le_of_ble_eq_true rfl) rfl)) (by exact rfl)⟩,trivial,trivial⟩,⟨by kernel_rfl,⟨trivial,trivial,trivial,trivial,trivial,trivial,trivial,trivial,trivial,trivial,trivial,trivial,trivial,⟨_,none,.b (.one .any),rfl,(fun e=>by simp at e),rfl,rfl,fun _=>.qP [103,104,105,106,107] (by exact .p (by exact ag ao rfl rfl rfl rfl (Nat.le_of_ble_eq_true rfl) rfl)) (by exact rfl)⟩,trivial⟩,⟨by kernel_rfl,⟨trivial,trivial,trivial,trivial,trivial,trivial,trivial,trivial,trivial,trivial,trivial,trivial,trivial,trivial,trivial⟩,trivial⟩⟩⟩⟩⟩⟩) rfl rfl rfl [4,7,8] [103,106,107] (s':=⟨[(4,_),(7,Pt 106 0),(8,Pt 107 0)],[(103,_),(106,.box 25 (au x_6)),(107,.box 25 (au x_7))]⟩) rfl ?_
  refine ab.seq (ab.seq (ab.aa ?_))
  refine Oc (af ji rfl rfl) (Oc (ax cC rfl rfl rfl) (Oc om ?_))
  refine cN (!x_6.Bad) [] (fun g11=>trivial) (fun g11=>af ji rfl rfl) (cN (!x_6.Bad) [41] (fun g12=>⟨g12,trivial⟩) (fun g12=>ax cC rfl rfl rfl) (Oc (aU (fun e=>by rw [e]; rfl) rfl rfl rfl rfl) (ad.aj ⟨[(4,_),(7,_),(8,_),(43,B (x_6.Bad || x_7.Bad))],[(103,_),(106,_),(107,_)]⟩ rfl (ab.ite h rfl (fun _ h=>?_) (fun _ h=>?_)))))
  ·refine ab.seq (ab.aa ?_)
   obtain ⟨x_8,e13,h⟩:=aE h
   refine Oc (ae (gA e13) nj rfl rfl) (Oc (ag aC rfl rfl rfl rfl (Nat.le_of_ble_eq_true rfl) rfl) ?_)
   refine ad.aj ⟨[(4,_)],[(103,.box 27 (aI x_8))]⟩ rfl (ab.ret (Fin.ar ?_))
   obtain rfl:=Option.some.inj h
   refine Fin.ah ⟨[(4,_)],[(103,_)]⟩ rfl (Fin.aq [.agg (aI x_8)] (.inl rfl) rfl (.cons (.agg aC rfl rfl rfl rfl) .nil) ⟨rfl,rfl⟩)
  ·refine ab.skip (Fin.ah ⟨[(4,_),(7,_),(8,_)],[(103,_),(106,_),(107,_)]⟩ rfl (Fin.then (ab.seq (ab.aa ?_))))
   refine Oc (lp ao) (Oc (lp ao) (Oc (aV fB rfl rfl) (Oc (ag aC rfl rfl rfl rfl (Nat.le_of_ble_eq_true rfl) rfl) ?_)))
   refine ad.aj ⟨[(4,_)],[(103,.box 27 (au x_6 ++ (au x_7)))]⟩ rfl (ab.ret ?_)
   obtain rfl:=Option.some.inj h
   refine Fin.ah ⟨[(4,_)],[(103,_)]⟩ rfl (Fin.aq [.agg (au x_6 ++ (au x_7))] (.inl rfl) rfl (.cons (.agg aC rfl rfl rfl rfl) .nil) ⟨rfl,rfl⟩)
def nq (F:Nat) (x0:bN) (y0:bN):Option bN :=
 (dE F y0).bind fun x_1=>if (!x_1) = true then ((im F).bind fun x_2=>some x_2) else ((iS F y0.D y0.N).bind fun x_3=>(lZ F x0 x_3).bind fun x_4=>some x_4)
theorem qJ {F:Nat} {x0:bN} {y0:bN} {r:bN} (h:nq F x0 y0 = some r):az Tryz.prog (bj mx) 21 [] [.agg (aI x0),.agg (aI y0)] (Is [] (.b (.agg (aI r)))):=by
 unfold nq at h
 refine az.intro 16 Tryz.func21 Tryz.ntmps21 rfl (by simp) fun E=>?_
 show ab _ E ⟨16,[],[]⟩ _ ⟨[(0,.b (.agg (aI x0))),(1,.b (.agg (aI y0)))],[]⟩ _
 refine ab.seq (ab.aa ?_)
 refine Oc (aS (k:=101) rfl rfl) (Oc (aS (k:=102) rfl rfl) (Oc (aA (k:=103) bO rfl) ?_))
 refine ad.aj ⟨[(2,Pt 101 0),(3,Pt 102 0),(4,Pt 103 0)],[(101,.box 27 (aI x0)),(102,.box 27 (aI y0)),(103,.box 27 eh)]⟩ rfl (ab.seq (ab.seq (ab.aa ?_)))
 refine Oc (lp aC) ?_
 obtain ⟨x_1,e1,h⟩:=aE h
 refine Oc (ae (dQ e1) kv rfl rfl) (Oc (bq rfl) ?_)
 refine ad.aj ⟨[(2,_),(3,_),(4,_),(7,B (!x_1))],[(101,_),(102,_),(103,_)]⟩ rfl (ab.ite h rfl (fun _ h=>?_) (fun _ h=>?_))
 ·refine ab.seq (ab.aa ?_)
  obtain ⟨x_2,e2,h⟩:=aE h
  refine Oc (ae (gA e2) nj rfl rfl) (Oc (ag aC rfl rfl rfl rfl (Nat.le_of_ble_eq_true rfl) rfl) ?_)
  refine ad.aj ⟨[(4,_)],[(103,.box 27 (aI x_2))]⟩ rfl (ab.ret (Fin.ar ?_))
  obtain rfl:=Option.some.inj h
  refine Fin.ah ⟨[(4,_)],[(103,_)]⟩ rfl (Fin.aq [.agg (aI x_2)] (.inl rfl) rfl (.cons (.agg aC rfl rfl rfl rfl) .nil) ⟨rfl,rfl⟩)
 ·refine ab.skip (Fin.ah ⟨[(2,_),(3,_),(4,_)],[(101,_),(102,_),(103,_)]⟩ rfl (Fin.then (ab.seq ?_)))
  refine ab.ah ⟨[(2,_),(3,_),(4,_)],[(101,_),(102,_),(103,_)]⟩ rfl ?_
  obtain ⟨x_3,e3,h⟩:=aE h
  obtain ⟨x_4,e4,h⟩:=aE h
  refine ab.bP mixed 7 [.b (.agg (aI x0)),Pt 102 18,.b (.agg (au y0.D)),Pt 102 0,.b (.agg (au y0.N)),.b (.agg (aI x_3)),.b (.agg (aI x_4))] [4] [103] (s':=⟨[(4,_)],[(103,.box 27 (aI x_4))]⟩) rfl ⟨fun _=>.p (lp aC),fun _=>.p (af bm rfl rfl),fun _=>.p (lp ao),fun _=>.p (af bF rfl rfl),fun _=>.p (lp ao),fun _=>.p (ae (dP e3) ku rfl rfl),fun _=>.p (ae (nK e4) vO rfl rfl),trivial⟩ ⟨_,by exact .p (ag aC rfl rfl rfl rfl (Nat.le_of_ble_eq_true rfl) rfl),rfl⟩ rfl (ab.ret ?_)
  obtain rfl:=Option.some.inj h
  refine Fin.ah ⟨[(4,_)],[(103,_)]⟩ rfl (Fin.aq [.agg (aI x_4)] (.inl rfl) rfl (.cons (.agg aC rfl rfl rfl rfl) .nil) ⟨rfl,rfl⟩)
end Go.Proofs.YtcbbilehdaaffaaGreatDoor

