/- printed walks -/
import Derived.Test.YtcbbilehdaaffaaGreatDoorT1
namespace Go.Proofs.YtcbbilehdaaffaaGreatDoor
open Go.Sk
set_option maxHeartbeats 1000000
set_option maxRecDepth 4000
set_option linter.unusedSimpArgs false
set_option linter.unusedVariables false
variable {mx : Int}
/-- the named units -/
def iu:List xe:=[⟨[109,109],1,1000,⟨1,0,0⟩⟩,⟨[99,109],1,100,⟨1,0,0⟩⟩,⟨[109],1,1,⟨1,0,0⟩⟩,⟨[107,109],1000,1,⟨1,0,0⟩⟩,⟨[103],1,1000,⟨0,1,0⟩⟩,⟨[107,103],1,1,⟨0,1,0⟩⟩,⟨[116],1000,1,⟨0,1,0⟩⟩,⟨[109,115],1,1000,⟨0,0,1⟩⟩,⟨[115],1,1,⟨0,0,1⟩⟩,⟨[109,105,110],60,1,⟨0,0,1⟩⟩,⟨[104],3600,1,⟨0,0,1⟩⟩,⟨[78],1,1,⟨1,1,(-2)⟩⟩,⟨[107,78],1000,1,⟨1,1,(-2)⟩⟩,⟨[77,78],1000000,1,⟨1,1,(-2)⟩⟩,⟨[80,97],1,1,⟨(-1),1,(-2)⟩⟩,⟨[107,80,97],1000,1,⟨(-1),1,(-2)⟩⟩,⟨[77,80,97],1000000,1,⟨(-1),1,(-2)⟩⟩,⟨[74],1,1,⟨2,1,(-2)⟩⟩,⟨[107,74],1000,1,⟨2,1,(-2)⟩⟩,⟨[87],1,1,⟨2,1,(-3)⟩⟩,⟨[107,87],1000,1,⟨2,1,(-3)⟩⟩,⟨[49],1,1,⟨0,0,0⟩⟩,⟨[37],1,100,⟨0,0,0⟩⟩]
/-- the cells of a named unit -/
def r6 (x:xe):List Value:=[.string ⟨⟨x.name⟩⟩,.int .i64 x.n,.int .i64 x.d,.int .i64 x.unit.M,.int .i64 x.unit.Kg,.int .i64 x.unit.S]
/-- the tables (mx: what internal/bytealg.MaxLen holds,whatever it is) -/
def bd (mx:Int):cT:=[(3,Lib.deBruijn32tab.map fun z:Nat=>Value.int .u8 (z:Int)),(2,Lib.pow10Tab.map fun z:Int=>Value.int .u64 z),(0,(iu.map r6).flatten),(1,[Value.int .i64 mx])]
theorem CF:(0,(iu.map r6).flatten) ∈ bd mx:=by simp [bd]
def w6 (z:Int):Bool:=decide (IntKind.min .i64 ≤ z ∧ z ≤ IntKind.max .i64)
def okNm (x:xe):Bool:=decide (x.name.length ≤ maxLen) && w6 x.n && w6 x.d && w6 x.unit.M && w6 x.unit.Kg && w6 x.unit.S
theorem nm_rel (h:PH) {x:xe} (ok:okNm x = true):bp h (lG x) (r6 x):=by
 simp only [okNm,w6,Bool.and_eq_true,decide_eq_true_eq] at ok
 exact .cons ⟨rfl,ok.1.1.1.1.1⟩ (.cons ⟨rfl,ok.1.1.1.1.2⟩ (.cons ⟨rfl,ok.1.1.1.2⟩ (.cons ⟨rfl,ok.1.1.2⟩ (.cons ⟨rfl,ok.1.2⟩ (.cons ⟨rfl,ok.2⟩ .nil)))))
theorem BL (h:PH):∀ {l:List xe},l.all okNm = true → bp h (l.map lG).flatten (l.map r6).flatten
 | [],_=>.nil
 | x :: l,ok=>by
  simp only [List.all_cons,Bool.and_eq_true] at ok
  exact cm.append (nm_rel h ok.1) (BL h ok.2)
theorem CE (h:PH):bp h (iu.map lG).flatten (iu.map r6).flatten:=BL h (by decide)
theorem aZ:dB Tryz.prog 25 2 2 23:=⟨⟨_,_,Tryz.t23,Tryz.underlying25,rfl,rfl,rfl,by kernel_rfl,by decide⟩⟩
theorem aN:hN Tryz.prog 23 16:=⟨⟨_,Tryz.underlying23,rfl⟩,⟨Tryz.t23,by kernel_rfl,by kernel_rfl⟩⟩
theorem gG:qA Tryz.prog 23 1 (eW aU.zero):=⟨⟨Tryz.t23,_,_,_,Tryz.t22,by kernel_rfl,rfl,rfl,Tryz.underlying23,by kernel_rfl,by kernel_rfl⟩⟩
theorem bt:fX Tryz.prog 22:=⟨⟨_,Tryz.underlying22,rfl⟩,⟨Tryz.t22,by kernel_rfl,by kernel_rfl⟩⟩
theorem zl (x y:aU) {d:Nat}:dN Tryz.prog (d + 2) 23 16 (eW x) (eW y) (decide (x = y)) :=
 (dN.arr (l:=x.l) (l':=y.l) aN Tryz.underlying23 bt Tryz.underlying22).cast (by rw [Bool.eq_iff_iff]; simp [aU.w7])
theorem oN (x y:aU):lJ Tryz.prog 23 (eW x) (eW y) (decide (x = y)):=lJ.vD (by kernel_rfl) aN (zl x y (d:=9998)) rfl rfl
theorem jM:dB Tryz.prog 25 0 0 4:=⟨⟨_,_,Tryz.t4,Tryz.underlying25,rfl,rfl,rfl,by kernel_rfl,by decide⟩⟩
theorem bS:fX Tryz.prog 4:=⟨⟨_,Tryz.underlying4,rfl⟩,⟨Tryz.t4,by kernel_rfl,by kernel_rfl⟩⟩
theorem bj:dB Tryz.prog 25 1 1 4:=⟨⟨_,_,Tryz.t4,Tryz.underlying25,rfl,rfl,rfl,by kernel_rfl,by decide⟩⟩
theorem aj:hN Tryz.prog 25 18:=⟨⟨_,Tryz.underlying25,rfl⟩,⟨Tryz.t25,by kernel_rfl,by kernel_rfl⟩⟩
theorem B4:bh Tryz.prog 166:=⟨Tryz.call166⟩
theorem und170:Tryz.prog.underlying 170 = some (.slice 25):=Tryz.underlying170
theorem iR:pR Tryz.prog 170 25 18 68 cU:=⟨Tryz.underlying170,⟨Tryz.t25,_,by kernel_rfl,rfl,rfl,rfl,rfl,by decide,rfl⟩⟩
theorem bn:kD Tryz.prog 25 cU:=⟨⟨Tryz.t25,_,by kernel_rfl,rfl,rfl⟩⟩
theorem jv:bh Tryz.prog 124:=⟨Tryz.call124⟩
theorem rr:lQ Tryz.prog 25 [(0,1),(1,1),(2,16)] cU:=⟨⟨Tryz.t25,_,_,by kernel_rfl,rfl,rfl,Tryz.underlying25,by kernel_rfl⟩⟩
theorem bF:mY Tryz.prog 23 22 16 1:=⟨Tryz.underlying23,⟨Tryz.t22,by kernel_rfl,by kernel_rfl⟩⟩
theorem mixed:Tryz.prog.follows .mixedOrders = true:=by kernel_rfl
theorem BW:bh Tryz.prog 203:=⟨Tryz.call203⟩
theorem goes183:bh Tryz.prog 183:=⟨Tryz.call183⟩
theorem cS:kD Tryz.prog 23 (eW aU.zero):=⟨⟨Tryz.t23,_,by kernel_rfl,rfl,rfl⟩⟩
theorem bR:Tryz.prog.underlying 22 = some (.int .u32):=Tryz.underlying22
theorem bB:Tryz.prog.underlying 145 = some (.int .u64):=Tryz.underlying145
theorem pE:Tryz.prog.underlying 5 = some (.int .u8):=Tryz.underlying5
theorem iF:Tryz.prog.underlying 9 = some .string:=Tryz.underlying9
theorem kz:Tryz.prog.underlying 3 = some (.int .i64):=Tryz.underlying3
theorem BX:bh Tryz.prog 201:=⟨Tryz.call201⟩
theorem fZ:mY Tryz.prog 186 22 17 1:=⟨Tryz.underlying186,⟨Tryz.t22,by kernel_rfl,by kernel_rfl⟩⟩
theorem oK:bh Tryz.prog 137:=⟨Tryz.call137⟩
theorem vc:bh Tryz.prog 142:=⟨Tryz.call142⟩
theorem B':bh Tryz.prog 125:=⟨Tryz.call125⟩
theorem goes175:bh Tryz.prog 175:=⟨Tryz.call175⟩
theorem B2:bh Tryz.prog 176:=⟨Tryz.call176⟩
theorem Cw:kD Tryz.prog 186 ((jW .u32) cQ.zero):=⟨⟨Tryz.t186,_,by kernel_rfl,rfl,rfl⟩⟩
theorem tySl158:pR Tryz.prog 158 22 1 4 [.int .u32 0]:=⟨Tryz.underlying158,⟨Tryz.t22,_,by kernel_rfl,rfl,rfl,rfl,rfl,by decide,rfl⟩⟩
theorem goes177:bh Tryz.prog 177:=⟨Tryz.call177⟩
theorem goes178:bh Tryz.prog 178:=⟨Tryz.call178⟩
theorem goes179:bh Tryz.prog 179:=⟨Tryz.call179⟩
theorem goes180:bh Tryz.prog 180:=⟨Tryz.call180⟩
theorem iU:bh Tryz.prog 136:=⟨Tryz.call136⟩
theorem iV:bh Tryz.prog 135:=⟨Tryz.call135⟩
theorem B9:bh Tryz.prog 138:=⟨Tryz.call138⟩
theorem xW:bh Tryz.prog 77:=⟨Tryz.call77⟩
theorem goes139:bh Tryz.prog 139:=⟨Tryz.call139⟩
theorem nJ:bh Tryz.prog 74:=⟨Tryz.call74⟩
theorem bq:dB Tryz.prog 27 0 0 25:=⟨⟨_,_,Tryz.t25,Tryz.underlying27,rfl,rfl,rfl,by kernel_rfl,by decide⟩⟩
theorem vd:bh Tryz.prog 123:=⟨Tryz.call123⟩
theorem aV:dB Tryz.prog 27 1 18 25:=⟨⟨_,_,Tryz.t25,Tryz.underlying27,rfl,rfl,rfl,by kernel_rfl,by decide⟩⟩
theorem sd:bh Tryz.prog 90:=⟨Tryz.call90⟩
theorem vH:bh Tryz.prog 63:=⟨Tryz.call63⟩
theorem wh (x y:br) {d:Nat}:dN Tryz.prog (d + 3) 25 18 (ar x) (ar y) (decide (x = y)) :=
 (dN.struct (d:=d + 2) (rs:=[x.Bad == y.Bad,x.Neg == y.Neg,decide (x.W = y.W)]) aj Tryz.stoodInHeld25 Tryz.underlying25 (⟨by decide,⟨_,[.bool x.Bad],[.bool y.Bad],rfl,rfl,rfl,rfl,(.bool bS Tryz.underlying4)⟩,⟨by decide,⟨_,[.bool x.Neg],[.bool y.Neg],rfl,rfl,rfl,rfl,(.bool bS Tryz.underlying4)⟩,⟨by decide,⟨_,(eW x.W),(eW y.W),rfl,rfl,rfl,rfl,zl _ _⟩,trivial⟩⟩⟩) rfl).cast
  (by cases x; cases y; rw [Bool.eq_iff_iff]; simp [br.mk.injEq])
theorem vf (x y:br):lJ Tryz.prog 25 (ar x) (ar y) (decide (x = y)):=lJ.vD (by kernel_rfl) aj (wh x y (d:=9997)) rfl rfl
theorem bQ:kD Tryz.prog 27 dM:=⟨⟨Tryz.t27,_,by kernel_rfl,rfl,rfl⟩⟩
theorem dW:lQ Tryz.prog 27 [(0,18),(18,18)] dM:=⟨⟨Tryz.t27,_,_,by kernel_rfl,rfl,rfl,Tryz.underlying27,by kernel_rfl⟩⟩
theorem aC:hN Tryz.prog 27 36:=⟨⟨_,Tryz.underlying27,rfl⟩,⟨Tryz.t27,by kernel_rfl,by kernel_rfl⟩⟩
theorem goes202:bh Tryz.prog 202:=⟨Tryz.call202⟩
theorem sC:Tryz.prog.underlying 4 = some .bool:=Tryz.underlying4
theorem goes141:bh Tryz.prog 141:=⟨Tryz.call141⟩
theorem yq:bh Tryz.prog 143:=⟨Tryz.call143⟩
theorem At:bh Tryz.prog 81:=⟨Tryz.call81⟩
theorem Au:bh Tryz.prog 79:=⟨Tryz.call79⟩
theorem B1:bh Tryz.prog 181:=⟨Tryz.call181⟩
theorem goes182:bh Tryz.prog 182:=⟨Tryz.call182⟩
theorem B8:bh Tryz.prog 140:=⟨Tryz.call140⟩
theorem Cx:kD Tryz.prog 157 ((yP .u32) iG.zero):=⟨⟨Tryz.t157,_,by kernel_rfl,rfl,rfl⟩⟩
theorem qc:mY Tryz.prog 157 22 32 1:=⟨Tryz.underlying157,⟨Tryz.t22,by kernel_rfl,by kernel_rfl⟩⟩
theorem ow:bh Tryz.prog 75:=⟨Tryz.call75⟩
theorem lD:bh Tryz.prog 78:=⟨Tryz.call78⟩
theorem j3:bh Tryz.prog 62:=⟨Tryz.call62⟩
theorem lC:bh Tryz.prog 80:=⟨Tryz.call80⟩
theorem lE:bh Tryz.prog 76:=⟨Tryz.call76⟩
theorem D8:bh Tryz.prog 24:=⟨Tryz.call24⟩
theorem AA:bh Tryz.prog 22:=⟨Tryz.call22⟩
theorem vK:bh Tryz.prog 25:=⟨Tryz.call25⟩
theorem goes94:bh Tryz.prog 94:=⟨Tryz.call94⟩
theorem xX:bh Tryz.prog 21:=⟨Tryz.call21⟩
theorem k7:kD Tryz.prog 29 [.i 0,.i 0,.i 0]:=⟨⟨Tryz.t29,_,by kernel_rfl,rfl,rfl⟩⟩
theorem aY:hN Tryz.prog 29 3:=⟨⟨_,Tryz.underlying29,rfl⟩,⟨Tryz.t29,by kernel_rfl,by kernel_rfl⟩⟩
theorem bG:fX Tryz.prog 3:=⟨⟨_,Tryz.underlying3,rfl⟩,⟨Tryz.t3,by kernel_rfl,by kernel_rfl⟩⟩
theorem zj (x y:aO) {d:Nat}:dN Tryz.prog (d + 2) 29 3 (aP x) (aP y) (decide (x = y)) :=
 (dN.struct (d:=d + 1) (rs:=[decide (x.M = y.M),decide (x.Kg = y.Kg),decide (x.S = y.S)]) aY Tryz.stoodInHeld29 Tryz.underlying29 (⟨by decide,⟨_,[.i x.M],[.i y.M],rfl,rfl,rfl,rfl,dN.int bG Tryz.underlying3⟩,⟨by decide,⟨_,[.i x.Kg],[.i y.Kg],rfl,rfl,rfl,rfl,dN.int bG Tryz.underlying3⟩,⟨by decide,⟨_,[.i x.S],[.i y.S],rfl,rfl,rfl,rfl,dN.int bG Tryz.underlying3⟩,trivial⟩⟩⟩) rfl).cast
  (by cases x; cases y; rw [Bool.eq_iff_iff]; simp [aO.mk.injEq])
theorem oM (x y:aO):lJ Tryz.prog 29 (aP x) (aP y) (decide (x = y)):=lJ.vD (by kernel_rfl) aY (zj x y (d:=9998)) rfl rfl
theorem dV:lQ Tryz.prog 29 [(0,1),(1,1),(2,1)] [.i 0,.i 0,.i 0]:=⟨⟨Tryz.t29,_,_,by kernel_rfl,rfl,rfl,Tryz.underlying29,by kernel_rfl⟩⟩
theorem Er:kD Tryz.prog 97 ((eA3 .i64) A3.zero):=⟨⟨Tryz.t97,_,by kernel_rfl,rfl,rfl⟩⟩
theorem iz:dB Tryz.prog 29 0 0 3:=⟨⟨_,_,Tryz.t3,Tryz.underlying29,rfl,rfl,rfl,by kernel_rfl,by decide⟩⟩
theorem iy:dB Tryz.prog 29 1 1 3:=⟨⟨_,_,Tryz.t3,Tryz.underlying29,rfl,rfl,rfl,by kernel_rfl,by decide⟩⟩
theorem iw:dB Tryz.prog 29 2 2 3:=⟨⟨_,_,Tryz.t3,Tryz.underlying29,rfl,rfl,rfl,by kernel_rfl,by decide⟩⟩
theorem CA:qA Tryz.prog 97 1 ((eA3 .i64) A3.zero):=⟨⟨Tryz.t97,_,_,_,Tryz.t3,by kernel_rfl,rfl,rfl,Tryz.underlying97,by kernel_rfl,by kernel_rfl⟩⟩
theorem Bu:hN Tryz.prog 97 3:=⟨⟨_,Tryz.underlying97,rfl⟩,⟨Tryz.t97,by kernel_rfl,by kernel_rfl⟩⟩
theorem D0:bh Tryz.prog 71:=⟨Tryz.call71⟩
theorem Bt:mY Tryz.prog 97 3 3 1:=⟨Tryz.underlying97,⟨Tryz.t3,by kernel_rfl,by kernel_rfl⟩⟩
theorem DY:bh Tryz.prog 85:=⟨Tryz.call85⟩
theorem vJ:bh Tryz.prog 32:=⟨Tryz.call32⟩
theorem xV:bh Tryz.prog 82:=⟨Tryz.call82⟩
theorem goes87:bh Tryz.prog 87:=⟨Tryz.call87⟩
theorem goes26:bh Tryz.prog 26:=⟨Tryz.call26⟩
theorem goes27:bh Tryz.prog 27:=⟨Tryz.call27⟩
theorem Cb:bh Tryz.prog 120:=⟨Tryz.call120⟩
theorem goes173:bh Tryz.prog 173:=⟨Tryz.call173⟩
theorem goes119:bh Tryz.prog 119:=⟨Tryz.call119⟩
theorem und120:Tryz.prog.underlying 120 = some (.slice 31):=Tryz.underlying120
theorem oC:pR Tryz.prog 120 31 39 160 (.bool false :: .bool false :: (eW aU.zero ++ (.bool false :: .bool false :: (eW aU.zero ++ ([.i 0,.i 0,.i 0]))))):=⟨Tryz.underlying120,⟨Tryz.t31,_,by kernel_rfl,rfl,rfl,rfl,rfl,by decide,rfl⟩⟩
theorem aJ:hN Tryz.prog 31 39:=⟨⟨_,Tryz.underlying31,rfl⟩,⟨Tryz.t31,by kernel_rfl,by kernel_rfl⟩⟩
theorem dw:kD Tryz.prog 31 (.bool false :: .bool false :: (eW aU.zero ++ (.bool false :: .bool false :: (eW aU.zero ++ ([.i 0,.i 0,.i 0]))))):=⟨⟨Tryz.t31,_,by kernel_rfl,rfl,rfl⟩⟩
theorem bU:dB Tryz.prog 31 0 0 27:=⟨⟨_,_,Tryz.t27,Tryz.underlying31,rfl,rfl,rfl,by kernel_rfl,by decide⟩⟩
theorem cy:dB Tryz.prog 31 1 36 29:=⟨⟨_,_,Tryz.t29,Tryz.underlying31,rfl,rfl,rfl,by kernel_rfl,by decide⟩⟩
theorem dr:lQ Tryz.prog 31 [(0,36),(36,3)] (.bool false :: .bool false :: (eW aU.zero ++ (.bool false :: .bool false :: (eW aU.zero ++ ([.i 0,.i 0,.i 0]))))):=⟨⟨Tryz.t31,_,_,by kernel_rfl,rfl,rfl,Tryz.underlying31,by kernel_rfl⟩⟩
theorem tL:bh Tryz.prog 54:=⟨Tryz.call54⟩
theorem AS:dB Tryz.prog 113 1 1 54:=⟨⟨_,_,Tryz.t54,Tryz.underlying113,rfl,rfl,rfl,by kernel_rfl,by decide⟩⟩
theorem tyOne54:fX Tryz.prog 54:=⟨⟨_,Tryz.underlying54,rfl⟩,⟨Tryz.t54,by kernel_rfl,by kernel_rfl⟩⟩
theorem AT:dB Tryz.prog 113 0 0 49:=⟨⟨_,_,Tryz.t49,Tryz.underlying113,rfl,rfl,rfl,by kernel_rfl,by decide⟩⟩
theorem tyOne49:fX Tryz.prog 49:=⟨⟨_,Tryz.underlying49,rfl⟩,⟨Tryz.t49,by kernel_rfl,by kernel_rfl⟩⟩
theorem Ax:bh Tryz.prog 55:=⟨Tryz.call55⟩
theorem oX:lQ Tryz.prog 113 [(0,1),(1,1)] [.raw .nilFunc,.raw .nilFunc]:=⟨⟨Tryz.t113,_,_,by kernel_rfl,rfl,rfl,Tryz.underlying113,by kernel_rfl⟩⟩
theorem xT:bh Tryz.prog 88:=⟨Tryz.call88⟩
theorem goes129:bh Tryz.prog 129:=⟨Tryz.call129⟩
theorem gw:Tryz.prog.underlying 89 = some (.slice 3):=Tryz.underlying89
theorem cX:pR Tryz.prog 89 3 1 8 [.i 0]:=⟨Tryz.underlying89,⟨Tryz.t3,_,by kernel_rfl,rfl,rfl,rfl,rfl,by decide,rfl⟩⟩
theorem ni:bh Tryz.prog 130:=⟨Tryz.call130⟩
theorem fR:bh Tryz.prog 65:=⟨Tryz.call65⟩
theorem gl:bh Tryz.prog 66:=⟨Tryz.call66⟩
theorem kW:bh Tryz.prog 151:=⟨Tryz.call151⟩
theorem nh:bh Tryz.prog 131:=⟨Tryz.call131⟩
theorem ka:bh Tryz.prog 156:=⟨Tryz.call156⟩
theorem yn:bh Tryz.prog 155:=⟨Tryz.call155⟩
theorem u7:bh Tryz.prog 186:=⟨Tryz.call186⟩
theorem BZ:bh Tryz.prog 185:=⟨Tryz.call185⟩
theorem u9:bh Tryz.prog 150:=⟨Tryz.call150⟩
theorem sS:bh Tryz.prog 157:=⟨Tryz.call157⟩
theorem kV:bh Tryz.prog 152:=⟨Tryz.call152⟩
theorem kX:bh Tryz.prog 107:=⟨Tryz.call107⟩
theorem goes161:bh Tryz.prog 161:=⟨Tryz.call161⟩
theorem yp:bh Tryz.prog 154:=⟨Tryz.call154⟩
theorem nj:bh Tryz.prog 103:=⟨Tryz.call103⟩
theorem yv:bh Tryz.prog 115:=⟨Tryz.call115⟩
theorem ve:bh Tryz.prog 108:=⟨Tryz.call108⟩
theorem xU:bh Tryz.prog 84:=⟨Tryz.call84⟩
theorem lF:bh Tryz.prog 58:=⟨Tryz.call58⟩
theorem p6:bh Tryz.prog 33:=⟨Tryz.call33⟩
theorem nK:bh Tryz.prog 15:=⟨Tryz.call15⟩
theorem B6:bh Tryz.prog 153:=⟨Tryz.call153⟩
theorem B0:bh Tryz.prog 184:=⟨Tryz.call184⟩
theorem sU:bh Tryz.prog 114:=⟨Tryz.call114⟩
theorem B5:bh Tryz.prog 159:=⟨Tryz.call159⟩
theorem re:bh Tryz.prog 101:=⟨Tryz.call101⟩
theorem sT:bh Tryz.prog 148:=⟨Tryz.call148⟩
theorem goes147:bh Tryz.prog 147:=⟨Tryz.call147⟩
theorem oL:bh Tryz.prog 106:=⟨Tryz.call106⟩
theorem mj:kD Tryz.prog 69 (.bool false :: .bool false :: (eW aU.zero ++ (.bool false :: .bool false :: (eW aU.zero ++ ([.i 0,.i 0,.i 0,.i 0]))))):=⟨⟨Tryz.t69,_,by kernel_rfl,rfl,rfl⟩⟩
theorem fV:lQ Tryz.prog 69 [(0,39),(39,1)] (.bool false :: .bool false :: (eW aU.zero ++ (.bool false :: .bool false :: (eW aU.zero ++ ([.i 0,.i 0,.i 0,.i 0]))))):=⟨⟨Tryz.t69,_,_,by kernel_rfl,rfl,rfl,Tryz.underlying69,by kernel_rfl⟩⟩
theorem cf:hN Tryz.prog 69 40:=⟨⟨_,Tryz.underlying69,rfl⟩,⟨Tryz.t69,by kernel_rfl,by kernel_rfl⟩⟩
theorem DW:bh Tryz.prog 91:=⟨Tryz.call91⟩
theorem DV:bh Tryz.prog 93:=⟨Tryz.call93⟩
theorem vG:bh Tryz.prog 92:=⟨Tryz.call92⟩
theorem goes149:bh Tryz.prog 149:=⟨Tryz.call149⟩
theorem goes95:bh Tryz.prog 95:=⟨Tryz.call95⟩
theorem ml:kD Tryz.prog 57 [.i 0,.i 0,.i 0,.i 0]:=⟨⟨Tryz.t57,_,by kernel_rfl,rfl,rfl⟩⟩
theorem n7:lQ Tryz.prog 57 [(0,3),(3,1)] [.i 0,.i 0,.i 0,.i 0]:=⟨⟨Tryz.t57,_,_,by kernel_rfl,rfl,rfl,Tryz.underlying57,by kernel_rfl⟩⟩
theorem fJ:hN Tryz.prog 57 4:=⟨⟨_,Tryz.underlying57,rfl⟩,⟨Tryz.t57,by kernel_rfl,by kernel_rfl⟩⟩
theorem As:bh Tryz.prog 83:=⟨Tryz.call83⟩
theorem goes29:bh Tryz.prog 29:=⟨Tryz.call29⟩
theorem l4:dB Tryz.prog 57 1 3 33:=⟨⟨_,_,Tryz.t33,Tryz.underlying57,rfl,rfl,rfl,by kernel_rfl,by decide⟩⟩
theorem j9:fX Tryz.prog 33:=⟨⟨_,Tryz.underlying33,rfl⟩,⟨Tryz.t33,by kernel_rfl,by kernel_rfl⟩⟩
theorem Ar:bh Tryz.prog 96:=⟨Tryz.call96⟩
theorem tQ:dB Tryz.prog 57 0 0 29:=⟨⟨_,_,Tryz.t29,Tryz.underlying57,rfl,rfl,rfl,by kernel_rfl,by decide⟩⟩
theorem D5:bh Tryz.prog 39:=⟨Tryz.call39⟩
theorem DU:bh Tryz.prog 97:=⟨Tryz.call97⟩
theorem goes30:bh Tryz.prog 30:=⟨Tryz.call30⟩
theorem D3:bh Tryz.prog 57:=⟨Tryz.call57⟩
theorem goes73:bh Tryz.prog 73:=⟨Tryz.call73⟩
theorem se:bh Tryz.prog 20:=⟨Tryz.call20⟩
theorem goes28:bh Tryz.prog 28:=⟨Tryz.call28⟩
theorem goes98:bh Tryz.prog 98:=⟨Tryz.call98⟩
theorem goes31:bh Tryz.prog 31:=⟨Tryz.call31⟩
theorem Ay:bh Tryz.prog 52:=⟨Tryz.call52⟩
theorem goes145:bh Tryz.prog 145:=⟨Tryz.call145⟩
theorem B7:bh Tryz.prog 146:=⟨Tryz.call146⟩
theorem goes89:bh Tryz.prog 89:=⟨Tryz.call89⟩
theorem Cd:bh Tryz.prog 100:=⟨Tryz.call100⟩
theorem DT:bh Tryz.prog 99:=⟨Tryz.call99⟩
theorem oW:qA Tryz.prog 119 18 dM:=⟨⟨Tryz.t119,_,_,_,Tryz.t25,by kernel_rfl,rfl,rfl,Tryz.underlying119,by kernel_rfl,by kernel_rfl⟩⟩
theorem xi:kD Tryz.prog 119 dM:=⟨⟨Tryz.t119,_,by kernel_rfl,rfl,rfl⟩⟩
theorem s3:hN Tryz.prog 119 36:=⟨⟨_,Tryz.underlying119,rfl⟩,⟨Tryz.t119,by kernel_rfl,by kernel_rfl⟩⟩
theorem gf:mY Tryz.prog 119 25 2 18:=⟨Tryz.underlying119,⟨Tryz.t25,by kernel_rfl,by kernel_rfl⟩⟩
theorem Cc:bh Tryz.prog 102:=⟨Tryz.call102⟩
theorem rq:dB Tryz.prog 94 2 40 3:=⟨⟨_,_,Tryz.t3,Tryz.underlying94,rfl,rfl,rfl,by kernel_rfl,by decide⟩⟩
theorem BY:bh Tryz.prog 191:=⟨Tryz.call191⟩
theorem dH:dB Tryz.prog 94 0 0 9:=⟨⟨_,_,Tryz.t9,Tryz.underlying94,rfl,rfl,rfl,by kernel_rfl,by decide⟩⟩
theorem fi:fX Tryz.prog 9:=⟨⟨_,Tryz.underlying9,rfl⟩,⟨Tryz.t9,by kernel_rfl,by kernel_rfl⟩⟩
theorem goes196:bh Tryz.prog 196:=⟨Tryz.call196⟩
theorem yr:bh Tryz.prog 122:=⟨Tryz.call122⟩
theorem B3:bh Tryz.prog 172:=⟨Tryz.call172⟩
theorem goes165:bh Tryz.prog 165:=⟨Tryz.call165⟩
theorem goes163:bh Tryz.prog 163:=⟨Tryz.call163⟩
theorem yu:bh Tryz.prog 117:=⟨Tryz.call117⟩
theorem Du:Tryz.prog.underlying 21 = some (.int .i32):=Tryz.underlying21
theorem goes132:bh Tryz.prog 132:=⟨Tryz.call132⟩
theorem Et:hN Tryz.prog 143 138:=⟨⟨_,Tryz.underlying143,rfl⟩,⟨Tryz.t143,by kernel_rfl,by kernel_rfl⟩⟩
theorem Es:mY Tryz.prog 143 142 23 6:=⟨Tryz.underlying143,⟨Tryz.t142,by kernel_rfl,by kernel_rfl⟩⟩
theorem yX:hN Tryz.prog 142 6:=⟨⟨_,Tryz.underlying142,rfl⟩,⟨Tryz.t142,by kernel_rfl,by kernel_rfl⟩⟩
theorem Cy:kD Tryz.prog 142 [.str [],.i 0,.i 0,.i 0,.i 0,.i 0]:=⟨⟨Tryz.t142,_,by kernel_rfl,rfl,rfl⟩⟩
theorem AR:dB Tryz.prog 142 0 0 9:=⟨⟨_,_,Tryz.t9,Tryz.underlying142,rfl,rfl,rfl,by kernel_rfl,by decide⟩⟩
theorem goes133:bh Tryz.prog 133:=⟨Tryz.call133⟩
theorem lZ:dB Tryz.prog 94 1 1 31:=⟨⟨_,_,Tryz.t31,Tryz.underlying94,rfl,rfl,rfl,by kernel_rfl,by decide⟩⟩
theorem AO:dB Tryz.prog 142 3 3 29:=⟨⟨_,_,Tryz.t29,Tryz.underlying142,rfl,rfl,rfl,by kernel_rfl,by decide⟩⟩
theorem AQ:dB Tryz.prog 142 1 1 3:=⟨⟨_,_,Tryz.t3,Tryz.underlying142,rfl,rfl,rfl,by kernel_rfl,by decide⟩⟩
theorem AP:dB Tryz.prog 142 2 2 3:=⟨⟨_,_,Tryz.t3,Tryz.underlying142,rfl,rfl,rfl,by kernel_rfl,by decide⟩⟩
theorem goes23:bh Tryz.prog 23:=⟨Tryz.call23⟩
theorem CB:lQ Tryz.prog 94 [(0,1),(1,39),(40,1)] (.str [] :: .bool false :: .bool false :: (eW aU.zero ++ (.bool false :: .bool false :: (eW aU.zero ++ ([.i 0,.i 0,.i 0,.i 0]))))):=⟨⟨Tryz.t94,_,_,by kernel_rfl,rfl,rfl,Tryz.underlying94,by kernel_rfl⟩⟩
theorem undm95:Tryz.prog.underlying 95 = some (.map 5 1):=Tryz.underlying95
theorem sK:xb Tryz.prog 95 5 1 .u8 (.raw .nilFunc):=⟨Tryz.underlying95,Tryz.underlying5,⟨Tryz.t1,_,by kernel_rfl,rfl,fun _=>⟨rfl,rfl⟩⟩⟩
theorem goes70:bh Tryz.prog 70:=⟨Tryz.call70⟩
theorem und1:∃ ps rs v,Tryz.prog.underlying 1 = some (.func ps rs v):=⟨_,_,_,Tryz.underlying1⟩
theorem goes68:bh Tryz.prog 68:=⟨Tryz.call68⟩
theorem goes69:bh Tryz.prog 69:=⟨Tryz.call69⟩
theorem goes105:bh Tryz.prog 105:=⟨Tryz.call105⟩
theorem Cz:qA Tryz.prog 99 1 [.str [],.str [],.str []]:=⟨⟨Tryz.t99,_,_,_,Tryz.t9,by kernel_rfl,rfl,rfl,Tryz.underlying99,by kernel_rfl,by kernel_rfl⟩⟩
theorem tyArr99:mY Tryz.prog 99 9 3 1:=⟨Tryz.underlying99,⟨Tryz.t9,by kernel_rfl,by kernel_rfl⟩⟩
theorem DZ:bh Tryz.prog 72:=⟨Tryz.call72⟩
theorem goes164:bh Tryz.prog 164:=⟨Tryz.call164⟩
theorem goes118:bh Tryz.prog 118:=⟨Tryz.call118⟩
theorem vo:Tryz.prog.underlying 48 = some (.slice 5):=Tryz.underlying48
theorem vy:pR Tryz.prog 48 5 1 1 [.int .u8 0]:=⟨Tryz.underlying48,⟨Tryz.t5,_,by kernel_rfl,rfl,rfl,rfl,rfl,by decide,rfl⟩⟩
theorem Dv:fX Tryz.prog 5:=⟨⟨_,Tryz.underlying5,rfl⟩,⟨Tryz.t5,by kernel_rfl,by kernel_rfl⟩⟩
theorem Aw:bh Tryz.prog 59:=⟨Tryz.call59⟩
theorem Ca:bh Tryz.prog 121:=⟨Tryz.call121⟩
theorem goes60:bh Tryz.prog 60:=⟨Tryz.call60⟩
theorem goes61:bh Tryz.prog 61:=⟨Tryz.call61⟩
theorem xY:bh Tryz.prog 17:=⟨Tryz.call17⟩
theorem D6:bh Tryz.prog 38:=⟨Tryz.call38⟩
theorem goes13:bh Tryz.prog 13:=⟨Tryz.call13⟩
theorem zk (x y:bz) {d:Nat}:dN Tryz.prog (d + 4) 27 36 (aE x) (aE y) (decide (x = y)) :=
 (dN.struct (d:=d + 3) (rs:=[decide (x.N = y.N),decide (x.D = y.D)]) aC Tryz.stoodInHeld27 Tryz.underlying27 (⟨by decide,⟨_,(ar x.N),(ar y.N),rfl,rfl,rfl,rfl,wh _ _⟩,⟨by decide,⟨_,(ar x.D),(ar y.D),rfl,rfl,rfl,rfl,wh _ _⟩,trivial⟩⟩) rfl).cast
  (by cases x; cases y; rw [Bool.eq_iff_iff]; simp [bz.mk.injEq])
theorem E1 (x y:az) {d:Nat}:dN Tryz.prog (d + 5) 31 39 (ao x) (ao y) (decide (x = y)) :=
 (dN.struct (d:=d + 4) (rs:=[decide (x.V = y.V),decide (x.U = y.U)]) aJ Tryz.stoodInHeld31 Tryz.underlying31 (⟨by decide,⟨_,(aE x.V),(aE y.V),rfl,rfl,rfl,rfl,zk _ _⟩,⟨by decide,⟨_,(aP x.U),(aP y.U),rfl,rfl,rfl,rfl,zj _ _⟩,trivial⟩⟩) rfl).cast
  (by cases x; cases y; rw [Bool.eq_iff_iff]; simp [az.mk.injEq])
theorem nn (x y:az):lJ Tryz.prog 31 (ao x) (ao y) (decide (x = y)):=lJ.vD (by kernel_rfl) aJ (E1 x y (d:=9995)) rfl rfl
theorem und110:Tryz.prog.underlying 110 = some (.slice 9):=Tryz.underlying110
theorem iS:pR Tryz.prog 110 9 1 16 [.str []]:=⟨Tryz.underlying110,⟨Tryz.t9,_,by kernel_rfl,rfl,rfl,rfl,rfl,by decide,rfl⟩⟩
theorem goes126:bh Tryz.prog 126:=⟨Tryz.call126⟩
theorem goes127:bh Tryz.prog 127:=⟨Tryz.call127⟩
theorem goes128:bh Tryz.prog 128:=⟨Tryz.call128⟩
theorem Av:bh Tryz.prog 64:=⟨Tryz.call64⟩
theorem D':bh Tryz.prog 14:=⟨Tryz.call14⟩
theorem vL:bh Tryz.prog 18:=⟨Tryz.call18⟩
theorem me:bh Tryz.prog 50:=⟨Tryz.call50⟩
theorem Az:bh Tryz.prog 51:=⟨Tryz.call51⟩
theorem D9:bh Tryz.prog 19:=⟨Tryz.call19⟩
theorem Ea:bh Tryz.prog 11:=⟨Tryz.call11⟩
theorem D7:bh Tryz.prog 36:=⟨Tryz.call36⟩
theorem D4:bh Tryz.prog 40:=⟨Tryz.call40⟩
theorem eqAgg27 (x y:bz):lJ Tryz.prog 27 (aE x) (aE y) (decide (x = y)):=lJ.vD (by kernel_rfl) aC (zk x y (d:=9996)) rfl rfl
theorem vI:bh Tryz.prog 53:=⟨Tryz.call53⟩
theorem ym:bh Tryz.prog 158:=⟨Tryz.call158⟩
theorem goes144:bh Tryz.prog 144:=⟨Tryz.call144⟩
theorem DX:bh Tryz.prog 86:=⟨Tryz.call86⟩
theorem goes104:bh Tryz.prog 104:=⟨Tryz.call104⟩
theorem goes34:bh Tryz.prog 34:=⟨Tryz.call34⟩
theorem goes41:bh Tryz.prog 41:=⟨Tryz.call41⟩
theorem n6:dB Tryz.prog 69 0 0 31:=⟨⟨_,_,Tryz.t31,Tryz.underlying69,rfl,rfl,rfl,by kernel_rfl,by decide⟩⟩
theorem n5:dB Tryz.prog 69 1 39 33:=⟨⟨_,_,Tryz.t33,Tryz.underlying69,rfl,rfl,rfl,by kernel_rfl,by decide⟩⟩
theorem goes42:bh Tryz.prog 42:=⟨Tryz.call42⟩
theorem goes43:bh Tryz.prog 43:=⟨Tryz.call43⟩
theorem goes44:bh Tryz.prog 44:=⟨Tryz.call44⟩
theorem goes45:bh Tryz.prog 45:=⟨Tryz.call45⟩
theorem goes46:bh Tryz.prog 46:=⟨Tryz.call46⟩
theorem goes47:bh Tryz.prog 47:=⟨Tryz.call47⟩
theorem goes37:bh Tryz.prog 37:=⟨Tryz.call37⟩
theorem goes48:bh Tryz.prog 48:=⟨Tryz.call48⟩
theorem goes10:bh Tryz.prog 10:=⟨Tryz.call10⟩
theorem goes49:bh Tryz.prog 49:=⟨Tryz.call49⟩
def dA (F:Nat) (n0:Int):Option bA:=vq n0
theorem nG {F:Nat} {n0:Int} {r:bA} (h:dA F n0 = some r):aA Tryz.prog (bd mx) 72 [] [.one (.i n0)] (Is [] (.b (.one (.str r)))):=A5 Tryz.ER (gb:=2) (by kernel_rfl) (by simp [bd]) h
def jd (F:Nat) (s0:bA) (c0:Int):Option bA:=uY s0 c0
theorem rG {F:Nat} {s0:bA} {c0:Int} {r:bA} (h:jd F s0 c0 = some r):aA Tryz.prog (bd mx) 126 [] [.one (.str s0),.one (.i c0)] (Is [] (.b (.one (.str r)))):=yK Tryz.lays105 Tryz.tA h
def kv (F:Nat) (l0:List bA) (s0:bA):Option bA:=Bm l0 s0
theorem tx {F:Nat} {l0:List bA} {s0:bA} {r:bA} (h:kv F l0 s0 = some r):aA Tryz.prog (bd mx) 128 [] [.one (.sl 1 (l0.map eS)),.one (.str s0)] (Is [] (.b (.one (.str r)))):=A4 Tryz.lays156 Tryz.tz h
def gA (F:Nat) (s0:bA) (p0:bA):Option Bool:=some (Lib.hasPrefix s0 p0)
theorem hD {F:Nat} {s0:bA} {p0:bA} {r:Bool} (h:gA F s0 p0 = some r):aA Tryz.prog (bd mx) 122 [] [.one (.str s0),.one (.str p0)] (Is [] (B r)):=uR Tryz.lays99 h
def k4 (F:Nat) (s0:bA) (p0:bA):Option (bA × bA × Bool):=cut? s0 p0
theorem kM {F:Nat} {s0:bA} {p0:bA} {r:bA × bA × Bool} (h:k4 F s0 p0 = some r):aA Tryz.prog (bd mx) 59 [] [.one (.str s0),.one (.str p0)] (Is [] (.eY [.one (.str r.1),.one (.str r.2.1),.one (.bool r.2.2)])):=CH Tryz.ES (m:=mx) (by simp [bd,Tryz.tr]) h
def lY (F:Nat) (x0:br):Option Bool :=
 if x0.Bad = true then (some ((decide (x0.W = aU.zero)) && (!x0.Neg))) else (some ((!(decide (x0.W = aU.zero))) || (!x0.Neg)))
theorem td {F:Nat} {x0:br} {r:Bool} (h:lY F x0 = some r):aA Tryz.prog (bd mx) 166 [] [.agg (ar x0)] (Is [] (.b (.one (.bool r)))):=by
 unfold lY at h
 refine aA.intro 23 Tryz.func166 Tryz.ntmps166 rfl (by simp) fun E=>?_
 show ab _ E ⟨23,[],[]⟩ _ ⟨[(0,.b (.agg (ar x0)))],[]⟩ _
 refine ab.seq (ab.aa ?_)
 refine Oc (aL (k:=101) rfl rfl) (Oc oa ?_)
 refine ae.an ⟨[(1,Pt 101 0)],[(101,.box 25 (ar x0))]⟩ rfl (ab.seq (ab.aa ?_))
 refine Oc (af aZ rfl rfl) (Oc (lp aN) (Oc (dI gG rfl rfl) (Oc (fp (oN x0.W aU.zero) rfl rfl) (Oc oa ?_))))
 refine ae.an ⟨[(1,_),(3,B (decide (x0.W = aU.zero)))],[(101,_)]⟩ rfl (ab.seq (ab.seq (ab.aa ?_)))
 refine Oc (af jM rfl rfl) (Oc (au bS rfl rfl rfl) ?_)
 refine ae.an ⟨[(1,_),(3,_),(9,B x0.Bad)],[(101,_)]⟩ rfl (ab.ite h rfl (fun _ h=>?_) (fun _ h=>?_))
 ·refine ab.seq (ab.aa ?_)
  refine Oc om (Oc om ?_)
  refine cG (decide (x0.W = aU.zero)) [] (fun g1=>trivial) (fun g1=>af bj rfl rfl) (cG (decide (x0.W = aU.zero)) [12] (fun g2=>⟨g2,trivial⟩) (fun g2=>au bS rfl rfl rfl) (cG (decide (x0.W = aU.zero)) [13] (fun g3=>⟨g3,trivial⟩) (fun g3=>aT rfl) (Oc (aG (fun e=>e) rfl rfl rfl rfl) (Oc oa ?_))))
  refine ae.an ⟨[(2,B ((decide (x0.W = aU.zero)) && (!x0.Neg)))],[]⟩ rfl (ab.ret (Fin.aw ?_))
  obtain rfl:=Option.some.inj h
  refine Fin.ag ⟨[(2,_)],[]⟩ rfl (Fin.aq [.one (.bool ((decide (x0.W = aU.zero)) && (!x0.Neg)))] (.inl rfl) rfl (.cons (.tmp rfl) .nil) ⟨rfl,rfl⟩)
 ·refine ab.skip (Fin.ag ⟨[(1,_),(3,_)],[(101,_)]⟩ rfl (Fin.then (ab.seq (ab.aa ?_))))
  refine Oc om (Oc (aT rfl) (Oc om ?_))
  refine cx (!(!(decide (x0.W = aU.zero)))) [] (fun g4=>trivial) (fun g4=>af bj rfl rfl) (cx (!(!(decide (x0.W = aU.zero)))) [19] (fun g5=>⟨g5,trivial⟩) (fun g5=>au bS rfl rfl rfl) (cx (!(!(decide (x0.W = aU.zero)))) [20] (fun g6=>⟨g6,trivial⟩) (fun g6=>aT rfl) (Oc (aQ (fun e=>by rw [e]; rfl) rfl rfl rfl rfl) (Oc oa ?_))))
  refine ae.an ⟨[(2,B ((!(decide (x0.W = aU.zero))) || (!x0.Neg)))],[]⟩ rfl (ab.ret ?_)
  obtain rfl:=Option.some.inj h
  refine Fin.ag ⟨[(2,_)],[]⟩ rfl (Fin.aq [.one (.bool ((!(decide (x0.W = aU.zero))) || (!x0.Neg)))] (.inl rfl) rfl (.cons (.tmp rfl) .nil) ⟨rfl,rfl⟩)
def ld (F:Nat) (x0:br):Option Bool :=
 (bE (!x0.Bad) (lY F x0)).bind fun x_1=>some ((!x0.Bad) && x_1)
theorem nC {F:Nat} {x0:br} {r:Bool} (h:ld F x0 = some r):aA Tryz.prog (bd mx) 123 [] [.agg (ar x0)] (Is [] (.b (.one (.bool r)))):=by
 unfold ld at h
 refine aA.intro 10 Tryz.func123 Tryz.ntmps123 rfl (by simp) fun E=>?_
 show ab _ E ⟨10,[],[]⟩ _ ⟨[(0,.b (.agg (ar x0)))],[]⟩ _
 refine ab.seq (ab.aa ?_)
 refine Oc (aL (k:=101) rfl rfl) (Oc oa ?_)
 refine ae.an ⟨[(1,Pt 101 0)],[(101,.box 25 (ar x0))]⟩ rfl (ab.seq (ab.aa ?_))
 refine Oc (af jM rfl rfl) (Oc (au bS rfl rfl rfl) (Oc (aT rfl) (Oc om ?_)))
 refine cG (!x0.Bad) [] (fun g1=>trivial) (fun g1=>lp aj) (ae.ag ⟨[(6,B (!x0.Bad)),(7,.dh (!x0.Bad) (.agg (ar x0)))],[]⟩ rfl ?_)
 obtain ⟨x_1,e3,h⟩:=aD h
 refine cG (!x0.Bad) [7] (fun g2=>⟨g2,trivial⟩) (fun g2=>ad (td (gc e3 g2)) B4 rfl rfl) (Oc (aG (fun e=>e) rfl rfl rfl rfl) (Oc oa ?_))
 refine ae.an ⟨[(2,B ((!x0.Bad) && x_1))],[]⟩ rfl (ab.ret ?_)
 obtain rfl:=Option.some.inj h
 refine Fin.ag ⟨[(2,_)],[]⟩ rfl (Fin.aq [.one (.bool ((!x0.Bad) && x_1))] (.inl rfl) rfl (.cons (.tmp rfl) .nil) ⟨rfl,rfl⟩)
def ek (F:Nat) (l0:List br):Option Bool :=
 Option.bind (iter F (fun x_1=>if (decide (x_1 < (l0.length:Int))) = true then ((bI l0 x_1).bind fun x_2=>(bE (!x_2.Bad) (lY F x_2)).bind fun x_3=>if (x_2.Bad || (!x_3)) = true then (some (.inr (.inr false))) else (some (.inl (IntKind.i64.wrap (x_1 + 1))))) else (some (.inr (.inl ())))) 0) (ls (fun _=>some true) (fun y=>some y))
theorem ef {F:Nat} {l0:List br} {r:Bool} (h:ek F l0 = some r):aA Tryz.prog (bd mx) 124 [] [.one (.sl 18 (l0.map ar))] (Is [] (.b (.one (.bool r)))):=by
 unfold ek at h
 refine aA.intro 19 Tryz.func124 Tryz.ntmps124 rfl (by simp) fun E=>?_
 show ab _ E ⟨19,[],[]⟩ _ ⟨[(0,.b (.one (.sl 18 (l0.map ar))))],[]⟩ _
 refine ab.seq (ab.aa ?_)
 refine Oc oa (ae.an ⟨[(0,.b (.one (.sl 18 (l0.map ar))))],[]⟩ rfl ?_)
 obtain ⟨v1,h2,h⟩:=aD h
 refine ab.cB (v:=v1) (fun (_:Unit)=>⟨[],[]⟩) (fun z=>.inl z) ?_ ?_
 ·refine ab.seq (ab.aa ?_)
  refine Oc om (Oc (bV und170 rfl (List.length_map _)) (Oc om ?_))
  refine ae.an ⟨[(5,.b (.one (.sl 18 (l0.map ar)))),(6,I (l0.length:Int)),(7,I 0)],[]⟩ rfl (ab.block (ab.cW h2 (fun (x_1:Int)=>⟨[(5,.b (.one (.sl 18 (l0.map ar)))),(6,I (l0.length:Int)),(7,I x_1)],[]⟩) [5,6,7] [] rfl ?_))
  rintro x_1 o3 h4 hy5
  refine ab.seq (ab.aa ?_)
  refine Oc (bP rfl rfl) (ae.an ⟨[(5,_),(6,_),(7,_),(8,B (decide (x_1 < (l0.length:Int))))],[]⟩ rfl (ab.seq (ab.ite h4 rfl (fun _ h4=>?_) (fun _ h4=>?_))))
  ·refine ab.skip (Fin.ag ⟨[(5,_),(6,_),(7,_)],[]⟩ rfl (Fin.then (ab.seq (ab.block (ab.seq (ab.aa ?_))))))
   obtain ⟨x_2,e6,h4⟩:=aD h4
   refine Oc (dS iR (bx e6) (eE (e:=ar) e6) rfl rfl) (Oc (xl aj rfl rfl rfl) (Oc (aB (k:=101) bn rfl) (Oc (ah aj rfl rfl rfl rfl (Nat.le_of_ble_eq_true rfl) rfl) ?_)))
   refine ae.an ⟨[(4,Pt 101 0),(5,_),(6,_),(7,_)],[(101,.box 25 (ar x_2))]⟩ rfl (ab.seq (ab.aa ?_))
   refine Oc (af jM rfl rfl) (Oc (au bS rfl rfl rfl) (Oc om ?_))
   refine cx (!x_2.Bad) [] (fun g7=>trivial) (fun g7=>lp aj) ?_
   obtain ⟨x_3,e9,h4⟩:=aD h4
   refine cx (!x_2.Bad) [14] (fun g8=>⟨g8,trivial⟩) (fun g8=>ad (td (gc e9 g8)) B4 rfl rfl) (cx (!x_2.Bad) [15] (fun g10=>⟨g10,trivial⟩) (fun g10=>aT rfl) (Oc (aQ (fun e=>by rw [e]; rfl) rfl rfl rfl rfl) (ae.an ⟨[(5,_),(6,_),(7,_),(17,B (x_2.Bad || (!x_3)))],[]⟩ rfl (ab.ite h4 rfl (fun _ h4=>?_) (fun _ h4=>?_)))))
   ·refine ab.seq (ab.aa ?_)
    refine Oc oa (ae.an ⟨[(2,B false)],[]⟩ rfl (ab.ret (Fin.bb (Fin.aw ?_))))
    obtain rfl:=hy5 _ (Option.some.inj h4).symm
    refine Fin.aw (Fin.bb (Fin.aw ?_))
    obtain rfl:=Option.some.inj h
    refine Fin.ag ⟨[(2,_)],[]⟩ rfl (Fin.aq [.one (.bool false)] (.inl rfl) rfl (.cons (.tmp rfl) .nil) ⟨rfl,rfl⟩)
   ·refine ab.skip (Fin.aI (Fin.ag ⟨[(5,_),(6,_),(7,_)],[]⟩ rfl (Fin.then (ab.aa ?_))))
    refine Oc (bg rfl rfl) (Oc om ?_)
    refine ae.nil ?_
    exact Fin.b6 [5,6,7] [] (IntKind.i64.wrap (x_1 + 1)) (Option.some.inj h4) rfl
  ·refine ab.exit (Fin.aF ?_)
   obtain rfl:=hy5 _ (Option.some.inj h4).symm
   refine Fin.aF (Fin.aX ?_)
   exact Fin.join [] [] () rfl rfl
 ·rintro _ hv
  subst v1
  refine ab.seq (ab.aa ?_)
  refine Oc oa (ae.an ⟨[(2,B true)],[]⟩ rfl (ab.ret ?_))
  obtain rfl:=Option.some.inj h
  refine Fin.ag ⟨[(2,_)],[]⟩ rfl (Fin.aq [.one (.bool true)] (.inl rfl) rfl (.cons (.tmp rfl) .nil) ⟨rfl,rfl⟩)
def gD (F:Nat) (x0:br):Option Int :=
 (ek F [x0]).bind fun x_1=>if ((!x_1) || (decide (x0.W = aU.zero))) = true then (some 0) else (if x0.Neg = true then (some (-1)) else (some 1))
theorem iN {F:Nat} {x0:br} {r:Int} (h:gD F x0 = some r):aA Tryz.prog (bd mx) 90 [] [.agg (ar x0)] (Is [] (.b (.one (.i r)))):=by
 unfold gD at h
 refine aA.intro 17 Tryz.func90 Tryz.ntmps90 rfl (by simp) fun E=>?_
 show ab _ E ⟨17,[],[]⟩ _ ⟨[(0,.b (.agg (ar x0)))],[]⟩ _
 refine ab.seq (ab.aa ?_)
 refine Oc (aL (k:=101) rfl rfl) (Oc oa ?_)
 refine ae.an ⟨[(1,Pt 101 0)],[(101,.box 25 (ar x0))]⟩ rfl (ab.seq (ab.block (ab.seq (ab.aa ?_))))
 refine Oc (lp aj) (Oc (bc (k:=102) (es:=[x0].map ar) iR rfl rfl (cE fun _=>rfl) rfl (by decide) (by decide) rfl) ?_)
 obtain ⟨x_1,e1,h⟩:=aD h
 refine Oc (ep (ef e1) jv rfl CP.du) (Oc (aT rfl) ?_)
 refine ae.ag ⟨[(1,_),(7,B (!x_1))],[(101,_)]⟩ rfl (Oc om (cx (!(!x_1)) [] (fun g2=>by exact trivial) (fun g2=>af aZ rfl rfl) (cx (!(!x_1)) [9] (fun g3=>by exact ⟨g3,trivial⟩) (fun g3=>lp aN) (cx (!(!x_1)) [] (fun g4=>by exact trivial) (fun g4=>dI gG rfl rfl) (cx (!(!x_1)) [10,11] (fun g5=>by exact ⟨g5,g5,trivial⟩) (fun g5=>fp (oN x0.W aU.zero) rfl rfl) ?_)))))
 refine Oc (aQ (fun e=>by rw [e]; rfl) rfl rfl rfl rfl) (Oc oa ?_)
 refine ae.an ⟨[(1,_),(3,B ((!x_1) || (decide (x0.W = aU.zero))))],[(101,_)]⟩ rfl (ab.ite h rfl (fun _ h=>?_) (fun _ h=>?_))
 ·refine ab.seq (ab.aa ?_)
  refine Oc oa (ae.an ⟨[(2,I 0)],[]⟩ rfl (ab.ret (Fin.bb (Fin.aw ?_))))
  obtain rfl:=Option.some.inj h
  refine Fin.ag ⟨[(2,_)],[]⟩ rfl (Fin.aq [.one (.i 0)] (.inl rfl) rfl (.cons (.tmp rfl) .nil) ⟨rfl,rfl⟩)
 ·refine ab.seq (ab.aa ?_)
  refine Oc (af bj rfl rfl) (Oc (au bS rfl rfl rfl) (Oc oa ?_))
  refine ae.an ⟨[(14,B x0.Neg)],[]⟩ rfl (ab.ite h rfl (fun _ h=>?_) (fun _ h=>?_))
  ·refine ab.seq (ab.aa ?_)
   refine Oc oa (ae.an ⟨[(2,I (-1))],[]⟩ rfl (ab.ret (Fin.bb (Fin.aw ?_))))
   obtain rfl:=Option.some.inj h
   refine Fin.ag ⟨[(2,_)],[]⟩ rfl (Fin.aq [.one (.i (-1))] (.inl rfl) rfl (.cons (.tmp rfl) .nil) ⟨rfl,rfl⟩)
  ·refine ab.skip (Fin.aI (Fin.ag ⟨[],[]⟩ rfl (Fin.then (ab.seq (ab.aa ?_)))))
   refine Oc oa (ae.an ⟨[(2,I 1)],[]⟩ rfl (ab.ret ?_))
   obtain rfl:=Option.some.inj h
   refine Fin.ag ⟨[(2,_)],[]⟩ rfl (Fin.aq [.one (.i 1)] (.inl rfl) rfl (.cons (.tmp rfl) .nil) ⟨rfl,rfl⟩)
def gx (F:Nat):Option br :=
 some (⟨true,false,aU.zero⟩:br)
theorem eH {F:Nat} {r:br} (h:gx F = some r):aA Tryz.prog (bd mx) 136 [] [] (Is [] (.b (.agg (ar r)))):=by
 unfold gx at h
 refine aA.intro 2 Tryz.func136 Tryz.ntmps136 rfl (by simp) fun E=>?_
 show ab _ E ⟨2,[],[]⟩ _ ⟨[],[]⟩ _
 refine ab.seq (ab.aa ?_)
 refine Oc (aB (k:=101) bn rfl) (ae.an ⟨[(0,Pt 101 0)],[(101,.box 25 cU)]⟩ rfl (ab.seq (ab.aa ?_)))
 refine Oc (aS rr rfl rfl) (Oc (ah aj rfl rfl rfl rfl (Nat.le_of_ble_eq_true rfl) rfl) ?_)
 refine ae.an ⟨[(0,_)],[(101,.box 25 (.bool true :: .bool false :: (eW aU.zero)))]⟩ rfl (ab.ret ?_)
 obtain rfl:=Option.some.inj h
 refine Fin.ag ⟨[(0,_)],[(101,_)]⟩ rfl (Fin.aq [.agg (.bool true :: .bool false :: (eW aU.zero))] (.inl rfl) rfl (.cons (.agg aj rfl rfl rfl rfl) .nil) ⟨rfl,rfl⟩)
def iI (F:Nat) (w0:aU):Option Int :=
 Option.bind (iter F (fun n_2=>(bE (decide (0 < n_2)) (bI w0.l (IntKind.i64.wrap (n_2 - 1)))).bind fun x_4=>if ((decide (0 < n_2)) && (decide (x_4 = 0))) = true then (some (.inl (IntKind.i64.wrap (n_2 - 1)))) else (some (.inr n_2))) 16) (fun n_1=>some n_1)
theorem iM {F:Nat} {w0:aU} {r:Int} (h:iI F w0 = some r):aA Tryz.prog (bd mx) 137 [] [.agg (eW w0)] (Is [] (.b (.one (.i r)))):=by
 unfold iI at h
 refine aA.intro 16 Tryz.func137 Tryz.ntmps137 rfl (by simp) fun E=>?_
 show ab _ E ⟨16,[],[]⟩ _ ⟨[(0,.b (.agg (eW w0)))],[]⟩ _
 refine ab.seq (ab.aa ?_)
 refine Oc (aL (k:=101) rfl rfl) (Oc oa ?_)
 refine ae.an ⟨[(1,Pt 101 0)],[(101,.box 23 (eW w0))]⟩ rfl (ab.seq (ab.aa ?_))
 refine Oc oa (ae.an ⟨[(1,_),(3,I 16)],[(101,_)]⟩ rfl ?_)
 obtain ⟨v1,h2,h⟩:=aD h
 refine ab.cB (v:=v1) (fun (n_1:Int)=>⟨[(3,I n_1)],[]⟩) (fun z=>z) ?_ ?_
 ·refine ab.block (ab.cW h2 (fun (n_2:Int)=>⟨[(1,Pt 101 0),(3,I n_2)],[(101,.box 23 (eW w0))]⟩) [1,3] [101] rfl ?_)
  rintro n_2 o3 h4 hy5
  refine ab.seq (ab.seq (ab.aa ?_))
  refine Oc om (Oc (fj rfl rfl) (Oc om ?_))
  refine cG (decide (0 < n_2)) [] (fun g6=>trivial) (fun g6=>om) (cG (decide (0 < n_2)) [7] (fun g7=>by exact ⟨g7,trivial⟩) (fun g7=>b7 rfl rfl) ?_)
  obtain ⟨x_4,e9,h4⟩:=aD h4
  refine cG (decide (0 < n_2)) [8] (fun g8=>⟨g8,trivial⟩) (fun g8=>aM bF (bx (gc e9 g8)) (cC (gc e9 g8)) rfl rfl rfl) (cG (decide (0 < n_2)) [9] (fun g10=>⟨g10,trivial⟩) (fun g10=>au bt rfl rfl (cF (post:=[]) (k:=.u32) [] (gc e9 g10) rfl rfl rfl)) (cG (decide (0 < n_2)) [10] (fun g11=>⟨g11,trivial⟩) (fun g11=>cR rfl rfl) (Oc (aG (fun e=>e) rfl rfl rfl rfl) (ae.an ⟨[(1,_),(3,_),(12,B ((decide (0 < n_2)) && (decide (x_4 = 0))))],[(101,_)]⟩ rfl (ab.ite h4 rfl (fun _ h4=>?_) (fun _ h4=>?_))))))
  ·refine ab.skip (Fin.ag ⟨[(1,_),(3,_)],[(101,_)]⟩ rfl (Fin.then (ab.block (ab.aa ?_))))
   refine Oc om (Oc (b7 rfl rfl) (Oc oa ?_))
   refine ae.nil (Fin.aI ?_)
   exact Fin.b6 [1,3] [101] (IntKind.i64.wrap (n_2 - 1)) (Option.some.inj h4) rfl
  ·refine ab.exit (Fin.aF ?_)
   obtain rfl:=hy5 _ (Option.some.inj h4).symm
   refine Fin.aF (Fin.aX ?_)
   exact Fin.join [3] [] n_2 rfl rfl
 ·rintro n_1 hv
  subst v1
  refine ab.seq (ab.aa ?_)
  refine Oc om (Oc oa ?_)
  refine ae.an ⟨[(2,I n_1)],[]⟩ rfl (ab.ret ?_)
  obtain rfl:=Option.some.inj h
  refine Fin.ag ⟨[(2,_)],[]⟩ rfl (Fin.aq [.one (.i n_1)] (.inl rfl) rfl (.cons (.tmp rfl) .nil) ⟨rfl,rfl⟩)
def c6 (F:Nat) (neg0:Bool) (w0:aU):Option br :=
 some (⟨false,neg0 && (decide (w0 ≠ aU.zero)),w0⟩:br)
theorem cZ {F:Nat} {neg0:Bool} {w0:aU} {r:br} (h:c6 F neg0 w0 = some r):aA Tryz.prog (bd mx) 135 [] [.one (.bool neg0),.agg (eW w0)] (Is [] (.b (.agg (ar r)))):=by
 unfold c6 at h
 refine aA.intro 13 Tryz.func135 Tryz.ntmps135 rfl (by simp) fun E=>?_
 show ab _ E ⟨13,[],[]⟩ _ ⟨[(0,B neg0),(1,.b (.agg (eW w0)))],[]⟩ _
 refine ab.seq (ab.aa ?_)
 refine Oc (aL (k:=101) rfl rfl) (Oc (aB (k:=102) bn rfl) ?_)
 refine ae.an ⟨[(0,B neg0),(3,Pt 101 0),(4,Pt 102 0)],[(101,.box 23 (eW w0)),(102,.box 25 cU)]⟩ rfl (ab.seq (ab.bm mixed 8 [B neg0,B neg0,.dh neg0 (.agg (eW w0)),.dh neg0 (.agg (eW aU.zero)),.dh neg0 (.one (.bool (decide (w0 ≠ aU.zero)))),B (neg0 && (decide (w0 ≠ aU.zero))),.b (.agg (eW w0)),.b (.agg (.bool false :: .bool (neg0 && (decide (w0 ≠ aU.zero))) :: (eW w0)))] [4] [102] (s':=⟨[(4,_)],[(102,.box 25 (.bool false :: .bool (neg0 && (decide (w0 ≠ aU.zero))) :: (eW w0)))]⟩) rfl ⟨fun _=>.p om,fun _=>.p om,fun _=>by exact .guard neg0 1 [] (.plain rfl) (jY _) rfl rfl (fun g1=>trivial) (fun g1=>lp aN),fun _=>by exact .guard neg0 1 [] (.plain rfl) (jY _) rfl rfl (fun g2=>trivial) (fun g2=>dI gG rfl rfl),fun _=>by exact .guard neg0 3 [7,8] (.plain rfl) (jY _) rfl rfl (fun g3=>⟨g3,g3,trivial⟩) (fun g3=>dG (oN w0 aU.zero) rfl rfl gR),fun _=>.p (aG (fun e=>e) rfl rfl rfl rfl),fun _=>.p (lp aN),fun _=>.p (aS rr rfl rfl),trivial⟩ ⟨_,by exact .p (ah aj rfl rfl rfl rfl (Nat.le_of_ble_eq_true rfl) rfl),rfl⟩ rfl (ab.ret ?_)))
 obtain rfl:=Option.some.inj h
 refine Fin.ag ⟨[(4,_)],[(102,_)]⟩ rfl (Fin.aq [.agg (.bool false :: .bool (neg0 && (decide (w0 ≠ aU.zero))) :: (eW w0))] (.inl rfl) rfl (.cons (.agg aj rfl rfl rfl rfl) .nil) ⟨rfl,rfl⟩)
def lm (F:Nat) (x0:Int):Option Bool :=
 some (decide (x0 ≠ x0))
theorem qS {F:Nat} {x0:Int} {r:Bool} (h:lm F x0 = some r):aA Tryz.prog (bd mx) 203 [] [.one (.int .u32 x0)] (Is [] (.b (.one (.bool r)))):=by
 unfold lm at h
 refine aA.intro 6 Tryz.func203 Tryz.ntmps203 rfl (by simp) fun E=>?_
 show ab _ E ⟨6,[],[]⟩ _ ⟨[(0,.b (.one (.int .u32 x0)))],[]⟩ _
 refine ab.seq (ab.aa ?_)
 refine Oc oa (ae.an ⟨[(0,.b (.one (.int .u32 x0)))],[]⟩ rfl (ab.seq (ab.aa ?_)))
 refine Oc om (Oc om (Oc (di rfl rfl) (Oc oa ?_)))
 refine ae.an ⟨[(2,B (decide (x0 ≠ x0)))],[]⟩ rfl (ab.ret ?_)
 obtain rfl:=Option.some.inj h
 refine Fin.ag ⟨[(2,_)],[]⟩ rfl (Fin.aq [.one (.bool (decide (x0 ≠ x0)))] (.inl rfl) rfl (.cons (.tmp rfl) .nil) ⟨rfl,rfl⟩)
def jq (F:Nat) (x0:Int) (y0:Int):Option Int :=
 (lm F x0).bind fun x_1=>(lm F y0).bind fun x_2=>if x_1 = true then (if x_2 = true then (some 0) else (some (-1))) else (if x_2 = true then (some 1) else (if (decide (x0 < y0)) = true then (some (-1)) else (if (decide (y0 < x0)) = true then (some 1) else (some 0))))
theorem uc {F:Nat} {x0:Int} {y0:Int} {r:Int} (h:jq F x0 y0 = some r):aA Tryz.prog (bd mx) 183 [] [.one (.int .u32 x0),.one (.int .u32 y0)] (Is [] (.b (.one (.i r)))):=by
 unfold jq at h
 refine aA.intro 20 Tryz.func183 Tryz.ntmps183 rfl (by simp) fun E=>?_
 show ab _ E ⟨20,[],[]⟩ _ ⟨[(0,.b (.one (.int .u32 x0))),(1,.b (.one (.int .u32 y0)))],[]⟩ _
 refine ab.seq (ab.aa ?_)
 refine Oc oa (ae.an ⟨[(0,.b (.one (.int .u32 x0))),(1,.b (.one (.int .u32 y0)))],[]⟩ rfl (ab.seq (ab.aa ?_)))
 refine Oc om ?_
 obtain ⟨x_1,e1,h⟩:=aD h
 refine Oc (ad (qS e1) BW rfl rfl) (Oc oa ?_)
 refine ae.an ⟨[(0,_),(1,_),(5,B x_1)],[]⟩ rfl (ab.seq (ab.aa ?_))
 refine Oc om ?_
 obtain ⟨x_2,e2,h⟩:=aD h
 refine Oc (ad (qS e2) BW rfl rfl) (Oc oa ?_)
 refine ae.an ⟨[(0,_),(1,_),(5,_),(6,B x_2)],[]⟩ rfl (ab.seq (ab.seq (ab.aa ?_)))
 refine Oc om (ae.an ⟨[(0,_),(1,_),(6,_),(11,B x_1)],[]⟩ rfl (ab.ite h rfl (fun _ h=>?_) (fun _ h=>?_)))
 ·refine ab.seq (ab.seq (ab.aa ?_))
  refine Oc om (ae.an ⟨[(12,B x_2)],[]⟩ rfl (ab.ite h rfl (fun _ h=>?_) (fun _ h=>?_)))
  ·refine ab.seq (ab.aa ?_)
   refine Oc oa (ae.an ⟨[(4,I 0)],[]⟩ rfl (ab.ret (Fin.aw (Fin.aw ?_))))
   obtain rfl:=Option.some.inj h
   refine Fin.ag ⟨[(4,_)],[]⟩ rfl (Fin.aq [.one (.i 0)] (.inl rfl) rfl (.cons (.tmp rfl) .nil) ⟨rfl,rfl⟩)
  ·refine ab.skip (Fin.ag ⟨[],[]⟩ rfl (Fin.then (ab.seq (ab.aa ?_))))
   refine Oc oa (ae.an ⟨[(4,I (-1))],[]⟩ rfl (ab.ret (Fin.aw ?_)))
   obtain rfl:=Option.some.inj h
   refine Fin.ag ⟨[(4,_)],[]⟩ rfl (Fin.aq [.one (.i (-1))] (.inl rfl) rfl (.cons (.tmp rfl) .nil) ⟨rfl,rfl⟩)
 ·refine ab.skip (Fin.ag ⟨[(0,_),(1,_),(6,_)],[]⟩ rfl (Fin.then (ab.seq (ab.seq (ab.aa ?_)))))
  refine Oc om (ae.an ⟨[(0,_),(1,_),(13,B x_2)],[]⟩ rfl (ab.ite h rfl (fun _ h=>?_) (fun _ h=>?_)))
  ·refine ab.seq (ab.aa ?_)
   refine Oc oa (ae.an ⟨[(4,I 1)],[]⟩ rfl (ab.ret (Fin.aw ?_)))
   obtain rfl:=Option.some.inj h
   refine Fin.ag ⟨[(4,_)],[]⟩ rfl (Fin.aq [.one (.i 1)] (.inl rfl) rfl (.cons (.tmp rfl) .nil) ⟨rfl,rfl⟩)
  ·refine ab.skip (Fin.ag ⟨[(0,_),(1,_)],[]⟩ rfl (Fin.then (ab.seq (ab.seq (ab.aa ?_)))))
   refine Oc om (Oc om (Oc (bP rfl rfl) ?_))
   refine ae.an ⟨[(0,_),(1,_),(16,B (decide (x0 < y0)))],[]⟩ rfl (ab.ite h rfl (fun _ h=>?_) (fun _ h=>?_))
   ·refine ab.seq (ab.aa ?_)
    refine Oc oa (ae.an ⟨[(4,I (-1))],[]⟩ rfl (ab.ret (Fin.aw ?_)))
    obtain rfl:=Option.some.inj h
    refine Fin.ag ⟨[(4,_)],[]⟩ rfl (Fin.aq [.one (.i (-1))] (.inl rfl) rfl (.cons (.tmp rfl) .nil) ⟨rfl,rfl⟩)
   ·refine ab.skip (Fin.ag ⟨[(0,_),(1,_)],[]⟩ rfl (Fin.then (ab.seq (ab.seq (ab.aa ?_)))))
    refine Oc om (Oc om (Oc (fj rfl rfl) ?_))
    refine ae.an ⟨[(19,B (decide (y0 < x0)))],[]⟩ rfl (ab.ite h rfl (fun _ h=>?_) (fun _ h=>?_))
    ·refine ab.seq (ab.aa ?_)
     refine Oc oa (ae.an ⟨[(4,I 1)],[]⟩ rfl (ab.ret (Fin.aw ?_)))
     obtain rfl:=Option.some.inj h
     refine Fin.ag ⟨[(4,_)],[]⟩ rfl (Fin.aq [.one (.i 1)] (.inl rfl) rfl (.cons (.tmp rfl) .nil) ⟨rfl,rfl⟩)
    ·refine ab.skip (Fin.ag ⟨[],[]⟩ rfl (Fin.then (ab.seq (ab.aa ?_))))
     refine Oc oa (ae.an ⟨[(4,I 0)],[]⟩ rfl (ab.ret ?_))
     obtain rfl:=Option.some.inj h
     refine Fin.ag ⟨[(4,_)],[]⟩ rfl (Fin.aq [.one (.i 0)] (.inl rfl) rfl (.cons (.tmp rfl) .nil) ⟨rfl,rfl⟩)
def jJ (F:Nat) (a0:aU) (b0:aU):Option Int :=
 Option.bind (iter F (fun k_1=>if (decide (0 ≤ k_1)) = true then ((bI a0.l k_1).bind fun x_2=>(bI b0.l k_1).bind fun x_3=>if (decide (x_2 ≠ x_3)) = true then ((bI a0.l k_1).bind fun x_4=>(bI b0.l k_1).bind fun x_5=>(jq F x_4 x_5).bind fun x_6=>some (.inr (.inr x_6))) else (some (.inl (IntKind.i64.wrap (k_1 - 1))))) else (some (.inr (.inl ())))) 15) (ls (fun _=>some 0) (fun y=>some y))
theorem lR {F:Nat} {a0:aU} {b0:aU} {r:Int} (h:jJ F a0 b0 = some r):aA Tryz.prog (bd mx) 142 [] [.agg (eW a0),.agg (eW b0)] (Is [] (.b (.one (.i r)))):=by
 unfold jJ at h
 refine aA.intro 24 Tryz.func142 Tryz.ntmps142 rfl (by simp) fun E=>?_
 show ab _ E ⟨24,[],[]⟩ _ ⟨[(0,.b (.agg (eW a0))),(1,.b (.agg (eW b0)))],[]⟩ _
 refine ab.seq (ab.aa ?_)
 refine Oc (aL (k:=101) rfl rfl) (Oc (aL (k:=102) rfl rfl) (Oc oa ?_))
 refine ae.an ⟨[(2,Pt 101 0),(3,Pt 102 0)],[(101,.box 23 (eW a0)),(102,.box 23 (eW b0))]⟩ rfl ?_
 obtain ⟨v1,h2,h⟩:=aD h
 refine ab.cB (v:=v1) (fun (_:Unit)=>⟨[],[]⟩) (fun z=>.inl z) ?_ ?_
 ·refine ab.seq (ab.aa ?_)
  refine Oc oa (ae.an ⟨[(2,_),(3,_),(5,I 15)],[(101,_),(102,_)]⟩ rfl (ab.block (ab.cW h2 (fun (k_1:Int)=>⟨[(2,Pt 101 0),(3,Pt 102 0),(5,I k_1)],[(101,.box 23 (eW a0)),(102,.box 23 (eW b0))]⟩) [2,3,5] [101,102] rfl ?_)))
  rintro k_1 o3 h4 hy5
  refine ab.seq (ab.seq (ab.aa ?_))
  refine Oc om (Oc (gC rfl rfl) ?_)
  refine ae.an ⟨[(2,_),(3,_),(5,_),(7,B (decide (0 ≤ k_1)))],[(101,_),(102,_)]⟩ rfl (ab.ite h4 rfl (fun _ h4=>?_) (fun _ h4=>?_))
  ·refine ab.skip (Fin.ag ⟨[(2,_),(3,_),(5,_)],[(101,_),(102,_)]⟩ rfl (Fin.then (ab.seq (ab.block (ab.seq ?_)))))
   refine ab.ag ⟨[(2,_),(3,_),(5,_)],[(101,_),(102,_)]⟩ rfl ?_
   obtain ⟨x_2,e6,h4⟩:=aD h4
   obtain ⟨x_3,e7,h4⟩:=aD h4
   refine ab.bm mixed 7 [I k_1,.b (.ptr 101 (0 + (k_1:Int).toNat * 1)),.b (.one (.int .u32 x_2)),I k_1,.b (.ptr 102 (0 + (k_1:Int).toNat * 1)),.b (.one (.int .u32 x_3)),B (decide (x_2 ≠ x_3))] [2,3,5,16] [101,102] (s':=⟨[(2,_),(3,_),(5,_),(16,B (decide (x_2 ≠ x_3)))],[(101,_),(102,_)]⟩) rfl ⟨fun _=>.p om,fun _=>.p (aM bF (bx e6) (cC e6) rfl rfl rfl),fun _=>.p (au bt rfl rfl (cF (post:=[]) (k:=.u32) [] e6 rfl rfl rfl)),fun _=>.p om,fun _=>.p (aM bF (bx e7) (cC e7) rfl rfl rfl),fun _=>.p (au bt rfl rfl (cF (post:=[]) (k:=.u32) [] e7 rfl rfl rfl)),fun _=>.p (di rfl rfl),trivial⟩ rfl rfl (ab.ite h4 rfl (fun _ h4=>?_) (fun _ h4=>?_))
   ·refine ab.seq (ab.ag ⟨[(2,_),(3,_),(5,_)],[(101,_),(102,_)]⟩ rfl ?_)
    obtain ⟨x_4,e8,h4⟩:=aD h4
    obtain ⟨x_5,e9,h4⟩:=aD h4
    obtain ⟨x_6,e10,h4⟩:=aD h4
    refine ab.bm mixed 8 [I k_1,.b (.ptr 101 (0 + (k_1:Int).toNat * 1)),.b (.one (.int .u32 x_4)),I k_1,.b (.ptr 102 (0 + (k_1:Int).toNat * 1)),.b (.one (.int .u32 x_5)),I x_6,I x_6] [4] [] (s':=⟨[(4,I x_6)],[]⟩) rfl ⟨fun _=>.p om,fun _=>.p (aM bF (bx e8) (cC e8) rfl rfl rfl),fun _=>.p (au bt rfl rfl (cF (post:=[]) (k:=.u32) [] e8 rfl rfl rfl)),fun _=>.p om,fun _=>.p (aM bF (bx e9) (cC e9) rfl rfl rfl),fun _=>.p (au bt rfl rfl (cF (post:=[]) (k:=.u32) [] e9 rfl rfl rfl)),fun _=>.p (ad (uc e10) goes183 rfl rfl),fun _=>.p oa,trivial⟩ rfl rfl (ab.ret (Fin.bb (Fin.aw ?_)))
    obtain rfl:=hy5 _ (Option.some.inj h4).symm
    refine Fin.aw (Fin.bb (Fin.aw ?_))
    obtain rfl:=Option.some.inj h
    refine Fin.ag ⟨[(4,_)],[]⟩ rfl (Fin.aq [.one (.i x_6)] (.inl rfl) rfl (.cons (.tmp rfl) .nil) ⟨rfl,rfl⟩)
   ·refine ab.skip (Fin.aI (Fin.ag ⟨[(2,_),(3,_),(5,_)],[(101,_),(102,_)]⟩ rfl (Fin.then (ab.aa ?_))))
    refine Oc om (Oc (b7 rfl rfl) (Oc oa ?_))
    refine ae.nil ?_
    exact Fin.b6 [2,3,5] [101,102] (IntKind.i64.wrap (k_1 - 1)) (Option.some.inj h4) rfl
  ·refine ab.exit (Fin.aF ?_)
   obtain rfl:=hy5 _ (Option.some.inj h4).symm
   refine Fin.aF (Fin.aX ?_)
   exact Fin.join [] [] () rfl rfl
 ·rintro _ hv
  subst v1
  refine ab.seq (ab.aa ?_)
  refine Oc oa (ae.an ⟨[(4,I 0)],[]⟩ rfl (ab.ret ?_))
  obtain rfl:=Option.some.inj h
  refine Fin.ag ⟨[(4,_)],[]⟩ rfl (Fin.aq [.one (.i 0)] (.inl rfl) rfl (.cons (.tmp rfl) .nil) ⟨rfl,rfl⟩)
def lW (F:Nat) (a0:aU) (b0:Int):Option (aU × Int) :=
 Option.bind (iter F (ky fun q_3 r_4 k_5=>if (decide (0 ≤ k_5)) = true then ((bI a0.l k_5).bind fun x_8=>bN (mU .u64 (IntKind.u64.wrap (r_4 * 4294967296)) (IntKind.u64.wrap x_8)) fun x_9=>(lq .u64 x_9 (IntKind.u64.wrap b0)).bind fun x_10=>(bI q_3.l k_5).bind fun x_11=>(vm x_9 (IntKind.u64.wrap b0)).bind fun x_12=>some (.inl (q_3.set k_5 (IntKind.u32.wrap x_10),x_12,IntKind.i64.wrap (k_5 - 1)))) else (some (.inr (q_3,r_4)))) (aU.zero,0,15)) (b9 fun q_1 r_2=>some (q_1,IntKind.u32.wrap r_2))
theorem tc {F:Nat} {a0:aU} {b0:Int} {r:aU × Int} (h:lW F a0 b0 = some r):aA Tryz.prog (bd mx) 125 [] [.agg (eW a0),.one (.int .u32 b0)] (Is [] (.eY [.agg (eW r.1),.one (.int .u32 r.2)])):=by
 unfold lW at h
 refine aA.intro 33 Tryz.func125 Tryz.ntmps125 rfl (by simp) fun E=>?_
 show ab _ E ⟨33,[],[]⟩ _ ⟨[(0,.b (.agg (eW a0))),(1,.b (.one (.int .u32 b0)))],[]⟩ _
 refine ab.seq (ab.aa ?_)
 refine Oc (aL (k:=101) rfl rfl) (Oc (aB (k:=102) cS rfl) (Oc oa ?_))
 refine ae.an ⟨[(1,.b (.one (.int .u32 b0))),(2,Pt 101 0),(4,Pt 102 0)],[(101,.box 23 (eW a0)),(102,.box 23 (eW aU.zero))]⟩ rfl (ab.seq (ab.aa ?_))
 refine Oc oa (ae.an ⟨[(1,_),(2,_),(4,_),(6,.b (.one (.int .u64 0)))],[(101,_),(102,_)]⟩ rfl ?_)
 obtain ⟨v1,h2,h⟩:=aD h
 refine ab.cB (v:=v1) (b9 fun (q_1:aU) (r_2:Int)=>⟨[(4,Pt 102 0),(6,.b (.one (.int .u64 r_2)))],[(102,.box 23 (eW q_1))]⟩) (fun z=>z) ?_ ?_
 ·refine ab.seq (ab.aa ?_)
  refine Oc oa (ae.an ⟨[(1,_),(2,_),(4,_),(6,_),(7,I 15)],[(101,_),(102,_)]⟩ rfl (ab.block (ab.cW h2 (ky fun (q_3:aU) (r_4:Int) (k_5:Int)=>⟨[(1,.b (.one (.int .u32 b0))),(2,Pt 101 0),(4,Pt 102 0),(6,.b (.one (.int .u64 r_4))),(7,I k_5)],[(101,.box 23 (eW a0)),(102,.box 23 (eW q_3))]⟩) [1,2,4,6,7] [101,102] rfl ?_)))
  rintro ⟨q_3,r_4,k_5⟩ o3 h4 hy5
  refine ab.seq (ab.seq (ab.aa ?_))
  refine Oc om (Oc (gC rfl rfl) ?_)
  refine ae.an ⟨[(1,_),(2,_),(4,_),(6,_),(7,_),(9,B (decide (0 ≤ k_5)))],[(101,_),(102,_)]⟩ rfl (ab.ite h4 rfl (fun _ h4=>?_) (fun _ h4=>?_))
  ·refine ab.skip (Fin.ag ⟨[(1,_),(2,_),(4,_),(6,_),(7,_)],[(101,_),(102,_)]⟩ rfl (Fin.then (ab.seq (ab.block (ab.seq (ab.aa ?_))))))
   refine Oc om (Oc (oG (m:=32) (q:=4294967296) (by decide) rfl rfl (by decide)) (Oc om ?_))
   obtain ⟨x_8,e6,h4⟩:=aD h4
   refine Oc (aM bF (bx e6) (cC e6) rfl rfl rfl) (Oc (au bt rfl rfl (cF (post:=[]) (k:=.u32) [] e6 rfl rfl rfl)) (Oc (aH bR bB rfl) ?_))
   refine ae.cD .u64 h4 rfl (uh rfl rfl) (fun x_9 h4=>?_)
   refine Oc oa (ae.an ⟨[(1,_),(2,_),(4,_),(6,.b (.one (.int .u64 x_9))),(7,_)],[(101,_),(102,_)]⟩ rfl (ab.seq (ab.aa ?_)))
   refine Oc om (Oc om (Oc om (Oc (aH bR bB rfl) ?_)))
   obtain ⟨x_10,e7,h4⟩:=aD h4
   refine Oc (fc e7 rfl rfl) (Oc (aH bB bR rfl) ?_)
   obtain ⟨x_11,e8,h4⟩:=aD h4
   refine Oc (aM bF (bx e8) (cC e8) rfl rfl rfl) (Oc (cc bt rfl rfl rfl (j4 (post:=[]) (k:=.u32) [] e8 rfl rfl rfl) (iD (post:=[]) (k:=.u32) [] e8 rfl rfl (aU.jh q_3 k_5 (IntKind.u32.wrap x_10)) rfl rfl)) ?_)
   refine ae.an ⟨[(1,_),(2,_),(4,_),(6,_),(7,_)],[(101,_),(102,.box 23 (eW (q_3.set k_5 (IntKind.u32.wrap x_10))))]⟩ rfl (ab.aa (Oc om (Oc om (Oc (aH bR bB rfl) ?_))))
   obtain ⟨x_12,e9,h4⟩:=aD h4
   refine Oc (q8 e9 rfl rfl) (Oc oa ?_)
   refine ae.nil (Fin.aI (Fin.ag ⟨[(1,_),(2,_),(4,_),(6,.b (.one (.int .u64 x_12))),(7,_)],[(101,_),(102,_)]⟩ rfl (Fin.then (ab.aa ?_))))
   refine Oc om (Oc (b7 rfl rfl) (Oc oa ?_))
   refine ae.nil ?_
   exact Fin.b6 [1,2,4,6,7] [101,102] (q_3.set k_5 (IntKind.u32.wrap x_10),x_12,IntKind.i64.wrap (k_5 - 1)) (Option.some.inj h4) rfl
  ·refine ab.exit (Fin.aF ?_)
   obtain rfl:=hy5 _ (Option.some.inj h4).symm
   refine Fin.aF (Fin.aX ?_)
   exact Fin.join [4,6] [102] (q_3,r_4) rfl rfl
 ·rintro ⟨q_1,r_2⟩ hv
  subst v1
  refine ab.seq (ab.aa ?_)
  refine Oc (lp aN) (Oc om (Oc (aH bB bR rfl) (Oc (ah aN rfl rfl rfl rfl (Nat.le_of_ble_eq_true rfl) rfl) (Oc oa ?_))))
  refine ae.an ⟨[(4,_),(5,.b (.one (.int .u32 (IntKind.u32.wrap r_2))))],[(102,_)]⟩ rfl (ab.ret ?_)
  obtain rfl:=Option.some.inj h
  refine Fin.ag ⟨[(4,_),(5,_)],[(102,_)]⟩ rfl (Fin.aq [.agg (eW q_1),.one (.int .u32 (IntKind.u32.wrap r_2))] (.inl rfl) rfl (.cons (.agg aN rfl rfl rfl rfl) (.cons (.tmp rfl) .nil)) ⟨rfl,rfl⟩)
def jc (F:Nat) (x0:Int):Option Int :=
 Option.bind (if (decide (65536 ≤ x0)) = true then (some (x0 / 65536,16)) else (some (x0,0))) (b9 fun x_1 n_2=>Option.bind (if (decide (256 ≤ x_1)) = true then (some (x_1 / 256,IntKind.i64.wrap (n_2 + 8))) else (some (x_1,n_2))) (b9 fun x_3 n_4=>(bI ([0,1,2,2,3,3,3,3,4,4,4,4,4,4,4,4,5,5,5,5,5,5,5,5,5,5,5,5,5,5,5,5,6,6,6,6,6,6,6,6,6,6,6,6,6,6,6,6,6,6,6,6,6,6,6,6,6,6,6,6,6,6,6,6,7,7,7,7,7,7,7,7,7,7,7,7,7,7,7,7,7,7,7,7,7,7,7,7,7,7,7,7,7,7,7,7,7,7,7,7,7,7,7,7,7,7,7,7,7,7,7,7,7,7,7,7,7,7,7,7,7,7,7,7,7,7,7,7,8,8,8,8,8,8,8,8,8,8,8,8,8,8,8,8,8,8,8,8,8,8,8,8,8,8,8,8,8,8,8,8,8,8,8,8,8,8,8,8,8,8,8,8,8,8,8,8,8,8,8,8,8,8,8,8,8,8,8,8,8,8,8,8,8,8,8,8,8,8,8,8,8,8,8,8,8,8,8,8,8,8,8,8,8,8,8,8,8,8,8,8,8,8,8,8,8,8,8,8,8,8,8,8,8,8,8,8,8,8,8,8,8,8,8,8,8,8,8,8,8,8,8,8,8,8,8,8]:bA) (IntKind.u8.wrap x_3)).bind fun x_5=>bN (IntKind.i64.wrap (n_4 + (IntKind.i64.wrap (x_5.toNat:Int)))) fun x_6=>some x_6))
theorem pK {F:Nat} {x0:Int} {r:Int} (h:jc F x0 = some r):aA Tryz.prog (bd mx) 201 [] [.one (.int .u32 x0)] (Is [] (.b (.one (.i r)))):=by
 unfold jc at h
 refine aA.intro 19 Tryz.func201 Tryz.ntmps201 rfl (by simp) fun E=>?_
 show ab _ E ⟨19,[],[]⟩ _ ⟨[(0,.b (.one (.int .u32 x0)))],[]⟩ _
 refine ab.seq (ab.aa ?_)
 refine Oc oa (ae.an ⟨[(0,.b (.one (.int .u32 x0))),(2,I 0)],[]⟩ rfl ?_)
 obtain ⟨v1,h2,h⟩:=aD h
 refine ab.cB (v:=v1) (b9 fun (x_1:Int) (n_2:Int)=>⟨[(0,.b (.one (.int .u32 x_1))),(2,I n_2)],[]⟩) (fun z=>z) ?_ ?_
 ·refine ab.seq (ab.aa ?_)
  refine Oc om (Oc (gC rfl rfl) ?_)
  refine ae.an ⟨[(0,_),(2,_),(4,B (decide (65536 ≤ x0)))],[]⟩ rfl (ab.ite h2 rfl (fun _ h2=>?_) (fun _ h2=>?_))
  ·refine ab.seq (ab.aa ?_)
   refine Oc om (Oc (jt (m:=16) (by decide) rfl rfl rfl) (Oc oa ?_))
   refine ae.an ⟨[(0,.b (.one (.int .u32 (x0 / 65536))))],[]⟩ rfl (ab.aa (Oc oa (ae.nil ?_)))
   exact Fin.join [0,2] [] (x0 / 65536,16) (Option.some.inj h2) rfl
  ·refine ab.skip ?_
   exact Fin.join [0,2] [] (x0,0) (Option.some.inj h2) rfl
 ·rintro ⟨x_1,n_2⟩ hv
  subst v1
  obtain ⟨v3,h4,h⟩:=aD h
  refine ab.cB (v:=v3) (b9 fun (x_3:Int) (n_4:Int)=>⟨[(0,.b (.one (.int .u32 x_3))),(2,I n_4)],[]⟩) (fun z=>z) ?_ ?_
  ·refine ab.seq (ab.aa ?_)
   refine Oc om (Oc (gC rfl rfl) ?_)
   refine ae.an ⟨[(0,_),(2,_),(8,B (decide (256 ≤ x_1)))],[]⟩ rfl (ab.ite h4 rfl (fun _ h4=>?_) (fun _ h4=>?_))
   ·refine ab.seq (ab.aa ?_)
    refine Oc om (Oc (jt (m:=8) (by decide) rfl rfl rfl) (Oc oa ?_))
    refine ae.an ⟨[(0,.b (.one (.int .u32 (x_1 / 256)))),(2,_)],[]⟩ rfl (ab.aa (Oc om (Oc (bg rfl rfl) (Oc oa ?_))))
    refine ae.nil ?_
    exact Fin.join [0,2] [] (x_1 / 256,IntKind.i64.wrap (n_2 + 8)) (Option.some.inj h4) rfl
   ·refine ab.skip ?_
    exact Fin.join [0,2] [] (x_1,n_2) (Option.some.inj h4) rfl
  ·rintro ⟨x_3,n_4⟩ hv
   subst v3
   refine ab.seq (ab.aa ?_)
   refine Oc om (Oc om (Oc (aH bR pE rfl) ?_))
   obtain ⟨x_5,e5,h⟩:=aD h
   refine Oc (kr iF rfl rfl (bx e5) (p5 e5)) (Oc (aH pE kz rfl) ?_)
   refine ae.cD .i64 h rfl (bg rfl rfl) (fun x_6 h=>?_)
   refine Oc oa (ae.an ⟨[(2,I x_6)],[]⟩ rfl (ab.ret ?_))
   obtain rfl:=Option.some.inj h
   refine Fin.ag ⟨[(2,_)],[]⟩ rfl (Fin.aq [.one (.i x_6)] (.inl rfl) rfl (.cons (.tmp rfl) .nil) ⟨rfl,rfl⟩)
def eD (F:Nat) (x0:Int):Option Int :=
 (jc F x0).bind fun x_1=>some (IntKind.i64.wrap (32 - x_1))
theorem nR {F:Nat} {x0:Int} {r:Int} (h:eD F x0 = some r):aA Tryz.prog (bd mx) 175 [] [.one (.int .u32 x0)] (Is [] (.b (.one (.i r)))):=by
 unfold eD at h
 refine aA.intro 6 Tryz.func175 Tryz.ntmps175 rfl (by simp) fun E=>?_
 show ab _ E ⟨6,[],[]⟩ _ ⟨[(0,.b (.one (.int .u32 x0)))],[]⟩ _
 refine ab.seq (ab.aa ?_)
 refine Oc oa (ae.an ⟨[(0,.b (.one (.int .u32 x0)))],[]⟩ rfl (ab.seq (ab.aa ?_)))
 refine Oc om ?_
 obtain ⟨x_1,e1,h⟩:=aD h
 refine Oc (ad (pK e1) BX rfl rfl) (Oc (b7 rfl rfl) (Oc oa ?_))
 refine ae.an ⟨[(2,I (IntKind.i64.wrap (32 - x_1)))],[]⟩ rfl (ab.ret ?_)
 obtain rfl:=Option.some.inj h
 refine Fin.ag ⟨[(2,_)],[]⟩ rfl (Fin.aq [.one (.i (IntKind.i64.wrap (32 - x_1)))] (.inl rfl) rfl (.cons (.tmp rfl) .nil) ⟨rfl,rfl⟩)
def tE (F:Nat) (w0:aU) (n0:Int):Option (aU × Int) :=
 Option.bind (iter F (ky fun out_3 carry_4 x_5=>if (decide (x_5 < 16)) = true then ((bI w0.l x_5).bind fun x_8=>Option.bind (yO .u64 (IntKind.u64.wrap x_8) n0) (fun x_9=>bN (IntKind.u32.wrap (mU .u64 carry_4 x_9)) fun x_10=>(bI out_3.l x_5).bind fun x_11=>some (.inl (out_3.set x_5 x_10,(mU .u64 carry_4 x_9) / 4294967296,IntKind.i64.wrap (x_5 + 1))))) else (some (.inr (out_3,carry_4)))) (aU.zero,0,0)) (b9 fun out_1 carry_2=>some (out_1,IntKind.u32.wrap carry_2))
theorem xh {F:Nat} {w0:aU} {n0:Int} {r:aU × Int} (h:tE F w0 n0 = some r):aA Tryz.prog (bd mx) 176 [] [.agg (eW w0),.one (.i n0)] (Is [] (.eY [.agg (eW r.1),.one (.int .u32 r.2)])):=by
 unfold tE at h
 refine aA.intro 30 Tryz.func176 Tryz.ntmps176 rfl (by simp) fun E=>?_
 show ab _ E ⟨30,[],[]⟩ _ ⟨[(0,.b (.agg (eW w0))),(1,I n0)],[]⟩ _
 refine ab.seq (ab.aa ?_)
 refine Oc (aL (k:=101) rfl rfl) (Oc (aB (k:=102) cS rfl) (Oc oa ?_))
 refine ae.an ⟨[(1,I n0),(2,Pt 101 0),(4,Pt 102 0)],[(101,.box 23 (eW w0)),(102,.box 23 (eW aU.zero))]⟩ rfl (ab.seq (ab.aa ?_))
 refine Oc (aB (k:=103) cS rfl) (ae.an ⟨[(1,_),(2,_),(4,_),(6,Pt 103 0)],[(101,_),(102,_),(103,.box 23 (eW aU.zero))]⟩ rfl (ab.seq (ab.aa ?_)))
 refine Oc oa (ae.an ⟨[(1,_),(2,_),(4,_),(6,_),(7,.b (.one (.int .u64 0)))],[(101,_),(102,_),(103,_)]⟩ rfl ?_)
 obtain ⟨v1,h2,h⟩:=aD h
 refine ab.cB (v:=v1) (b9 fun (out_1:aU) (carry_2:Int)=>⟨[(4,Pt 102 0),(6,Pt 103 0),(7,.b (.one (.int .u64 carry_2)))],[(102,.box 23 (eW aU.zero)),(103,.box 23 (eW out_1))]⟩) (fun z=>z) ?_ ?_
 ·refine ab.seq (ab.aa ?_)
  refine Oc om (ae.an ⟨[(1,_),(2,_),(4,_),(6,_),(7,_),(9,I 0)],[(101,_),(102,_),(103,_)]⟩ rfl (ab.block (ab.cW h2 (ky fun (out_3:aU) (carry_4:Int) (x_5:Int)=>⟨[(1,I n0),(2,Pt 101 0),(4,Pt 102 0),(6,Pt 103 0),(7,.b (.one (.int .u64 carry_4))),(9,I x_5)],[(101,.box 23 (eW w0)),(102,.box 23 (eW aU.zero)),(103,.box 23 (eW out_3))]⟩) [1,2,4,6,7,9] [101,102,103] rfl ?_)))
  rintro ⟨out_3,carry_4,x_5⟩ o3 h4 hy5
  refine ab.seq (ab.aa ?_)
  refine Oc (bP rfl rfl) (ae.an ⟨[(1,_),(2,_),(4,_),(6,_),(7,_),(9,_),(10,B (decide (x_5 < 16)))],[(101,_),(102,_),(103,_)]⟩ rfl (ab.seq (ab.ite h4 rfl (fun _ h4=>?_) (fun _ h4=>?_))))
  ·refine ab.skip (Fin.ag ⟨[(1,_),(2,_),(4,_),(6,_),(7,_),(9,_)],[(101,_),(102,_),(103,_)]⟩ rfl (Fin.then (ab.seq (ab.block (ab.seq (ab.aa ?_))))))
   refine Oc om (Oc oa ?_)
   refine ae.an ⟨[(1,_),(2,_),(4,_),(6,_),(7,_),(8,I x_5),(9,_)],[(101,_),(102,_),(103,_)]⟩ rfl (ab.seq (ab.aa ?_))
   refine Oc om (Oc om ?_)
   obtain ⟨x_8,e6,h4⟩:=aD h4
   refine Oc (aM bF (bx e6) (cC e6) rfl rfl rfl) (Oc (au bt rfl rfl (cF (post:=[]) (k:=.u32) [] e6 rfl rfl rfl)) (Oc (aH bR bB rfl) (Oc om ?_)))
   obtain ⟨x_9,e7,h4⟩:=aD h4
   refine Oc (DI e7 rfl rfl) (Oc (uh rfl rfl) (Oc oa ?_))
   refine ae.an ⟨[(1,_),(2,_),(4,_),(6,_),(7,.b (.one (.int .u64 (mU .u64 carry_4 x_9)))),(8,_),(9,_)],[(101,_),(102,_),(103,_)]⟩ rfl (ab.seq (ab.aa ?_))
   refine Oc om (Oc om ?_)
   refine ae.cD .u32 h4 rfl (aH bB bR rfl) (fun x_10 h4=>?_)
   obtain ⟨x_11,e8,h4⟩:=aD h4
   refine Oc (aM bF (bx e8) (cC e8) rfl rfl rfl) (Oc (cc bt rfl rfl rfl (j4 (post:=[]) (k:=.u32) [] e8 rfl rfl rfl) (iD (post:=[]) (k:=.u32) [] e8 rfl rfl (aU.jh out_3 x_5 x_10) rfl rfl)) ?_)
   refine ae.an ⟨[(1,_),(2,_),(4,_),(6,_),(7,_),(9,_)],[(101,_),(102,_),(103,.box 23 (eW (out_3.set x_5 x_10)))]⟩ rfl (ab.aa (Oc om (Oc (jt (m:=32) (by decide) rfl rfl rfl) (Oc oa ?_))))
   refine ae.nil (Fin.aI (Fin.ag ⟨[(1,_),(2,_),(4,_),(6,_),(7,.b (.one (.int .u64 ((mU .u64 carry_4 x_9) / 4294967296)))),(9,_)],[(101,_),(102,_),(103,_)]⟩ rfl (Fin.then (ab.aa ?_))))
   refine Oc (bg rfl rfl) (Oc om ?_)
   refine ae.nil ?_
   exact Fin.b6 [1,2,4,6,7,9] [101,102,103] (out_3.set x_5 x_10,(mU .u64 carry_4 x_9) / 4294967296,IntKind.i64.wrap (x_5 + 1)) (Option.some.inj h4) rfl
  ·refine ab.exit (Fin.aF ?_)
   obtain rfl:=hy5 _ (Option.some.inj h4).symm
   refine Fin.aF (Fin.aX ?_)
   exact Fin.join [4,6,7] [102,103] (out_3,carry_4) rfl rfl
 ·rintro ⟨out_1,carry_2⟩ hv
  subst v1
  refine ab.seq (ab.aa ?_)
  refine Oc (lp aN) (Oc om (Oc (aH bB bR rfl) (Oc (ah aN rfl rfl rfl rfl (Nat.le_of_ble_eq_true rfl) rfl) (Oc oa ?_))))
  refine ae.an ⟨[(4,_),(5,.b (.one (.int .u32 (IntKind.u32.wrap carry_2))))],[(102,.box 23 (eW out_1))]⟩ rfl (ab.ret ?_)
  obtain rfl:=Option.some.inj h
  refine Fin.ag ⟨[(4,_),(5,_)],[(102,_)]⟩ rfl (Fin.aq [.agg (eW out_1),.one (.int .u32 (IntKind.u32.wrap carry_2))] (.inl rfl) rfl (.cons (.agg aN rfl rfl rfl rfl) (.cons (.tmp rfl) .nil)) ⟨rfl,rfl⟩)
def lX (F:Nat) (v0:aU) (n0:Int) (j0:Int) (u0v:cQ):Option Int :=
 (bI u0v.l (IntKind.i64.wrap (j0 + n0))).bind fun x_1=>(bI u0v.l (IntKind.i64.wrap ((IntKind.i64.wrap (j0 + n0)) - 1))).bind fun x_2=>(bI v0.l (IntKind.i64.wrap (n0 - 1))).bind fun x_3=>(lq .u64 (mU .u64 (IntKind.u64.wrap ((IntKind.u64.wrap x_1) * 4294967296)) (IntKind.u64.wrap x_2)) (IntKind.u64.wrap x_3)).bind fun x_4=>(vm (mU .u64 (IntKind.u64.wrap ((IntKind.u64.wrap x_1) * 4294967296)) (IntKind.u64.wrap x_2)) (IntKind.u64.wrap x_3)).bind fun x_5=>Option.bind (iter F (b9 fun d_7 rest_8=>(bE ((decide (rest_8 < 4294967296)) && !(decide (4294967296 ≤ d_7))) (bI v0.l (IntKind.i64.wrap (n0 - 2)))).bind fun x_10=>(bE ((decide (rest_8 < 4294967296)) && !(decide (4294967296 ≤ d_7))) (bI u0v.l (IntKind.i64.wrap ((IntKind.i64.wrap (j0 + n0)) - 2)))).bind fun x_11=>if ((decide (rest_8 < 4294967296)) && ((decide (4294967296 ≤ d_7)) || (decide ((mU .u64 (IntKind.u64.wrap (rest_8 * 4294967296)) (IntKind.u64.wrap x_11)) < (IntKind.u64.wrap (d_7 * (IntKind.u64.wrap x_10))))))) = true then (bN (IntKind.u64.wrap (rest_8 + (IntKind.u64.wrap x_3))) fun x_12=>some (.inl (IntKind.u64.wrap (d_7 - 1),x_12))) else (some (.inr d_7))) (x_4,x_5)) (fun d_6=>some d_6)
theorem yC {F:Nat} {v0:aU} {n0:Int} {j0:Int} {u0v:cQ} {r:Int} (h:lX F v0 n0 j0 u0v = some r):aA Tryz.prog (bd mx) 177 [(1,.box 186 ((jW .u32) u0v))] [.ptr 1 0,.agg (eW v0),.one (.i n0),.one (.i j0)] (Is [(1,.box 186 ((jW .u32) u0v))] (.b (.one (.int .u64 r)))):=by
 unfold lX at h
 refine aA.intro 77 Tryz.func177 Tryz.ntmps177 rfl (by simp) fun E=>?_
 show ab _ E ⟨77,[1],[1]⟩ _ ⟨[(0,Pt 1 0),(1,.b (.agg (eW v0))),(2,I n0),(3,I j0)],[(1,.box 186 ((jW .u32) u0v))]⟩ _
 refine ab.seq (ab.aa ?_)
 refine Oc (aL (k:=101) rfl rfl) (Oc oa ?_)
 refine ae.an ⟨[(0,Pt 1 0),(2,I n0),(3,I j0),(5,Pt 101 0)],[(1,.box 186 ((jW .u32) u0v)),(101,.box 23 (eW v0))]⟩ rfl (ab.seq ?_)
 obtain ⟨x_1,e1,h⟩:=aD h
 obtain ⟨x_2,e2,h⟩:=aD h
 refine ab.bm mixed 20 [Pt 1 0,I j0,I n0,I (IntKind.i64.wrap (j0 + n0)),Pt 1 0,.b (.ptr 1 (0 + (IntKind.i64.wrap (j0 + n0):Int).toNat * 1)),.b (.one (.int .u32 x_1)),.b (.one (.int .u64 (IntKind.u64.wrap x_1))),.b (.one (.int .u64 (IntKind.u64.wrap ((IntKind.u64.wrap x_1) * 4294967296)))),Pt 1 0,I j0,I n0,I (IntKind.i64.wrap (j0 + n0)),I (IntKind.i64.wrap ((IntKind.i64.wrap (j0 + n0)) - 1)),Pt 1 0,.b (.ptr 1 (0 + (IntKind.i64.wrap ((IntKind.i64.wrap (j0 + n0)) - 1):Int).toNat * 1)),.b (.one (.int .u32 x_2)),.b (.one (.int .u64 (IntKind.u64.wrap x_2))),.b (.one (.int .u64 (mU .u64 (IntKind.u64.wrap ((IntKind.u64.wrap x_1) * 4294967296)) (IntKind.u64.wrap x_2)))),.b (.one (.int .u64 (mU .u64 (IntKind.u64.wrap ((IntKind.u64.wrap x_1) * 4294967296)) (IntKind.u64.wrap x_2))))] [0,2,3,5,9] [1,101] (s':=⟨[(0,_),(2,_),(3,_),(5,_),(9,.b (.one (.int .u64 (mU .u64 (IntKind.u64.wrap ((IntKind.u64.wrap x_1) * 4294967296)) (IntKind.u64.wrap x_2)))))],[(1,_),(101,_)]⟩) rfl ⟨fun _=>.p om,fun _=>.p om,fun _=>.p om,fun _=>.p (bg rfl rfl),fun _=>.p (aW rfl),fun _=>.p (aM fZ (bx e1) (cC e1) rfl rfl rfl),fun _=>.p (au bt rfl rfl (cF (post:=[]) (k:=.u32) [] e1 rfl rfl rfl)),fun _=>.p (aH bR bB rfl),fun _=>.p (oG (m:=32) (q:=4294967296) (by decide) rfl rfl (by decide)),fun _=>.p om,fun _=>.p om,fun _=>.p om,fun _=>.p (bg rfl rfl),fun _=>.p (b7 rfl rfl),fun _=>.p (aW rfl),fun _=>.p (aM fZ (bx e2) (cC e2) rfl rfl rfl),fun _=>.p (au bt rfl rfl (cF (post:=[]) (k:=.u32) [] e2 rfl rfl rfl)),fun _=>.p (aH bR bB rfl),fun _=>.p (uh rfl rfl),fun _=>.p oa,trivial⟩ rfl rfl (ab.seq (ab.aa ?_))
 refine Oc om (Oc (b7 rfl rfl) ?_)
 obtain ⟨x_3,e3,h⟩:=aD h
 refine Oc (aM bF (bx e3) (cC e3) rfl rfl rfl) (Oc (au bt rfl rfl (cF (post:=[]) (k:=.u32) [] e3 rfl rfl rfl)) (Oc (aH bR bB rfl) (Oc oa ?_)))
 refine ae.an ⟨[(0,_),(2,_),(3,_),(5,_),(9,_),(10,.b (.one (.int .u64 (IntKind.u64.wrap x_3))))],[(1,_),(101,_)]⟩ rfl (ab.seq ?_)
 obtain ⟨x_4,e4,h⟩:=aD h
 obtain ⟨x_5,e5,h⟩:=aD h
 refine ab.bm mixed 8 [.b (.one (.int .u64 (mU .u64 (IntKind.u64.wrap ((IntKind.u64.wrap x_1) * 4294967296)) (IntKind.u64.wrap x_2)))),.b (.one (.int .u64 (IntKind.u64.wrap x_3))),.b (.one (.int .u64 x_4)),.b (.one (.int .u64 (mU .u64 (IntKind.u64.wrap ((IntKind.u64.wrap x_1) * 4294967296)) (IntKind.u64.wrap x_2)))),.b (.one (.int .u64 (IntKind.u64.wrap x_3))),.b (.one (.int .u64 x_5)),.b (.one (.int .u64 x_4)),.b (.one (.int .u64 x_5))] [0,2,3,5,10,11,12] [1,101] (s':=⟨[(0,_),(2,_),(3,_),(5,_),(10,_),(11,.b (.one (.int .u64 x_4))),(12,.b (.one (.int .u64 x_5)))],[(1,_),(101,_)]⟩) rfl ⟨fun _=>.p om,fun _=>.p om,fun _=>.p (fc e4 rfl rfl),fun _=>.p om,fun _=>.p om,fun _=>.p (q8 e5 rfl rfl),fun _=>.p oa,fun _=>.p oa,trivial⟩ rfl rfl ?_
 obtain ⟨v6,h7,h⟩:=aD h
 refine ab.cB (v:=v6) (fun (d_6:Int)=>⟨[(11,.b (.one (.int .u64 d_6)))],[(1,.box 186 ((jW .u32) u0v))]⟩) (fun z=>z) ?_ ?_
 ·refine ab.block (ab.cW h7 (b9 fun (d_7:Int) (rest_8:Int)=>⟨[(0,Pt 1 0),(2,I n0),(3,I j0),(5,Pt 101 0),(10,.b (.one (.int .u64 (IntKind.u64.wrap x_3)))),(11,.b (.one (.int .u64 d_7))),(12,.b (.one (.int .u64 rest_8)))],[(1,.box 186 ((jW .u32) u0v)),(101,.box 23 (eW v0))]⟩) [0,2,3,5,10,11,12] [1,101] rfl ?_)
  rintro ⟨d_7,rest_8⟩ o8 h9 hy10
  refine ab.seq (ab.seq ?_)
  refine ab.ag ⟨[(0,_),(2,_),(3,_),(5,_),(10,_),(11,_),(12,_)],[(1,_),(101,_)]⟩ rfl ?_
  obtain ⟨x_10,e18,h9⟩:=aD h9
  obtain ⟨x_11,e31,h9⟩:=aD h9
  refine ab.bm mixed 28 [.b (.one (.int .u64 rest_8)),B (decide (rest_8 < 4294967296)),B (decide (rest_8 < 4294967296)),.dh (decide (rest_8 < 4294967296)) (.one (.int .u64 d_7)),.dh (decide (rest_8 < 4294967296)) (.one (.bool (decide (4294967296 ≤ d_7)))),.dh (decide (rest_8 < 4294967296)) (.one (.bool (decide (4294967296 ≤ d_7)))),.dh ((decide (rest_8 < 4294967296)) && !(decide (4294967296 ≤ d_7))) (.one (.int .u64 d_7)),.dh ((decide (rest_8 < 4294967296)) && !(decide (4294967296 ≤ d_7))) (.one (.i n0)),.dh ((decide (rest_8 < 4294967296)) && !(decide (4294967296 ≤ d_7))) (.one (.i (IntKind.i64.wrap (n0 - 2)))),.dh ((decide (rest_8 < 4294967296)) && !(decide (4294967296 ≤ d_7))) (.ptr 101 (0 + (IntKind.i64.wrap (n0 - 2):Int).toNat * 1)),.dh ((decide (rest_8 < 4294967296)) && !(decide (4294967296 ≤ d_7))) (.one (.int .u32 x_10)),.dh ((decide (rest_8 < 4294967296)) && !(decide (4294967296 ≤ d_7))) (.one (.int .u64 (IntKind.u64.wrap x_10))),.dh ((decide (rest_8 < 4294967296)) && !(decide (4294967296 ≤ d_7))) (.one (.int .u64 (IntKind.u64.wrap (d_7 * (IntKind.u64.wrap x_10))))),.dh ((decide (rest_8 < 4294967296)) && !(decide (4294967296 ≤ d_7))) (.one (.int .u64 rest_8)),.dh ((decide (rest_8 < 4294967296)) && !(decide (4294967296 ≤ d_7))) (.one (.int .u64 (IntKind.u64.wrap (rest_8 * 4294967296)))),.dh ((decide (rest_8 < 4294967296)) && !(decide (4294967296 ≤ d_7))) (.ptr 1 0),.dh ((decide (rest_8 < 4294967296)) && !(decide (4294967296 ≤ d_7))) (.one (.i j0)),.dh ((decide (rest_8 < 4294967296)) && !(decide (4294967296 ≤ d_7))) (.one (.i n0)),.dh ((decide (rest_8 < 4294967296)) && !(decide (4294967296 ≤ d_7))) (.one (.i (IntKind.i64.wrap (j0 + n0)))),.dh ((decide (rest_8 < 4294967296)) && !(decide (4294967296 ≤ d_7))) (.one (.i (IntKind.i64.wrap ((IntKind.i64.wrap (j0 + n0)) - 2)))),.dh ((decide (rest_8 < 4294967296)) && !(decide (4294967296 ≤ d_7))) (.ptr 1 0),.dh ((decide (rest_8 < 4294967296)) && !(decide (4294967296 ≤ d_7))) (.ptr 1 (0 + (IntKind.i64.wrap ((IntKind.i64.wrap (j0 + n0)) - 2):Int).toNat * 1)),.dh ((decide (rest_8 < 4294967296)) && !(decide (4294967296 ≤ d_7))) (.one (.int .u32 x_11)),.dh ((decide (rest_8 < 4294967296)) && !(decide (4294967296 ≤ d_7))) (.one (.int .u64 (IntKind.u64.wrap x_11))),.dh ((decide (rest_8 < 4294967296)) && !(decide (4294967296 ≤ d_7))) (.one (.int .u64 (mU .u64 (IntKind.u64.wrap (rest_8 * 4294967296)) (IntKind.u64.wrap x_11)))),.dh ((decide (rest_8 < 4294967296)) && !(decide (4294967296 ≤ d_7))) (.one (.bool (decide ((mU .u64 (IntKind.u64.wrap (rest_8 * 4294967296)) (IntKind.u64.wrap x_11)) < (IntKind.u64.wrap (d_7 * (IntKind.u64.wrap x_10))))))),.dh (decide (rest_8 < 4294967296)) (.one (.bool ((decide (4294967296 ≤ d_7)) || (decide ((mU .u64 (IntKind.u64.wrap (rest_8 * 4294967296)) (IntKind.u64.wrap x_11)) < (IntKind.u64.wrap (d_7 * (IntKind.u64.wrap x_10)))))))),B ((decide (rest_8 < 4294967296)) && ((decide (4294967296 ≤ d_7)) || (decide ((mU .u64 (IntKind.u64.wrap (rest_8 * 4294967296)) (IntKind.u64.wrap x_11)) < (IntKind.u64.wrap (d_7 * (IntKind.u64.wrap x_10)))))))] [0,2,3,5,10,11,12,70] [1,101] (s':=⟨[(0,_),(2,_),(3,_),(5,_),(10,_),(11,_),(12,_),(70,B ((decide (rest_8 < 4294967296)) && ((decide (4294967296 ≤ d_7)) || (decide ((mU .u64 (IntKind.u64.wrap (rest_8 * 4294967296)) (IntKind.u64.wrap x_11)) < (IntKind.u64.wrap (d_7 * (IntKind.u64.wrap x_10))))))))],[(1,_),(101,_)]⟩) rfl ⟨fun _=>.p om,fun _=>.p (bP rfl rfl),fun _=>.p om,fun _=>by exact .guard (decide (rest_8 < 4294967296)) 1 [] (.plain rfl) (jY _) rfl rfl (fun g11=>trivial) (fun g11=>om),fun _=>by exact .guard (decide (rest_8 < 4294967296)) 2 [46] (.plain rfl) (jY _) rfl rfl (fun g12=>⟨g12,trivial⟩) (fun g12=>gC rfl rfl),fun _=>by exact .guard (decide (rest_8 < 4294967296)) 3 [47] (.plain rfl) (jY _) rfl rfl (fun g13=>⟨g13,trivial⟩) (fun g13=>om),fun _=>by exact .guard ((decide (rest_8 < 4294967296)) && !(decide (4294967296 ≤ d_7))) 1 [] (.under rfl) (iC _ _) rfl rfl (fun g14=>trivial) (fun g14=>om),fun _=>by exact .guard ((decide (rest_8 < 4294967296)) && !(decide (4294967296 ≤ d_7))) 1 [] (.under rfl) (iC _ _) rfl rfl (fun g15=>trivial) (fun g15=>om),fun _=>by exact .guard ((decide (rest_8 < 4294967296)) && !(decide (4294967296 ≤ d_7))) 2 [50] (.under rfl) (iC _ _) rfl rfl (fun g16=>⟨g16,trivial⟩) (fun g16=>b7 rfl rfl),fun _=>by exact .guard ((decide (rest_8 < 4294967296)) && !(decide (4294967296 ≤ d_7))) 2 [51] (.under rfl) (iC _ _) rfl rfl (fun g17=>⟨g17,trivial⟩) (fun g17=>aM bF (bx (gc e18 g17)) (cC (gc e18 g17)) rfl rfl rfl),fun _=>by exact .guard ((decide (rest_8 < 4294967296)) && !(decide (4294967296 ≤ d_7))) 2 [52] (.under rfl) (iC _ _) rfl rfl (fun g19=>⟨g19,trivial⟩) (fun g19=>au bt rfl rfl (cF (post:=[]) (k:=.u32) [] (gc e18 g19) rfl rfl rfl)),fun _=>by exact .guard ((decide (rest_8 < 4294967296)) && !(decide (4294967296 ≤ d_7))) 2 [53] (.under rfl) (iC _ _) rfl rfl (fun g20=>⟨g20,trivial⟩) (fun g20=>aH bR bB rfl),fun _=>by exact .guard ((decide (rest_8 < 4294967296)) && !(decide (4294967296 ≤ d_7))) 3 [49,54] (.under rfl) (iC _ _) rfl rfl (fun g21=>⟨g21,g21,trivial⟩) (fun g21=>eP rfl rfl),fun _=>by exact .guard ((decide (rest_8 < 4294967296)) && !(decide (4294967296 ≤ d_7))) 1 [] (.under rfl) (iC _ _) rfl rfl (fun g22=>trivial) (fun g22=>om),fun _=>by exact .guard ((decide (rest_8 < 4294967296)) && !(decide (4294967296 ≤ d_7))) 2 [56] (.under rfl) (iC _ _) rfl rfl (fun g23=>⟨g23,trivial⟩) (fun g23=>oG (m:=32) (q:=4294967296) (by decide) rfl rfl (by decide)),fun _=>by exact .guard ((decide (rest_8 < 4294967296)) && !(decide (4294967296 ≤ d_7))) 1 [] (.under rfl) (iC _ _) rfl rfl (fun g24=>trivial) (fun g24=>om),fun _=>by exact .guard ((decide (rest_8 < 4294967296)) && !(decide (4294967296 ≤ d_7))) 1 [] (.under rfl) (iC _ _) rfl rfl (fun g25=>trivial) (fun g25=>om),fun _=>by exact .guard ((decide (rest_8 < 4294967296)) && !(decide (4294967296 ≤ d_7))) 1 [] (.under rfl) (iC _ _) rfl rfl (fun g26=>trivial) (fun g26=>om),fun _=>by exact .guard ((decide (rest_8 < 4294967296)) && !(decide (4294967296 ≤ d_7))) 3 [59,60] (.under rfl) (iC _ _) rfl rfl (fun g27=>⟨g27,g27,trivial⟩) (fun g27=>bg rfl rfl),fun _=>by exact .guard ((decide (rest_8 < 4294967296)) && !(decide (4294967296 ≤ d_7))) 2 [61] (.under rfl) (iC _ _) rfl rfl (fun g28=>⟨g28,trivial⟩) (fun g28=>b7 rfl rfl),fun _=>by exact .guard ((decide (rest_8 < 4294967296)) && !(decide (4294967296 ≤ d_7))) 2 [58] (.under rfl) (iC _ _) rfl rfl (fun g29=>⟨g29,trivial⟩) (fun g29=>aW rfl),fun _=>by exact .guard ((decide (rest_8 < 4294967296)) && !(decide (4294967296 ≤ d_7))) 3 [62,63] (.under rfl) (iC _ _) rfl rfl (fun g30=>⟨g30,g30,trivial⟩) (fun g30=>aM fZ (bx (gc e31 g30)) (cC (gc e31 g30)) rfl rfl rfl),fun _=>by exact .guard ((decide (rest_8 < 4294967296)) && !(decide (4294967296 ≤ d_7))) 2 [64] (.under rfl) (iC _ _) rfl rfl (fun g32=>⟨g32,trivial⟩) (fun g32=>au bt rfl rfl (cF (post:=[]) (k:=.u32) [] (gc e31 g32) rfl rfl rfl)),fun _=>by exact .guard ((decide (rest_8 < 4294967296)) && !(decide (4294967296 ≤ d_7))) 2 [65] (.under rfl) (iC _ _) rfl rfl (fun g33=>⟨g33,trivial⟩) (fun g33=>aH bR bB rfl),fun _=>by exact .guard ((decide (rest_8 < 4294967296)) && !(decide (4294967296 ≤ d_7))) 3 [57,66] (.under rfl) (iC _ _) rfl rfl (fun g34=>⟨g34,g34,trivial⟩) (fun g34=>uh rfl rfl),fun _=>by exact .guard ((decide (rest_8 < 4294967296)) && !(decide (4294967296 ≤ d_7))) 3 [55,67] (.under rfl) (iC _ _) rfl rfl (fun g35=>⟨g35,g35,trivial⟩) (fun g35=>fj rfl rfl),fun _=>by exact .guard (decide (rest_8 < 4294967296)) 3 [48] (.plain rfl) (jY _) rfl rfl (fun g36=>⟨g36,trivial⟩) (fun g36=>aQ (fun e=>by rw [g36,e]; rfl) rfl rfl rfl rfl),fun _=>.p (aG (fun e=>e) rfl rfl rfl rfl),trivial⟩ rfl rfl ?_
  refine ab.ite h9 rfl (fun _ h9=>?_) (fun _ h9=>?_)
  ·refine ab.skip (Fin.ag ⟨[(0,_),(2,_),(3,_),(5,_),(10,_),(11,_),(12,_)],[(1,_),(101,_)]⟩ rfl (Fin.then (ab.block (ab.seq (ab.aa ?_)))))
   refine Oc om (Oc (b7 rfl rfl) (Oc oa ?_))
   refine ae.an ⟨[(0,_),(2,_),(3,_),(5,_),(10,_),(11,.b (.one (.int .u64 (IntKind.u64.wrap (d_7 - 1))))),(12,_)],[(1,_),(101,_)]⟩ rfl (ab.aa (Oc om (Oc om ?_)))
   refine ae.cD .u64 h9 rfl (bg rfl rfl) (fun x_12 h9=>?_)
   refine Oc oa (ae.nil (Fin.aI ?_))
   exact Fin.b6 [0,2,3,5,10,11,12] [1,101] (IntKind.u64.wrap (d_7 - 1),x_12) (Option.some.inj h9) rfl
  ·refine ab.exit (Fin.aF ?_)
   obtain rfl:=hy10 _ (Option.some.inj h9).symm
   refine Fin.aF (Fin.aX ?_)
   exact Fin.join [11] [1] d_7 rfl rfl
 ·rintro d_6 hv
  subst v6
  refine ab.seq (ab.aa ?_)
  refine Oc om (Oc oa ?_)
  refine ae.an ⟨[(8,.b (.one (.int .u64 d_6)))],[(1,_)]⟩ rfl (ab.ret ?_)
  obtain rfl:=Option.some.inj h
  refine Fin.ag ⟨[(8,_)],[(1,_)]⟩ rfl ?_
  exact Fin.result [.one (.int .u64 d_6)] (.inl rfl) rfl (.cons (.tmp rfl) .nil) ⟨rfl,rfl⟩
def nT (F:Nat) (v0:aU) (n0:Int) (j0:Int) (d0:Int) (u0v:cQ):Option (Bool × cQ) :=
 Option.bind (iter F (un4 fun u_4 carry_5 borrow_6 x_7=>if (decide (x_7 < n0)) = true then ((bI v0.l x_7).bind fun x_11=>bN (IntKind.u64.wrap (d0 * (IntKind.u64.wrap x_11))) fun x_12=>(bI u_4.l (IntKind.i64.wrap (j0 + x_7))).bind fun x_13=>bN (IntKind.u32.wrap (IntKind.u64.wrap (carry_5 + x_12))) fun x_14=>bN (IntKind.u64.wrap ((IntKind.u64.wrap x_13) - (IntKind.u64.wrap x_14))) fun x_15=>bN (IntKind.u32.wrap (IntKind.u64.wrap (x_15 - borrow_6))) fun x_16=>(bI u_4.l (IntKind.i64.wrap (j0 + x_7))).bind fun x_17=>bN ((IntKind.u64.wrap (x_15 - borrow_6)) / 9223372036854775808) fun x_18=>bN ((IntKind.u64.wrap (carry_5 + x_12)) / 4294967296) fun x_19=>some (.inl (u_4.set (IntKind.i64.wrap (j0 + x_7)) x_16,x_19,x_18,IntKind.i64.wrap (x_7 + 1)))) else (some (.inr (u_4,carry_5,borrow_6)))) (u0v,0,0,0)) (ky fun u_1 carry_2 borrow_3=>(bI u_1.l (IntKind.i64.wrap (j0 + n0))).bind fun x_20=>bN (IntKind.u64.wrap ((IntKind.u64.wrap x_20) - carry_2)) fun x_21=>bN (IntKind.u32.wrap (IntKind.u64.wrap (x_21 - borrow_3))) fun x_22=>(bI u_1.l (IntKind.i64.wrap (j0 + n0))).bind fun x_23=>bN ((IntKind.u64.wrap (x_21 - borrow_3)) / 9223372036854775808) fun x_24=>some (decide (x_24 = 1),u_1.set (IntKind.i64.wrap (j0 + n0)) x_22))
theorem zu {F:Nat} {v0:aU} {n0:Int} {j0:Int} {d0:Int} {u0v:cQ} {r:Bool × cQ} (h:nT F v0 n0 j0 d0 u0v = some r):aA Tryz.prog (bd mx) 178 [(1,.box 186 ((jW .u32) u0v))] [.ptr 1 0,.agg (eW v0),.one (.i n0),.one (.i j0),.one (.int .u64 d0)] (Is [(1,.box 186 ((jW .u32) r.2))] (.b (.one (.bool r.1)))):=by
 unfold nT at h
 refine aA.intro 78 Tryz.func178 Tryz.ntmps178 rfl (by simp) fun E=>?_
 show ab _ E ⟨78,[1],[1]⟩ _ ⟨[(0,Pt 1 0),(1,.b (.agg (eW v0))),(2,I n0),(3,I j0),(4,.b (.one (.int .u64 d0)))],[(1,.box 186 ((jW .u32) u0v))]⟩ _
 refine ab.seq (ab.aa ?_)
 refine Oc (aL (k:=101) rfl rfl) (Oc oa ?_)
 refine ae.an ⟨[(0,Pt 1 0),(2,I n0),(3,I j0),(4,.b (.one (.int .u64 d0))),(6,Pt 101 0)],[(1,.box 186 ((jW .u32) u0v)),(101,.box 23 (eW v0))]⟩ rfl (ab.seq (ab.aa ?_))
 refine Oc oa (Oc oa ?_)
 refine ae.an ⟨[(0,_),(2,_),(3,_),(4,_),(6,_),(11,.b (.one (.int .u64 0))),(12,.b (.one (.int .u64 0)))],[(1,_),(101,_)]⟩ rfl ?_
 obtain ⟨v1,h2,h⟩:=aD h
 refine ab.cB (v:=v1) (ky fun (u_1:cQ) (carry_2:Int) (borrow_3:Int)=>⟨[(0,Pt 1 0),(2,I n0),(3,I j0),(11,.b (.one (.int .u64 carry_2))),(12,.b (.one (.int .u64 borrow_3)))],[(1,.box 186 ((jW .u32) u_1))]⟩) (fun z=>z) ?_ ?_
 ·refine ab.seq (ab.aa ?_)
  refine Oc om (Oc om ?_)
  refine ae.an ⟨[(0,_),(2,_),(3,_),(4,_),(6,_),(11,_),(12,_),(16,I n0),(17,I 0)],[(1,_),(101,_)]⟩ rfl (ab.block (ab.cW h2 (un4 fun (u_4:cQ) (carry_5:Int) (borrow_6:Int) (x_7:Int)=>⟨[(0,Pt 1 0),(2,I n0),(3,I j0),(4,.b (.one (.int .u64 d0))),(6,Pt 101 0),(11,.b (.one (.int .u64 carry_5))),(12,.b (.one (.int .u64 borrow_6))),(16,I n0),(17,I x_7)],[(1,.box 186 ((jW .u32) u_4)),(101,.box 23 (eW v0))]⟩) [0,2,3,4,6,11,12,16,17] [1,101] rfl ?_))
  rintro ⟨u_4,carry_5,borrow_6,x_7⟩ o3 h4 hy5
  refine ab.seq (ab.aa ?_)
  refine Oc (bP rfl rfl) (ae.an ⟨[(0,_),(2,_),(3,_),(4,_),(6,_),(11,_),(12,_),(16,_),(17,_),(18,B (decide (x_7 < n0)))],[(1,_),(101,_)]⟩ rfl (ab.seq (ab.ite h4 rfl (fun _ h4=>?_) (fun _ h4=>?_))))
  ·refine ab.skip (Fin.ag ⟨[(0,_),(2,_),(3,_),(4,_),(6,_),(11,_),(12,_),(16,_),(17,_)],[(1,_),(101,_)]⟩ rfl (Fin.then (ab.seq (ab.block (ab.seq (ab.aa ?_))))))
   refine Oc om (Oc oa ?_)
   refine ae.an ⟨[(0,_),(2,_),(3,_),(4,_),(6,_),(11,_),(12,_),(13,I x_7),(16,_),(17,_)],[(1,_),(101,_)]⟩ rfl (ab.seq (ab.aa ?_))
   refine Oc om (Oc om (Oc om ?_))
   obtain ⟨x_11,e6,h4⟩:=aD h4
   refine Oc (aM bF (bx e6) (cC e6) rfl rfl rfl) (Oc (au bt rfl rfl (cF (post:=[]) (k:=.u32) [] e6 rfl rfl rfl)) (Oc (aH bR bB rfl) ?_))
   refine ae.cD .u64 h4 rfl (eP rfl rfl) (fun x_12 h4=>?_)
   refine Oc (bg rfl rfl) (Oc oa ?_)
   refine ae.an ⟨[(0,_),(2,_),(3,_),(4,_),(6,_),(11,.b (.one (.int .u64 (IntKind.u64.wrap (carry_5 + x_12))))),(12,_),(13,_),(16,_),(17,_)],[(1,_),(101,_)]⟩ rfl (ab.seq (ab.aa ?_))
   refine Oc om (Oc om (Oc om (Oc (bg rfl rfl) (Oc (aW rfl) ?_))))
   obtain ⟨x_13,e7,h4⟩:=aD h4
   refine Oc (aM fZ (bx e7) (cC e7) rfl rfl rfl) (Oc (au bt rfl rfl (cF (post:=[]) (k:=.u32) [] e7 rfl rfl rfl)) ?_)
   refine ae.ag ⟨[(0,_),(2,_),(3,_),(4,_),(6,_),(11,_),(12,_),(13,_),(16,_),(17,_),(34,.b (.one (.int .u32 x_13)))],[(1,_),(101,_)]⟩ rfl (Oc (aH bR bB rfl) (Oc om ?_))
   refine ae.cD .u32 h4 rfl (aH bB bR rfl) (fun x_14 h4=>?_)
   refine Oc (aH bR bB rfl) (ae.cD .u64 h4 rfl (b7 rfl rfl) (fun x_15 h4=>?_))
   refine Oc om (Oc (b7 rfl rfl) (Oc oa ?_))
   refine ae.an ⟨[(0,_),(2,_),(3,_),(4,_),(6,_),(11,_),(13,_),(14,.b (.one (.int .u64 (IntKind.u64.wrap (x_15 - borrow_6))))),(16,_),(17,_)],[(1,_),(101,_)]⟩ rfl (ab.seq (ab.aa ?_))
   refine Oc om (Oc om (Oc om (Oc (bg rfl rfl) (Oc om ?_))))
   refine ae.cD .u32 h4 rfl (aH bB bR rfl) (fun x_16 h4=>?_)
   refine Oc (aW rfl) ?_
   obtain ⟨x_17,e8,h4⟩:=aD h4
   refine Oc (aM fZ (bx e8) (cC e8) rfl rfl rfl) (Oc (cc bt rfl rfl rfl (j4 (post:=[]) (k:=.u32) [] e8 rfl rfl rfl) (iD (post:=[]) (k:=.u32) [] e8 rfl rfl (cQ.jh u_4 (IntKind.i64.wrap (j0 + x_7)) x_16) rfl rfl)) ?_)
   refine ae.an ⟨[(0,_),(2,_),(3,_),(4,_),(6,_),(11,_),(14,_),(16,_),(17,_)],[(1,.box 186 ((jW .u32) (u_4.set (IntKind.i64.wrap (j0 + x_7)) x_16))),(101,_)]⟩ rfl (ab.seq (ab.aa ?_))
   refine Oc om (ae.cD .u64 h4 rfl (jt (m:=63) (by decide) rfl rfl rfl) (fun x_18 h4=>?_))
   refine Oc oa (ae.an ⟨[(0,_),(2,_),(3,_),(4,_),(6,_),(11,_),(12,.b (.one (.int .u64 x_18))),(16,_),(17,_)],[(1,_),(101,_)]⟩ rfl (ab.aa (Oc om (ae.cD .u64 h4 rfl (jt (m:=32) (by decide) rfl rfl rfl) (fun x_19 h4=>?_)))))
   refine Oc oa (ae.nil (Fin.aI (Fin.ag ⟨[(0,_),(2,_),(3,_),(4,_),(6,_),(11,.b (.one (.int .u64 x_19))),(12,_),(16,_),(17,_)],[(1,_),(101,_)]⟩ rfl (Fin.then (ab.aa ?_)))))
   refine Oc (bg rfl rfl) (Oc om ?_)
   refine ae.nil ?_
   exact Fin.b6 [0,2,3,4,6,11,12,16,17] [1,101] (u_4.set (IntKind.i64.wrap (j0 + x_7)) x_16,x_19,x_18,IntKind.i64.wrap (x_7 + 1)) (Option.some.inj h4) rfl
  ·refine ab.exit (Fin.aF ?_)
   obtain rfl:=hy5 _ (Option.some.inj h4).symm
   refine Fin.aF (Fin.aX ?_)
   exact Fin.join [0,2,3,11,12] [1] (u_4,carry_5,borrow_6) rfl rfl
 ·rintro ⟨u_1,carry_2,borrow_3⟩ hv
  subst v1
  refine ab.seq (ab.aa ?_)
  refine Oc om (Oc om (Oc om (Oc (bg rfl rfl) (Oc (aW rfl) ?_))))
  obtain ⟨x_20,e9,h⟩:=aD h
  refine Oc (aM fZ (bx e9) (cC e9) rfl rfl rfl) (Oc (au bt rfl rfl (cF (post:=[]) (k:=.u32) [] e9 rfl rfl rfl)) ?_)
  refine ae.ag ⟨[(0,_),(2,_),(3,_),(11,_),(12,_),(61,.b (.one (.int .u32 x_20)))],[(1,_)]⟩ rfl (Oc (aH bR bB rfl) (Oc om ?_))
  refine ae.cD .u64 h rfl (b7 rfl rfl) (fun x_21 h=>?_)
  refine Oc om (Oc (b7 rfl rfl) (Oc oa ?_))
  refine ae.an ⟨[(0,_),(2,_),(3,_),(15,.b (.one (.int .u64 (IntKind.u64.wrap (x_21 - borrow_3)))))],[(1,_)]⟩ rfl (ab.seq (ab.aa ?_))
  refine Oc om (Oc om (Oc om (Oc (bg rfl rfl) (Oc om ?_))))
  refine ae.cD .u32 h rfl (aH bB bR rfl) (fun x_22 h=>?_)
  refine Oc (aW rfl) ?_
  obtain ⟨x_23,e10,h⟩:=aD h
  refine Oc (aM fZ (bx e10) (cC e10) rfl rfl rfl) (Oc (cc bt rfl rfl rfl (j4 (post:=[]) (k:=.u32) [] e10 rfl rfl rfl) (iD (post:=[]) (k:=.u32) [] e10 rfl rfl (cQ.jh u_1 (IntKind.i64.wrap (j0 + n0)) x_22) rfl rfl)) ?_)
  refine ae.an ⟨[(15,_)],[(1,.box 186 ((jW .u32) (u_1.set (IntKind.i64.wrap (j0 + n0)) x_22)))]⟩ rfl (ab.seq (ab.aa ?_))
  refine Oc om (ae.cD .u64 h rfl (jt (m:=63) (by decide) rfl rfl rfl) (fun x_24 h=>?_))
  refine Oc (cR rfl rfl) (Oc oa ?_)
  refine ae.an ⟨[(10,B (decide (x_24 = 1)))],[(1,_)]⟩ rfl (ab.ret ?_)
  obtain rfl:=Option.some.inj h
  refine Fin.ag ⟨[(10,_)],[(1,_)]⟩ rfl ?_
  exact Fin.result [.one (.bool (decide (x_24 = 1)))] (.inl rfl) rfl (.cons (.tmp rfl) .nil) ⟨rfl,rfl⟩
def nU (F:Nat) (v0:aU) (n0:Int) (j0:Int) (u0v:cQ):Option cQ :=
 Option.bind (iter F (ky fun u_3 carry_4 x_5=>if (decide (x_5 < n0)) = true then ((bI u_3.l (IntKind.i64.wrap (j0 + x_5))).bind fun x_8=>(bI v0.l x_5).bind fun x_9=>bN (IntKind.u64.wrap (carry_4 + (IntKind.u64.wrap ((IntKind.u64.wrap x_8) + (IntKind.u64.wrap x_9))))) fun x_10=>(bI u_3.l (IntKind.i64.wrap (j0 + x_5))).bind fun x_11=>bN (IntKind.u64.wrap (carry_4 + (IntKind.u64.wrap ((IntKind.u64.wrap x_8) + (IntKind.u64.wrap x_9))))) fun x_12=>some (.inl (u_3.set (IntKind.i64.wrap (j0 + x_5)) (IntKind.u32.wrap x_10),x_12 / 4294967296,IntKind.i64.wrap (x_5 + 1)))) else (some (.inr (u_3,carry_4)))) (u0v,0,0)) (b9 fun u_1 carry_2=>(bI u_1.l (IntKind.i64.wrap (j0 + n0))).bind fun x_13=>(bI u_1.l (IntKind.i64.wrap (j0 + n0))).bind fun x_14=>some (u_1.set (IntKind.i64.wrap (j0 + n0)) (IntKind.u32.wrap (x_13 + (IntKind.u32.wrap carry_2)))))
theorem zw {F:Nat} {v0:aU} {n0:Int} {j0:Int} {u0v:cQ} {r:cQ} (h:nU F v0 n0 j0 u0v = some r):aA Tryz.prog (bd mx) 179 [(1,.box 186 ((jW .u32) u0v))] [.ptr 1 0,.agg (eW v0),.one (.i n0),.one (.i j0)] (Is [(1,.box 186 ((jW .u32) r))] (.eY [])):=by
 unfold nU at h
 refine aA.intro 52 Tryz.func179 Tryz.ntmps179 rfl (by simp) fun E=>?_
 show ab _ E ⟨52,[1],[1]⟩ _ ⟨[(0,Pt 1 0),(1,.b (.agg (eW v0))),(2,I n0),(3,I j0)],[(1,.box 186 ((jW .u32) u0v))]⟩ _
 refine ab.seq (ab.aa ?_)
 refine Oc (aL (k:=101) rfl rfl) (ae.an ⟨[(0,Pt 1 0),(2,I n0),(3,I j0),(5,Pt 101 0)],[(1,.box 186 ((jW .u32) u0v)),(101,.box 23 (eW v0))]⟩ rfl (ab.seq (ab.aa ?_)))
 refine Oc oa (ae.an ⟨[(0,_),(2,_),(3,_),(5,_),(8,.b (.one (.int .u64 0)))],[(1,_),(101,_)]⟩ rfl ?_)
 obtain ⟨v1,h2,h⟩:=aD h
 refine ab.cB (v:=v1) (b9 fun (u_1:cQ) (carry_2:Int)=>⟨[(0,Pt 1 0),(2,I n0),(3,I j0),(8,.b (.one (.int .u64 carry_2)))],[(1,.box 186 ((jW .u32) u_1))]⟩) (fun z=>z) ?_ ?_
 ·refine ab.seq (ab.aa ?_)
  refine Oc om (Oc om ?_)
  refine ae.an ⟨[(0,_),(2,_),(3,_),(5,_),(8,_),(10,I n0),(11,I 0)],[(1,_),(101,_)]⟩ rfl (ab.block (ab.cW h2 (ky fun (u_3:cQ) (carry_4:Int) (x_5:Int)=>⟨[(0,Pt 1 0),(2,I n0),(3,I j0),(5,Pt 101 0),(8,.b (.one (.int .u64 carry_4))),(10,I n0),(11,I x_5)],[(1,.box 186 ((jW .u32) u_3)),(101,.box 23 (eW v0))]⟩) [0,2,3,5,8,10,11] [1,101] rfl ?_))
  rintro ⟨u_3,carry_4,x_5⟩ o3 h4 hy5
  refine ab.seq (ab.aa ?_)
  refine Oc (bP rfl rfl) (ae.an ⟨[(0,_),(2,_),(3,_),(5,_),(8,_),(10,_),(11,_),(12,B (decide (x_5 < n0)))],[(1,_),(101,_)]⟩ rfl (ab.seq (ab.ite h4 rfl (fun _ h4=>?_) (fun _ h4=>?_))))
  ·refine ab.skip (Fin.ag ⟨[(0,_),(2,_),(3,_),(5,_),(8,_),(10,_),(11,_)],[(1,_),(101,_)]⟩ rfl (Fin.then (ab.seq (ab.block (ab.seq (ab.aa ?_))))))
   refine Oc om (Oc oa ?_)
   refine ae.an ⟨[(0,_),(2,_),(3,_),(5,_),(8,_),(9,I x_5),(10,_),(11,_)],[(1,_),(101,_)]⟩ rfl (ab.seq ?_)
   obtain ⟨x_8,e6,h4⟩:=aD h4
   obtain ⟨x_9,e7,h4⟩:=aD h4
   refine ab.bm mixed 15 [.b (.one (.int .u64 carry_4)),Pt 1 0,I j0,I x_5,I (IntKind.i64.wrap (j0 + x_5)),Pt 1 0,.b (.ptr 1 (0 + (IntKind.i64.wrap (j0 + x_5):Int).toNat * 1)),.b (.one (.int .u32 x_8)),.b (.one (.int .u64 (IntKind.u64.wrap x_8))),I x_5,.b (.ptr 101 (0 + (x_5:Int).toNat * 1)),.b (.one (.int .u32 x_9)),.b (.one (.int .u64 (IntKind.u64.wrap x_9))),.b (.one (.int .u64 (IntKind.u64.wrap ((IntKind.u64.wrap x_8) + (IntKind.u64.wrap x_9))))),.b (.one (.int .u64 (IntKind.u64.wrap (carry_4 + (IntKind.u64.wrap ((IntKind.u64.wrap x_8) + (IntKind.u64.wrap x_9)))))))] [0,2,3,5,8,9,10,11] [1,101] (s':=⟨[(0,_),(2,_),(3,_),(5,_),(8,.b (.one (.int .u64 (IntKind.u64.wrap (carry_4 + (IntKind.u64.wrap ((IntKind.u64.wrap x_8) + (IntKind.u64.wrap x_9)))))))),(9,_),(10,_),(11,_)],[(1,_),(101,_)]⟩) rfl ⟨fun _=>.p om,fun _=>.p om,fun _=>.p om,fun _=>.p om,fun _=>.p (bg rfl rfl),fun _=>.p (aW rfl),fun _=>.p (aM fZ (bx e6) (cC e6) rfl rfl rfl),fun _=>.p (au bt rfl rfl (cF (post:=[]) (k:=.u32) [] e6 rfl rfl rfl)),fun _=>.p (aH bR bB rfl),fun _=>.p om,fun _=>.p (aM bF (bx e7) (cC e7) rfl rfl rfl),fun _=>.p (au bt rfl rfl (cF (post:=[]) (k:=.u32) [] e7 rfl rfl rfl)),fun _=>.p (aH bR bB rfl),fun _=>.p (bg rfl rfl),fun _=>.p (bg rfl rfl),trivial⟩ ⟨_,by exact .p oa,rfl⟩ rfl (ab.seq (ab.aa ?_))
   refine Oc om (Oc om (Oc om (Oc (bg rfl rfl) ?_)))
   refine ae.cD .u64 h4 rfl om (fun x_10 h4=>?_)
   refine Oc (aH bB bR rfl) (Oc (aW rfl) ?_)
   obtain ⟨x_11,e8,h4⟩:=aD h4
   refine Oc (aM fZ (bx e8) (cC e8) rfl rfl rfl) (Oc (cc bt rfl rfl rfl (j4 (post:=[]) (k:=.u32) [] e8 rfl rfl rfl) (iD (post:=[]) (k:=.u32) [] e8 rfl rfl (cQ.jh u_3 (IntKind.i64.wrap (j0 + x_5)) (IntKind.u32.wrap x_10)) rfl rfl)) ?_)
   refine ae.an ⟨[(0,_),(2,_),(3,_),(5,_),(8,_),(10,_),(11,_)],[(1,.box 186 ((jW .u32) (u_3.set (IntKind.i64.wrap (j0 + x_5)) (IntKind.u32.wrap x_10)))),(101,_)]⟩ rfl (ab.aa (ae.cD .u64 h4 rfl om (fun x_12 h4=>?_)))
   refine Oc (jt (m:=32) (by decide) rfl rfl rfl) (Oc oa ?_)
   refine ae.nil (Fin.aI (Fin.ag ⟨[(0,_),(2,_),(3,_),(5,_),(8,.b (.one (.int .u64 (x_12 / 4294967296)))),(10,_),(11,_)],[(1,_),(101,_)]⟩ rfl (Fin.then (ab.aa ?_))))
   refine Oc (bg rfl rfl) (Oc om ?_)
   refine ae.nil ?_
   exact Fin.b6 [0,2,3,5,8,10,11] [1,101] (u_3.set (IntKind.i64.wrap (j0 + x_5)) (IntKind.u32.wrap x_10),x_12 / 4294967296,IntKind.i64.wrap (x_5 + 1)) (Option.some.inj h4) rfl
  ·refine ab.exit (Fin.aF ?_)
   obtain rfl:=hy5 _ (Option.some.inj h4).symm
   refine Fin.aF (Fin.aX ?_)
   exact Fin.join [0,2,3,8] [1] (u_3,carry_4) rfl rfl
 ·rintro ⟨u_1,carry_2⟩ hv
  subst v1
  refine ab.ag ⟨[(0,_),(2,_),(3,_),(8,_)],[(1,_)]⟩ rfl ?_
  obtain ⟨x_13,e9,h⟩:=aD h
  obtain ⟨x_14,e10,h⟩:=aD h
  refine ab.hS mixed 12 [Pt 1 0,I j0,I n0,I (IntKind.i64.wrap (j0 + n0)),Pt 1 0,.b (.ptr 1 (0 + (IntKind.i64.wrap (j0 + n0):Int).toNat * 1)),.b (.one (.int .u32 x_13)),.b (.one (.int .u64 carry_2)),.b (.one (.int .u32 (IntKind.u32.wrap carry_2))),.b (.one (.int .u32 (IntKind.u32.wrap (x_13 + (IntKind.u32.wrap carry_2))))),Pt 1 0,.b (.ptr 1 (0 + (IntKind.i64.wrap (j0 + n0):Int).toNat * 1))] [] [1] (s':=⟨[],[(1,.box 186 ((jW .u32) (u_1.set (IntKind.i64.wrap (j0 + n0)) (IntKind.u32.wrap (x_13 + (IntKind.u32.wrap carry_2))))))]⟩) rfl ⟨fun _=>.p om,fun _=>.p om,fun _=>.p om,fun _=>.p (bg rfl rfl),fun _=>.p (aW rfl),fun _=>.p (aM fZ (bx e9) (cC e9) rfl rfl rfl),fun _=>.p (au bt rfl rfl (cF (post:=[]) (k:=.u32) [] e9 rfl rfl rfl)),fun _=>.p om,fun _=>.p (aH bB bR rfl),fun _=>.p (bg rfl rfl),fun _=>.p (aW rfl),fun _=>.p (aM fZ (bx e10) (cC e10) rfl rfl rfl),trivial⟩ ⟨_,by exact .p (cc bt rfl rfl rfl (j4 (post:=[]) (k:=.u32) [] e10 rfl rfl rfl) (iD (post:=[]) (k:=.u32) [] e10 rfl rfl (cQ.jh u_1 (IntKind.i64.wrap (j0 + n0)) (IntKind.u32.wrap (x_13 + (IntKind.u32.wrap carry_2)))) rfl rfl)),rfl⟩ rfl ?_
  obtain rfl:=Option.some.inj h
  refine Fin.ag ⟨[],[(1,_)]⟩ rfl ?_
  exact Fin.result [] (.inr rfl) rfl (.nil) ⟨rfl,rfl⟩
def nV (F:Nat) (w0:aU) (n0:Int):Option aU :=
 Option.bind (iter F (b9 fun out_2 x_3=>if (decide (x_3 < 16)) = true then (Option.bind (Option.bind (if (decide ((IntKind.i64.wrap (x_3 + 1)) < 16)) = true then ((bI w0.l (IntKind.i64.wrap (x_3 + 1))).bind fun x_7=>some (IntKind.u64.wrap x_7)) else (some 0)) (fun next_6=>bN (IntKind.u64.wrap (next_6 * 4294967296)) fun x_8=>(bI w0.l x_3).bind fun x_9=>Option.bind (Cv .u64 (mU .u64 x_8 (IntKind.u64.wrap x_9)) n0) (fun x_10=>(bI out_2.l x_3).bind fun x_11=>some (out_2.set x_3 (IntKind.u32.wrap x_10))))) (fun out_5=>some (.inl (out_5,IntKind.i64.wrap (x_3 + 1))))) else (some (.inr out_2))) (aU.zero,0)) (fun out_1=>some out_1)
theorem zx {F:Nat} {w0:aU} {n0:Int} {r:aU} (h:nV F w0 n0 = some r):aA Tryz.prog (bd mx) 180 [] [.agg (eW w0),.one (.i n0)] (Is [] (.b (.agg (eW r)))):=by
 unfold nV at h
 refine aA.intro 33 Tryz.func180 Tryz.ntmps180 rfl (by simp) fun E=>?_
 show ab _ E ⟨33,[],[]⟩ _ ⟨[(0,.b (.agg (eW w0))),(1,I n0)],[]⟩ _
 refine ab.seq (ab.aa ?_)
 refine Oc (aL (k:=101) rfl rfl) (Oc (aB (k:=102) cS rfl) ?_)
 refine ae.an ⟨[(1,I n0),(2,Pt 101 0),(4,Pt 102 0)],[(101,.box 23 (eW w0)),(102,.box 23 (eW aU.zero))]⟩ rfl (ab.seq (ab.aa ?_))
 refine Oc (aB (k:=103) cS rfl) (ae.an ⟨[(1,_),(2,_),(4,_),(5,Pt 103 0)],[(101,_),(102,_),(103,.box 23 (eW aU.zero))]⟩ rfl ?_)
 obtain ⟨v1,h2,h⟩:=aD h
 refine ab.cB (v:=v1) (fun (out_1:aU)=>⟨[(4,Pt 102 0),(5,Pt 103 0)],[(102,.box 23 (eW aU.zero)),(103,.box 23 (eW out_1))]⟩) (fun z=>z) ?_ ?_
 ·refine ab.seq (ab.aa ?_)
  refine Oc om (ae.an ⟨[(1,_),(2,_),(4,_),(5,_),(8,I 0)],[(101,_),(102,_),(103,_)]⟩ rfl (ab.block (ab.cW h2 (b9 fun (out_2:aU) (x_3:Int)=>⟨[(1,I n0),(2,Pt 101 0),(4,Pt 102 0),(5,Pt 103 0),(8,I x_3)],[(101,.box 23 (eW w0)),(102,.box 23 (eW aU.zero)),(103,.box 23 (eW out_2))]⟩) [1,2,4,5,8] [101,102,103] rfl ?_)))
  rintro ⟨out_2,x_3⟩ o3 h4 hy5
  refine ab.seq (ab.aa ?_)
  refine Oc (bP rfl rfl) (ae.an ⟨[(1,_),(2,_),(4,_),(5,_),(8,_),(9,B (decide (x_3 < 16)))],[(101,_),(102,_),(103,_)]⟩ rfl (ab.seq (ab.ite h4 rfl (fun _ h4=>?_) (fun _ h4=>?_))))
  ·refine ab.skip (Fin.ag ⟨[(1,_),(2,_),(4,_),(5,_),(8,_)],[(101,_),(102,_),(103,_)]⟩ rfl (Fin.then ?_))
   obtain ⟨v6,h7,h4⟩:=aD h4
   refine ab.cB (v:=v6) (fun (out_5:aU)=>⟨[(1,I n0),(2,Pt 101 0),(4,Pt 102 0),(5,Pt 103 0),(8,I x_3)],[(101,.box 23 (eW w0)),(102,.box 23 (eW aU.zero)),(103,.box 23 (eW out_5))]⟩) (fun z=>z) ?_ ?_
   ·refine ab.block (ab.seq (ab.aa ?_))
    refine Oc om (Oc oa ?_)
    refine ae.an ⟨[(1,_),(2,_),(4,_),(5,_),(6,I x_3),(8,_)],[(101,_),(102,_),(103,_)]⟩ rfl (ab.seq (ab.aa ?_))
    refine Oc oa (ae.an ⟨[(1,_),(2,_),(4,_),(5,_),(6,_),(7,.b (.one (.int .u64 0))),(8,_)],[(101,_),(102,_),(103,_)]⟩ rfl ?_)
    obtain ⟨v8,h9,h7⟩:=aD h7
    refine ab.cB (v:=v8) (fun (next_6:Int)=>⟨[(1,I n0),(2,Pt 101 0),(4,Pt 102 0),(5,Pt 103 0),(6,I x_3),(7,.b (.one (.int .u64 next_6))),(8,I x_3)],[(101,.box 23 (eW w0)),(102,.box 23 (eW aU.zero)),(103,.box 23 (eW out_2))]⟩) (fun z=>z) ?_ ?_
    ·refine ab.seq (ab.aa ?_)
     refine Oc om (Oc (bg rfl rfl) (Oc (bP rfl rfl) ?_))
     refine ae.an ⟨[(1,_),(2,_),(4,_),(5,_),(6,_),(7,_),(8,_),(13,B (decide ((IntKind.i64.wrap (x_3 + 1)) < 16)))],[(101,_),(102,_),(103,_)]⟩ rfl (ab.ite h9 rfl (fun _ h9=>?_) (fun _ h9=>?_))
     ·refine ab.aa (Oc om (Oc (bg rfl rfl) ?_))
      obtain ⟨x_7,e10,h9⟩:=aD h9
      refine Oc (aM bF (bx e10) (cC e10) rfl rfl rfl) (Oc (au bt rfl rfl (cF (post:=[]) (k:=.u32) [] e10 rfl rfl rfl)) (Oc (aH bR bB rfl) (Oc oa ?_)))
      refine ae.nil ?_
      exact Fin.join [1,2,4,5,6,7,8] [101,102,103] (IntKind.u64.wrap x_7) (Option.some.inj h9) rfl
     ·refine ab.skip ?_
      exact Fin.join [1,2,4,5,6,7,8] [101,102,103] 0 (Option.some.inj h9) rfl
    ·rintro next_6 hv
     subst v8
     refine ab.aa (Oc om (Oc om ?_))
     refine ae.cD .u64 h7 rfl (oG (m:=32) (q:=4294967296) (by decide) rfl rfl (by decide)) (fun x_8 h7=>?_)
     refine Oc om ?_
     obtain ⟨x_9,e11,h7⟩:=aD h7
     refine Oc (aM bF (bx e11) (cC e11) rfl rfl rfl) (Oc (au bt rfl rfl (cF (post:=[]) (k:=.u32) [] e11 rfl rfl rfl)) (Oc (aH bR bB rfl) ?_))
     refine ae.ag ⟨[(1,_),(2,_),(4,_),(5,_),(8,_),(19,I x_3),(21,.b (.one (.int .u64 x_8))),(25,.b (.one (.int .u64 (IntKind.u64.wrap x_9))))],[(101,_),(102,_),(103,_)]⟩ rfl (Oc (uh rfl rfl) (Oc om ?_))
     obtain ⟨x_10,e12,h7⟩:=aD h7
     refine Oc (op_shr3 e12 rfl rfl) (Oc (aH bB bR rfl) ?_)
     obtain ⟨x_11,e13,h7⟩:=aD h7
     refine Oc (aM bF (bx e13) (cC e13) rfl rfl rfl) (Oc (cc bt rfl rfl rfl (j4 (post:=[]) (k:=.u32) [] e13 rfl rfl rfl) (iD (post:=[]) (k:=.u32) [] e13 rfl rfl (aU.jh out_2 x_3 (IntKind.u32.wrap x_10)) rfl rfl)) ?_)
     refine ae.nil (Fin.aI ?_)
     exact Fin.join [1,2,4,5,8] [101,102,103] (out_2.set x_3 (IntKind.u32.wrap x_10)) (Option.some.inj h7) rfl
   ·rintro out_5 hv
    subst v6
    refine ab.aa (Oc (bg rfl rfl) (Oc om ?_))
    refine ae.nil ?_
    exact Fin.b6 [1,2,4,5,8] [101,102,103] (out_5,IntKind.i64.wrap (x_3 + 1)) (Option.some.inj h4) rfl
  ·refine ab.exit (Fin.aF ?_)
   obtain rfl:=hy5 _ (Option.some.inj h4).symm
   refine Fin.aF (Fin.aX ?_)
   exact Fin.join [4,5] [102,103] out_2 rfl rfl
 ·rintro out_1 hv
  subst v1
  refine ab.seq (ab.aa ?_)
  refine Oc (lp aN) (Oc (ah aN rfl rfl rfl rfl (Nat.le_of_ble_eq_true rfl) rfl) ?_)
  refine ae.an ⟨[(4,_)],[(102,.box 23 (eW out_1))]⟩ rfl (ab.ret ?_)
  obtain rfl:=Option.some.inj h
  refine Fin.ag ⟨[(4,_)],[(102,_)]⟩ rfl (Fin.aq [.agg (eW out_1)] (.inl rfl) rfl (.cons (.agg aN rfl rfl rfl rfl) .nil) ⟨rfl,rfl⟩)
def iW (F:Nat) (a0:aU) (b0:aU):Option (aU × aU) :=
 (iI F b0).bind fun x_1=>(iI F a0).bind fun x_2=>(jJ F a0 b0).bind fun x_3=>if (decide (x_3 < 0)) = true then (some (aU.zero,a0)) else (if (decide (x_1 = 1)) = true then (Option.bind (lW F a0 b0.a0) (b9 fun x_4 x_5=>bN (⟨x_5,0,0,0,0,0,0,0,0,0,0,0,0,0,0,0⟩:aU) fun x_6=>some (x_4,x_6))) else ((bI b0.l (IntKind.i64.wrap (x_1 - 1))).bind fun x_7=>(eD F x_7).bind fun x_8=>Option.bind (tE F b0 x_8) (b9 fun x_9 x_10=>Option.bind (tE F a0 x_8) (b9 fun x_11 x_12=>Option.bind (iter F (ky fun q_15 u_16 j_17=>if (decide (0 ≤ j_17)) = true then (Option.bind ((lX F x_9 x_1 j_17 u_16).bind fun x_22=>Option.bind (Option.bind (nT F x_9 x_1 j_17 x_22 u_16) (b9 fun x_25 x_26=>if x_25 = true then ((nU F x_9 x_1 j_17 x_26).bind fun x_27=>some (x_27,IntKind.u64.wrap (x_22 - 1))) else (some (x_26,x_22)))) (b9 fun u_23 d_24=>(bI q_15.l j_17).bind fun x_28=>some (q_15.set j_17 (IntKind.u32.wrap d_24),u_23))) (b9 fun q_20 u_21=>some (.inl (q_20,u_21,IntKind.i64.wrap (j_17 - 1))))) else (some (.inr (q_15,u_16)))) (aU.zero,(⟨(cQ.of (cq cQ.zero.l 0 ((x_11.l.drop 0).take 16))).a0,(cQ.of (cq cQ.zero.l 0 ((x_11.l.drop 0).take 16))).a1,(cQ.of (cq cQ.zero.l 0 ((x_11.l.drop 0).take 16))).a2,(cQ.of (cq cQ.zero.l 0 ((x_11.l.drop 0).take 16))).a3,(cQ.of (cq cQ.zero.l 0 ((x_11.l.drop 0).take 16))).a4,(cQ.of (cq cQ.zero.l 0 ((x_11.l.drop 0).take 16))).a5,(cQ.of (cq cQ.zero.l 0 ((x_11.l.drop 0).take 16))).a6,(cQ.of (cq cQ.zero.l 0 ((x_11.l.drop 0).take 16))).a7,(cQ.of (cq cQ.zero.l 0 ((x_11.l.drop 0).take 16))).a8,(cQ.of (cq cQ.zero.l 0 ((x_11.l.drop 0).take 16))).a9,(cQ.of (cq cQ.zero.l 0 ((x_11.l.drop 0).take 16))).a10,(cQ.of (cq cQ.zero.l 0 ((x_11.l.drop 0).take 16))).a11,(cQ.of (cq cQ.zero.l 0 ((x_11.l.drop 0).take 16))).a12,(cQ.of (cq cQ.zero.l 0 ((x_11.l.drop 0).take 16))).a13,(cQ.of (cq cQ.zero.l 0 ((x_11.l.drop 0).take 16))).a14,(cQ.of (cq cQ.zero.l 0 ((x_11.l.drop 0).take 16))).a15,x_12⟩:cQ),IntKind.i64.wrap (x_2 - x_1))) (b9 fun q_13 u_14=>(nV F (⟨u_14.a0,u_14.a1,u_14.a2,u_14.a3,u_14.a4,u_14.a5,u_14.a6,u_14.a7,u_14.a8,u_14.a9,u_14.a10,u_14.a11,u_14.a12,u_14.a13,u_14.a14,u_14.a15⟩:aU) x_8).bind fun x_29=>some (q_13,x_29))))))
theorem pG {F:Nat} {a0:aU} {b0:aU} {r:aU × aU} (h:iW F a0 b0 = some r):aA Tryz.prog (bd mx) 138 [] [.agg (eW a0),.agg (eW b0)] (Is [] (.eY [.agg (eW r.1),.agg (eW r.2)])):=by
 unfold iW at h
 refine aA.intro 94 Tryz.func138 Tryz.ntmps138 rfl (by simp) fun E=>?_
 show ab _ E ⟨94,[],[]⟩ _ ⟨[(0,.b (.agg (eW a0))),(1,.b (.agg (eW b0)))],[]⟩ _
 refine ab.seq (ab.aa ?_)
 refine Oc (aL (k:=101) rfl rfl) (Oc (aL (k:=102) rfl rfl) (Oc (aB (k:=103) cS rfl) (Oc (aB (k:=104) cS rfl) ?_)))
 refine ae.an ⟨[(2,Pt 101 0),(3,Pt 102 0),(4,Pt 103 0),(5,Pt 104 0)],[(101,.box 23 (eW a0)),(102,.box 23 (eW b0)),(103,.box 23 (eW aU.zero)),(104,.box 23 (eW aU.zero))]⟩ rfl (ab.seq ?_)
 obtain ⟨x_1,e1,h⟩:=aD h
 obtain ⟨x_2,e2,h⟩:=aD h
 refine ab.bm mixed 6 [.b (.agg (eW b0)),I x_1,.b (.agg (eW a0)),I x_2,I x_1,I x_2] [2,3,4,5,6,7] [101,102,103,104] (s':=⟨[(2,_),(3,_),(4,_),(5,_),(6,I x_1),(7,I x_2)],[(101,_),(102,_),(103,_),(104,_)]⟩) rfl ⟨fun _=>.p (lp aN),fun _=>.p (ad (iM e1) oK rfl rfl),fun _=>.p (lp aN),fun _=>.p (ad (iM e2) oK rfl rfl),fun _=>.p oa,fun _=>.p oa,trivial⟩ rfl rfl (ab.seq (ab.seq (ab.aa ?_)))
 refine Oc (lp aN) (Oc (lp aN) ?_)
 obtain ⟨x_3,e3,h⟩:=aD h
 refine Oc (ad (lR e3) vc rfl rfl) (Oc (bP rfl rfl) ?_)
 refine ae.an ⟨[(2,_),(3,_),(4,_),(5,_),(6,_),(7,_),(25,B (decide (x_3 < 0)))],[(101,_),(102,_),(103,_),(104,_)]⟩ rfl (ab.ite h rfl (fun _ h=>?_) (fun _ h=>?_))
 ·refine ab.seq (ab.ag ⟨[(2,_),(4,_),(5,_)],[(101,_),(103,_),(104,_)]⟩ rfl (ab.oE mixed [false,false,true,true] [.b (.agg (eW aU.zero)),.b (.agg (eW a0)),B true,B true] [⟨[false,false,false,false],[(2,Pt 101 0),(4,Pt 103 0),(5,Pt 104 0)],[(101,.box 23 (eW a0)),(103,.box 23 (eW aU.zero)),(104,.box 23 (eW aU.zero))],[true,true,true,true],[]⟩,⟨[false,false,true,false],[(2,Pt 101 0),(4,Pt 103 0),(5,Pt 104 0)],[(101,.box 23 (eW a0)),(103,.box 23 (eW aU.zero)),(104,.box 23 (eW aU.zero))],[true,true,true,true],[0,2]⟩,⟨[false,false,true,true],[(2,Pt 101 0),(4,Pt 103 0),(5,Pt 104 0)],[(101,.box 23 (eW a0)),(103,.box 23 (eW aU.zero)),(104,.box 23 (eW a0))],[true,true,true,true],[0,1,2,3]⟩] rfl (⟨by kernel_rfl,⟨⟨.b (.agg (eW aU.zero)),fun _=>rfl,fun _=>.p (by exact dI gG rfl rfl)⟩,⟨.b (.agg (eW a0)),fun _=>rfl,fun _=>.p (by exact aR aN rfl rfl rfl rfl)⟩,⟨_,none,.b (.one .any),rfl,(fun e=>by simp at e),rfl,rfl,fun _=>.rY [101,103,104] (by exact .p (by exact ah aN rfl rfl rfl rfl (Nat.le_of_ble_eq_true rfl) rfl)) (by exact rfl)⟩,trivial,trivial⟩,⟨by kernel_rfl,⟨trivial,⟨.b (.agg (eW a0)),fun _=>rfl,fun _=>.p (by exact aR aN rfl rfl rfl rfl)⟩,trivial,⟨_,none,.b (.one .any),rfl,(fun e=>by simp at e),rfl,rfl,fun _=>.rY [101,103,104] (by exact .p (by exact ah aN rfl rfl rfl rfl (Nat.le_of_ble_eq_true rfl) rfl)) (by exact rfl)⟩,trivial⟩,⟨by kernel_rfl,⟨trivial,trivial,trivial,trivial,trivial⟩,trivial⟩⟩⟩) rfl rfl rfl [4,5] [103,104] (s':=⟨[(4,_),(5,_)],[(103,_),(104,.box 23 (eW a0))]⟩) rfl (ab.ret (Fin.aw ?_))))
  obtain rfl:=Option.some.inj h
  refine Fin.ag ⟨[(4,_),(5,_)],[(103,_),(104,_)]⟩ rfl (Fin.aq [.agg (eW aU.zero),.agg (eW a0)] (.inl rfl) rfl (.cons (.agg aN rfl rfl rfl rfl) (.cons (.agg aN rfl rfl rfl rfl) .nil)) ⟨rfl,rfl⟩)
 ·refine ab.skip (Fin.ag ⟨[(2,_),(3,_),(4,_),(5,_),(6,_),(7,_)],[(101,_),(102,_),(103,_),(104,_)]⟩ rfl (Fin.then (ab.seq (ab.seq (ab.aa ?_)))))
  refine Oc om (Oc (cR rfl rfl) ?_)
  refine ae.an ⟨[(2,_),(3,_),(4,_),(5,_),(6,_),(7,_),(29,B (decide (x_1 = 1)))],[(101,_),(102,_),(103,_),(104,_)]⟩ rfl (ab.ite h rfl (fun _ h=>?_) (fun _ h=>?_))
  ·refine ab.seq (ab.aa ?_)
   refine Oc (lp aN) (Oc (aM bF (by decide) (by decide) rfl rfl rfl) (Oc (au bt rfl rfl rfl) ?_))
   obtain ⟨⟨x_4,x_5⟩,e4,h⟩:=aD h
   refine Oc (ad (tc e4) B' rfl rfl) (Oc om ?_)
   refine ae.ag ⟨[(4,_),(5,_),(30,.eY [.agg (eW x_4),.one (.int .u32 x_5)])],[(103,_),(104,_)]⟩ rfl (Oc (ay rfl rfl) (Oc (ay rfl rfl) (Oc (aB (k:=105) cS rfl) (Oc (ah aN rfl rfl rfl rfl (Nat.le_of_ble_eq_true rfl) rfl) (Oc oa ?_)))))
   refine ae.an ⟨[(4,_),(5,_),(8,Pt 105 0),(9,.b (.one (.int .u32 x_5)))],[(103,_),(104,_),(105,.box 23 (eW x_4))]⟩ rfl (ab.seq (ab.aa ?_))
   refine Oc (lp aN) (Oc om ?_)
   refine ae.dO eW h rfl (dI gG rfl rfl) (fun x_6 h=>?_)
   refine Oc (ah aN rfl rfl rfl rfl (Nat.le_of_ble_eq_true rfl) rfl) (Oc (ah aN rfl rfl rfl rfl (Nat.le_of_ble_eq_true rfl) rfl) ?_)
   refine ae.an ⟨[(4,_),(5,_)],[(103,.box 23 (eW x_4)),(104,.box 23 (eW x_6))]⟩ rfl (ab.ret (Fin.aw ?_))
   obtain rfl:=Option.some.inj h
   refine Fin.ag ⟨[(4,_),(5,_)],[(103,_),(104,_)]⟩ rfl (Fin.aq [.agg (eW x_4),.agg (eW x_6)] (.inl rfl) rfl (.cons (.agg aN rfl rfl rfl rfl) (.cons (.agg aN rfl rfl rfl rfl) .nil)) ⟨rfl,rfl⟩)
  ·refine ab.skip (Fin.ag ⟨[(2,_),(3,_),(4,_),(5,_),(6,_),(7,_)],[(101,_),(102,_),(103,_),(104,_)]⟩ rfl (Fin.then (ab.seq (ab.aa ?_))))
   refine Oc om (Oc (b7 rfl rfl) ?_)
   obtain ⟨x_7,e5,h⟩:=aD h
   refine Oc (aM bF (bx e5) (cC e5) rfl rfl rfl) (Oc (au bt rfl rfl (cF (post:=[]) (k:=.u32) [] e5 rfl rfl rfl)) ?_)
   obtain ⟨x_8,e6,h⟩:=aD h
   refine Oc (ad (nR e6) goes175 rfl rfl) (Oc oa ?_)
   refine ae.an ⟨[(2,_),(3,_),(4,_),(5,_),(6,_),(7,_),(10,I x_8)],[(101,_),(102,_),(103,_),(104,_)]⟩ rfl (ab.seq (ab.aa ?_))
   refine Oc (lp aN) (Oc om ?_)
   obtain ⟨⟨x_9,x_10⟩,e7,h⟩:=aD h
   refine Oc (ad (xh e7) B2 rfl rfl) (Oc om (Oc (ay rfl rfl) ?_))
   refine ae.ag ⟨[(2,_),(4,_),(5,_),(6,_),(7,_),(10,_),(45,.eY [.agg (eW x_9),.one (.int .u32 x_10)]),(49,.b (.agg (eW x_9)))],[(101,_),(103,_),(104,_)]⟩ rfl (Oc (ay rfl rfl) (Oc (aB (k:=106) cS rfl) (Oc (ah aN rfl rfl rfl rfl (Nat.le_of_ble_eq_true rfl) rfl) (Oc oa ?_))))
   refine ae.an ⟨[(2,_),(4,_),(5,_),(6,_),(7,_),(10,_),(11,Pt 106 0)],[(101,_),(103,_),(104,_),(106,.box 23 (eW x_9))]⟩ rfl (ab.seq (ab.aa ?_))
   refine Oc (lp aN) (Oc om ?_)
   obtain ⟨⟨x_11,x_12⟩,e8,h⟩:=aD h
   refine Oc (ad (xh e8) B2 rfl rfl) (Oc om (Oc (ay rfl rfl) ?_))
   refine ae.ag ⟨[(4,_),(5,_),(6,_),(7,_),(10,_),(11,_),(51,.eY [.agg (eW x_11),.one (.int .u32 x_12)]),(55,.b (.agg (eW x_11)))],[(103,_),(104,_),(106,_)]⟩ rfl (Oc (ay rfl rfl) (Oc (aB (k:=107) cS rfl) (Oc (ah aN rfl rfl rfl rfl (Nat.le_of_ble_eq_true rfl) rfl) (Oc oa ?_))))
   refine ae.an ⟨[(4,_),(5,_),(6,_),(7,_),(10,_),(11,_),(13,Pt 107 0),(14,.b (.one (.int .u32 x_12)))],[(103,_),(104,_),(106,_),(107,.box 23 (eW x_11))]⟩ rfl (ab.seq (ab.aa ?_))
   refine Oc (aB (k:=108) Cw rfl) (ae.an ⟨[(4,_),(5,_),(6,_),(7,_),(10,_),(11,_),(13,_),(14,_),(15,Pt 108 0)],[(103,_),(104,_),(106,_),(107,_),(108,.box 186 ((jW .u32) cQ.zero))]⟩ rfl (ab.seq (ab.bm mixed 2 [.b (.uT 108 0 17 17),.b (.uT 107 0 16 16)] [4,5,6,7,10,11,14,15] [103,104,106,108] (s':=⟨[(4,_),(5,_),(6,_),(7,_),(10,_),(11,_),(14,_),(15,_)],[(103,_),(104,_),(106,_),(108,.box 186 ((jW .u32) (cQ.of (cq cQ.zero.l 0 ((x_11.l.drop 0).take 16)))))]⟩) rfl ⟨fun _=>.p (wE fZ (by decide) rfl),fun _=>.p (wE bF (by decide) rfl),trivial⟩ ⟨_,by exact .p (zW (m:=16) tySl158 (by decide) (by first | decide | (show 16 ≤ 9223372036854775807; omega)) rfl rfl rfl rfl (by first | decide | (show 0 + 16 ≤ 17; omega)) (by first | decide | (show 0 + 16 ≤ 16; omega)) (AU (a:=0) (a2:=0) (off:=0) (off2:=0) (post:=[]) (post2:=[]) (l:=cQ.zero.l) (l2:=x_11.l) (kd:=.u32) (lo:=0) (lo2:=0) [] [] rfl rfl rfl rfl (by rfl) (by rfl) (by first | decide | (show 0 + 16 ≤ 17; omega)) (by first | decide | (show 0 + 16 ≤ 16; omega)) (cQ.wS (yD rfl (by first | decide | (show 0 + 16 ≤ 17; omega)) (by first | decide | (show 0 + 16 ≤ 16; omega)))) rfl)),rfl⟩ rfl (ab.seq (ab.aa ?_)))))
   refine Oc om (Oc (aM fZ (by decide) (by decide) rfl rfl rfl) (Oc (cc bt rfl rfl rfl (Nat.le_of_ble_eq_true rfl) rfl) ?_))
   refine ae.an ⟨[(4,_),(5,_),(6,_),(7,_),(10,_),(11,_),(15,_)],[(103,_),(104,_),(106,_),(108,.box 186 [.int .u32 ((cQ.of (cq cQ.zero.l 0 ((x_11.l.drop 0).take 16))).a0),.int .u32 ((cQ.of (cq cQ.zero.l 0 ((x_11.l.drop 0).take 16))).a1),.int .u32 ((cQ.of (cq cQ.zero.l 0 ((x_11.l.drop 0).take 16))).a2),.int .u32 ((cQ.of (cq cQ.zero.l 0 ((x_11.l.drop 0).take 16))).a3),.int .u32 ((cQ.of (cq cQ.zero.l 0 ((x_11.l.drop 0).take 16))).a4),.int .u32 ((cQ.of (cq cQ.zero.l 0 ((x_11.l.drop 0).take 16))).a5),.int .u32 ((cQ.of (cq cQ.zero.l 0 ((x_11.l.drop 0).take 16))).a6),.int .u32 ((cQ.of (cq cQ.zero.l 0 ((x_11.l.drop 0).take 16))).a7),.int .u32 ((cQ.of (cq cQ.zero.l 0 ((x_11.l.drop 0).take 16))).a8),.int .u32 ((cQ.of (cq cQ.zero.l 0 ((x_11.l.drop 0).take 16))).a9),.int .u32 ((cQ.of (cq cQ.zero.l 0 ((x_11.l.drop 0).take 16))).a10),.int .u32 ((cQ.of (cq cQ.zero.l 0 ((x_11.l.drop 0).take 16))).a11),.int .u32 ((cQ.of (cq cQ.zero.l 0 ((x_11.l.drop 0).take 16))).a12),.int .u32 ((cQ.of (cq cQ.zero.l 0 ((x_11.l.drop 0).take 16))).a13),.int .u32 ((cQ.of (cq cQ.zero.l 0 ((x_11.l.drop 0).take 16))).a14),.int .u32 ((cQ.of (cq cQ.zero.l 0 ((x_11.l.drop 0).take 16))).a15),.int .u32 x_12])]⟩ rfl ?_
   obtain ⟨v9,h10,h⟩:=aD h
   refine ab.cB (v:=v9) (b9 fun (q_13:aU) (u_14:cQ)=>⟨[(4,Pt 103 0),(5,Pt 104 0),(10,I x_8),(15,Pt 108 0)],[(103,.box 23 (eW q_13)),(104,.box 23 (eW aU.zero)),(108,.box 186 ((jW .u32) u_14))]⟩) (fun z=>z) ?_ ?_
   ·refine ab.seq (ab.aa ?_)
    refine Oc om (Oc om (Oc (b7 rfl rfl) (Oc oa ?_)))
    refine ae.an ⟨[(4,_),(5,_),(6,_),(10,_),(11,_),(15,_),(16,I (IntKind.i64.wrap (x_2 - x_1)))],[(103,_),(104,_),(106,_),(108,_)]⟩ rfl (ab.block (ab.cW h10 (ky fun (q_15:aU) (u_16:cQ) (j_17:Int)=>⟨[(4,Pt 103 0),(5,Pt 104 0),(6,I x_1),(10,I x_8),(11,Pt 106 0),(15,Pt 108 0),(16,I j_17)],[(103,.box 23 (eW q_15)),(104,.box 23 (eW aU.zero)),(106,.box 23 (eW x_9)),(108,.box 186 ((jW .u32) u_16))]⟩) [4,5,6,10,11,15,16] [103,104,106,108] rfl ?_))
    rintro ⟨q_15,u_16,j_17⟩ o11 h12 hy13
    refine ab.seq (ab.seq (ab.aa ?_))
    refine Oc om (Oc (gC rfl rfl) ?_)
    refine ae.an ⟨[(4,_),(5,_),(6,_),(10,_),(11,_),(15,_),(16,_),(66,B (decide (0 ≤ j_17)))],[(103,_),(104,_),(106,_),(108,_)]⟩ rfl (ab.ite h12 rfl (fun _ h12=>?_) (fun _ h12=>?_))
    ·refine ab.skip (Fin.ag ⟨[(4,_),(5,_),(6,_),(10,_),(11,_),(15,_),(16,_)],[(103,_),(104,_),(106,_),(108,_)]⟩ rfl (Fin.then ?_))
     obtain ⟨v14,h15,h12⟩:=aD h12
     refine ab.cB (v:=v14) (b9 fun (q_20:aU) (u_21:cQ)=>⟨[(4,Pt 103 0),(5,Pt 104 0),(6,I x_1),(10,I x_8),(11,Pt 106 0),(15,Pt 108 0),(16,I j_17)],[(103,.box 23 (eW q_20)),(104,.box 23 (eW aU.zero)),(106,.box 23 (eW x_9)),(108,.box 186 ((jW .u32) u_21))]⟩) (fun z=>z) ?_ ?_
     ·refine ab.block (ab.seq (ab.aa ?_))
      refine Oc (lp aN) (Oc om (Oc om ?_))
      obtain ⟨x_22,e16,h15⟩:=aD h15
      refine Oc (kU (own_a:=[(108,_)]) ((yC e16).sw 1 108) goes177 rfl ⟨rfl,trivial⟩ rfl rfl) (Oc oa ?_)
      refine ae.an ⟨[(4,_),(5,_),(6,_),(10,_),(11,_),(15,_),(16,_),(17,.b (.one (.int .u64 x_22)))],[(103,_),(104,_),(106,_),(108,_)]⟩ rfl ?_
      obtain ⟨v17,h18,h15⟩:=aD h15
      refine ab.cB (v:=v17) (b9 fun (u_23:cQ) (d_24:Int)=>⟨[(4,Pt 103 0),(5,Pt 104 0),(6,I x_1),(10,I x_8),(11,Pt 106 0),(15,Pt 108 0),(16,I j_17),(17,.b (.one (.int .u64 d_24)))],[(103,.box 23 (eW q_15)),(104,.box 23 (eW aU.zero)),(106,.box 23 (eW x_9)),(108,.box 186 ((jW .u32) u_23))]⟩) (fun z=>z) ?_ ?_
      ·refine ab.seq (ab.aa ?_)
       refine Oc (lp aN) (Oc om (Oc om (Oc om ?_)))
       obtain ⟨⟨x_25,x_26⟩,e19,h18⟩:=aD h18
       refine Oc (kU (own_a:=[(108,_)]) ((zu e19).sw 1 108) goes178 rfl ⟨rfl,trivial⟩ rfl rfl) (ae.an ⟨[(4,_),(5,_),(6,_),(10,_),(11,_),(15,_),(16,_),(17,_),(77,B x_25)],[(103,_),(104,_),(106,_),(108,.box 186 ((jW .u32) x_26))]⟩ rfl (ab.ite h18 rfl (fun _ h18=>?_) (fun _ h18=>?_)))
       ·refine ab.seq (ab.aa ?_)
        refine Oc om (Oc (b7 rfl rfl) (Oc oa ?_))
        refine ae.an ⟨[(4,_),(5,_),(6,_),(10,_),(11,_),(15,_),(16,_),(17,.b (.one (.int .u64 (IntKind.u64.wrap (x_22 - 1)))))],[(103,_),(104,_),(106,_),(108,_)]⟩ rfl (ab.aa (Oc (lp aN) (Oc om (Oc om ?_))))
        obtain ⟨x_27,e20,h18⟩:=aD h18
        refine Oc (kU (own_a:=[(108,_)]) ((zw e20).sw 1 108) goes179 rfl ⟨rfl,trivial⟩ rfl rfl) (ae.nil ?_)
        exact Fin.join [4,5,6,10,11,15,16,17] [103,104,106,108] (x_27,IntKind.u64.wrap (x_22 - 1)) (Option.some.inj h18) rfl
       ·refine ab.skip ?_
        exact Fin.join [4,5,6,10,11,15,16,17] [103,104,106,108] (x_26,x_22) (Option.some.inj h18) rfl
      ·rintro ⟨u_23,d_24⟩ hv
       subst v17
       refine ab.aa (Oc om (Oc om (Oc (aH bB bR rfl) ?_)))
       obtain ⟨x_28,e21,h15⟩:=aD h15
       refine Oc (aM bF (bx e21) (cC e21) rfl rfl rfl) (Oc (cc bt rfl rfl rfl (j4 (post:=[]) (k:=.u32) [] e21 rfl rfl rfl) (iD (post:=[]) (k:=.u32) [] e21 rfl rfl (aU.jh q_15 j_17 (IntKind.u32.wrap d_24)) rfl rfl)) ?_)
       refine ae.nil (Fin.aI ?_)
       exact Fin.join [4,5,6,10,11,15,16] [103,104,106,108] (q_15.set j_17 (IntKind.u32.wrap d_24),u_23) (Option.some.inj h15) rfl
     ·rintro ⟨q_20,u_21⟩ hv
      subst v14
      refine ab.aa (Oc om (Oc (b7 rfl rfl) (Oc oa ?_)))
      refine ae.nil ?_
      exact Fin.b6 [4,5,6,10,11,15,16] [103,104,106,108] (q_20,u_21,IntKind.i64.wrap (j_17 - 1)) (Option.some.inj h12) rfl
    ·refine ab.exit (Fin.aF ?_)
     obtain rfl:=hy13 _ (Option.some.inj h12).symm
     refine Fin.aF (Fin.aX ?_)
     exact Fin.join [4,5,10,15] [103,104,108] (q_15,u_16) rfl rfl
   ·rintro ⟨q_13,u_14⟩ hv
    subst v9
    refine ab.seq (ab.ag ⟨[(4,_),(5,_),(10,_),(15,_)],[(103,_),(104,_),(108,_)]⟩ rfl ?_)
    obtain ⟨x_29,e22,h⟩:=aD h
    refine ab.bm mixed 6 [.b (.agg (eW q_13)),.b (.uT 108 0 16 17),Pt 108 0,.b (.agg [.int .u32 u_14.a0,.int .u32 u_14.a1,.int .u32 u_14.a2,.int .u32 u_14.a3,.int .u32 u_14.a4,.int .u32 u_14.a5,.int .u32 u_14.a6,.int .u32 u_14.a7,.int .u32 u_14.a8,.int .u32 u_14.a9,.int .u32 u_14.a10,.int .u32 u_14.a11,.int .u32 u_14.a12,.int .u32 u_14.a13,.int .u32 u_14.a14,.int .u32 u_14.a15]),I x_8,.b (.agg (eW x_29))] [4,5] [103,104] (s':=⟨[(4,_),(5,_)],[(103,_),(104,.box 23 (eW x_29))]⟩) rfl ⟨fun _=>.p (lp aN),fun _=>.p (uA (i:=16) fZ (by decide) (by decide) rfl rfl),fun _=>.p (vY bF (by decide) rfl),fun _=>.p (lp aN),fun _=>.p om,fun _=>.p (ad (zx e22) goes180 rfl rfl),trivial⟩ ⟨_,by exact .p (ah aN rfl rfl rfl rfl (Nat.le_of_ble_eq_true rfl) rfl),⟨_,by exact .p (ah aN rfl rfl rfl rfl (Nat.le_of_ble_eq_true rfl) rfl),rfl⟩⟩ rfl (ab.ret ?_)
    obtain rfl:=Option.some.inj h
    refine Fin.ag ⟨[(4,_),(5,_)],[(103,_),(104,_)]⟩ rfl (Fin.aq [.agg (eW q_13),.agg (eW x_29)] (.inl rfl) rfl (.cons (.agg aN rfl rfl rfl rfl) (.cons (.agg aN rfl rfl rfl rfl) .nil)) ⟨rfl,rfl⟩)
def qX (F:Nat) (x0:br):Option br :=
 (ek F [x0]).bind fun x_1=>if (!x_1) = true then ((gx F).bind fun x_2=>some x_2) else ((c6 F false x0.W).bind fun x_3=>some x_3)
theorem AN {F:Nat} {x0:br} {r:br} (h:qX F x0 = some r):aA Tryz.prog (bd mx) 139 [] [.agg (ar x0)] (Is [] (.b (.agg (ar r)))):=by
 unfold qX at h
 refine aA.intro 11 Tryz.func139 Tryz.ntmps139 rfl (by simp) fun E=>?_
 show ab _ E ⟨11,[],[]⟩ _ ⟨[(0,.b (.agg (ar x0)))],[]⟩ _
 refine ab.seq (ab.aa ?_)
 refine Oc (aL (k:=101) rfl rfl) (Oc (aB (k:=102) bn rfl) ?_)
 refine ae.an ⟨[(1,Pt 101 0),(2,Pt 102 0)],[(101,.box 25 (ar x0)),(102,.box 25 cU)]⟩ rfl (ab.seq (ab.seq (ab.aa ?_)))
 refine Oc (lp aj) (Oc (bc (k:=103) (es:=[x0].map ar) iR rfl rfl (cE fun _=>rfl) rfl (by decide) (by decide) rfl) ?_)
 obtain ⟨x_1,e1,h⟩:=aD h
 refine Oc (ep (ef e1) jv rfl CP.du) (Oc (aT rfl) ?_)
 refine ae.an ⟨[(1,_),(2,_),(6,B (!x_1))],[(101,_),(102,_)]⟩ rfl (ab.ite h rfl (fun _ h=>?_) (fun _ h=>?_))
 ·refine ab.seq (ab.aa ?_)
  obtain ⟨x_2,e2,h⟩:=aD h
  refine Oc (ad (eH e2) iU rfl rfl) (Oc (ah aj rfl rfl rfl rfl (Nat.le_of_ble_eq_true rfl) rfl) ?_)
  refine ae.an ⟨[(2,_)],[(102,.box 25 (ar x_2))]⟩ rfl (ab.ret (Fin.aw ?_))
  obtain rfl:=Option.some.inj h
  refine Fin.ag ⟨[(2,_)],[(102,_)]⟩ rfl (Fin.aq [.agg (ar x_2)] (.inl rfl) rfl (.cons (.agg aj rfl rfl rfl rfl) .nil) ⟨rfl,rfl⟩)
 ·refine ab.skip (Fin.ag ⟨[(1,_),(2,_)],[(101,_),(102,_)]⟩ rfl (Fin.then (ab.seq (ab.aa ?_))))
  refine Oc (af aZ rfl rfl) (Oc (lp aN) ?_)
  obtain ⟨x_3,e3,h⟩:=aD h
  refine Oc (ad (cZ e3) iV rfl rfl) (Oc (ah aj rfl rfl rfl rfl (Nat.le_of_ble_eq_true rfl) rfl) ?_)
  refine ae.an ⟨[(2,_)],[(102,.box 25 (ar x_3))]⟩ rfl (ab.ret ?_)
  obtain rfl:=Option.some.inj h
  refine Fin.ag ⟨[(2,_)],[(102,_)]⟩ rfl (Fin.aq [.agg (ar x_3)] (.inl rfl) rfl (.cons (.agg aj rfl rfl rfl rfl) .nil) ⟨rfl,rfl⟩)
def oA (F:Nat):Nat → br → br → Option br
 | 0,_,_=>none
 | n + 1,a0,b0=>(ek F [a0,b0]).bind fun x_1=>if (!x_1) = true then ((gx F).bind fun x_2=>some x_2) else (Option.bind ((iI F a0.W).bind fun x_3=>(bE (decide (x_3 ≤ 2)) (iI F b0.W)).bind fun x_4=>if ((decide (x_3 ≤ 2)) && (decide (x_4 ≤ 2))) = true then (Option.bind (iter F (b9 fun x_6 y_7=>if (decide (y_7 ≠ 0)) = true then ((vm x_6 y_7).bind fun x_9=>some (.inl (y_7,x_9))) else (some (.inr x_6))) (mU .u64 (IntKind.u64.wrap ((IntKind.u64.wrap a0.W.a1) * 4294967296)) (IntKind.u64.wrap a0.W.a0),mU .u64 (IntKind.u64.wrap ((IntKind.u64.wrap b0.W.a1) * 4294967296)) (IntKind.u64.wrap b0.W.a0))) (fun x_5=>bN (⟨IntKind.u32.wrap x_5,IntKind.u32.wrap (x_5 / 4294967296),0,0,0,0,0,0,0,0,0,0,0,0,0,0⟩:aU) fun x_10=>(c6 F false x_10).bind fun x_11=>some (.inr x_11))) else (some (.inl ()))) (ls (fun _=>if (decide (b0.W ≠ aU.zero)) = true then (Option.bind (iW F a0.W b0.W) (b9 fun x_12 x_13=>(c6 F false b0.W).bind fun x_14=>(c6 F false x_13).bind fun x_15=>(oA F n x_14 x_15).bind fun x_16=>some x_16)) else ((qX F a0).bind fun x_17=>some x_17)) (fun y=>some y)))
def qV (F:Nat) (a0:br) (b0:br):Option br:=oA F F a0 b0
theorem zy {F:Nat}:∀ (n:Nat) {a0:br} {b0:br} {r:br} (h:oA F n a0 b0 = some r),aA Tryz.prog (bd mx) 77 [] [.agg (ar a0),.agg (ar b0)] (Is [] (.b (.agg (ar r)))):=by
 intro n
 induction n with
 | zero=>intro a0 b0 r h; simp [oA] at h
 | succ n ih=>
 intro a0 b0 r h
 unfold oA at h
 refine aA.intro 80 Tryz.func77 Tryz.ntmps77 rfl (by simp) fun E=>?_
 show ab _ E ⟨80,[],[]⟩ _ ⟨[(0,.b (.agg (ar a0))),(1,.b (.agg (ar b0)))],[]⟩ _
 refine ab.seq (ab.aa ?_)
 refine Oc (aL (k:=101) rfl rfl) (Oc (aL (k:=102) rfl rfl) (Oc (aB (k:=103) bn rfl) ?_))
 refine ae.an ⟨[(2,Pt 101 0),(3,Pt 102 0),(4,Pt 103 0)],[(101,.box 25 (ar a0)),(102,.box 25 (ar b0)),(103,.box 25 cU)]⟩ rfl (ab.seq (ab.seq (ab.aa ?_)))
 refine Oc (lp aj) (Oc (lp aj) (Oc (bc (k:=104) (es:=[a0,b0].map ar) iR rfl rfl (cE fun _=>rfl) rfl (by decide) (by decide) rfl) ?_))
 obtain ⟨x_1,e1,h⟩:=aD h
 refine Oc (ep (ef e1) jv rfl CP.du) (Oc (aT rfl) ?_)
 refine ae.an ⟨[(2,_),(3,_),(4,_),(15,B (!x_1))],[(101,_),(102,_),(103,_)]⟩ rfl (ab.ite h rfl (fun _ h=>?_) (fun _ h=>?_))
 ·refine ab.seq (ab.aa ?_)
  obtain ⟨x_2,e2,h⟩:=aD h
  refine Oc (ad (eH e2) iU rfl rfl) (Oc (ah aj rfl rfl rfl rfl (Nat.le_of_ble_eq_true rfl) rfl) ?_)
  refine ae.an ⟨[(4,_)],[(103,.box 25 (ar x_2))]⟩ rfl (ab.ret (Fin.aw ?_))
  obtain rfl:=Option.some.inj h
  refine Fin.ag ⟨[(4,_)],[(103,_)]⟩ rfl (Fin.aq [.agg (ar x_2)] (.inl rfl) rfl (.cons (.agg aj rfl rfl rfl rfl) .nil) ⟨rfl,rfl⟩)
 ·refine ab.skip (Fin.ag ⟨[(2,_),(3,_),(4,_)],[(101,_),(102,_),(103,_)]⟩ rfl (Fin.then ?_))
  obtain ⟨v3,h4,h⟩:=aD h
  refine ab.cB (v:=v3) (fun (_:Unit)=>⟨[(2,Pt 101 0),(3,Pt 102 0),(4,Pt 103 0)],[(101,.box 25 (ar a0)),(102,.box 25 (ar b0)),(103,.box 25 cU)]⟩) (fun z=>.inl z) ?_ ?_
  ·refine ab.seq (ab.aa ?_)
   refine Oc (af aZ rfl rfl) (Oc (lp aN) ?_)
   obtain ⟨x_3,e5,h4⟩:=aD h4
   refine Oc (ad (iM e5) oK rfl rfl) (Oc (pZ rfl rfl) (Oc om ?_))
   refine ae.ag ⟨[(2,_),(3,_),(4,_),(21,B (decide (x_3 ≤ 2)))],[(101,_),(102,_),(103,_)]⟩ rfl (cG (decide (x_3 ≤ 2)) [] (fun g6=>trivial) (fun g6=>af aZ rfl rfl) (cG (decide (x_3 ≤ 2)) [22] (fun g7=>⟨g7,trivial⟩) (fun g7=>lp aN) ?_))
   obtain ⟨x_4,e9,h4⟩:=aD h4
   refine cG (decide (x_3 ≤ 2)) [23] (fun g8=>⟨g8,trivial⟩) (fun g8=>ad (iM (gc e9 g8)) oK rfl rfl) (cG (decide (x_3 ≤ 2)) [24] (fun g10=>⟨g10,trivial⟩) (fun g10=>pZ rfl rfl) (Oc (aG (fun e=>e) rfl rfl rfl rfl) (ae.an ⟨[(2,_),(3,_),(4,_),(26,B ((decide (x_3 ≤ 2)) && (decide (x_4 ≤ 2))))],[(101,_),(102,_),(103,_)]⟩ rfl (ab.ite h4 rfl (fun _ h4=>?_) (fun _ h4=>?_)))))
   ·refine ab.seq (ab.ag ⟨[(2,_),(3,_),(4,_)],[(101,_),(102,_),(103,_)]⟩ rfl (ab.bm mixed 22 [Pt 101 2,Pt 101 3,.b (.one (.int .u32 a0.W.a1)),.b (.one (.int .u64 (IntKind.u64.wrap a0.W.a1))),.b (.one (.int .u64 (IntKind.u64.wrap ((IntKind.u64.wrap a0.W.a1) * 4294967296)))),Pt 101 2,Pt 101 2,.b (.one (.int .u32 a0.W.a0)),.b (.one (.int .u64 (IntKind.u64.wrap a0.W.a0))),.b (.one (.int .u64 (mU .u64 (IntKind.u64.wrap ((IntKind.u64.wrap a0.W.a1) * 4294967296)) (IntKind.u64.wrap a0.W.a0)))),Pt 102 2,Pt 102 3,.b (.one (.int .u32 b0.W.a1)),.b (.one (.int .u64 (IntKind.u64.wrap b0.W.a1))),.b (.one (.int .u64 (IntKind.u64.wrap ((IntKind.u64.wrap b0.W.a1) * 4294967296)))),Pt 102 2,Pt 102 2,.b (.one (.int .u32 b0.W.a0)),.b (.one (.int .u64 (IntKind.u64.wrap b0.W.a0))),.b (.one (.int .u64 (mU .u64 (IntKind.u64.wrap ((IntKind.u64.wrap b0.W.a1) * 4294967296)) (IntKind.u64.wrap b0.W.a0)))),.b (.one (.int .u64 (mU .u64 (IntKind.u64.wrap ((IntKind.u64.wrap a0.W.a1) * 4294967296)) (IntKind.u64.wrap a0.W.a0)))),.b (.one (.int .u64 (mU .u64 (IntKind.u64.wrap ((IntKind.u64.wrap b0.W.a1) * 4294967296)) (IntKind.u64.wrap b0.W.a0))))] [4,5,6] [103] (s':=⟨[(4,_),(5,.b (.one (.int .u64 (mU .u64 (IntKind.u64.wrap ((IntKind.u64.wrap a0.W.a1) * 4294967296)) (IntKind.u64.wrap a0.W.a0))))),(6,.b (.one (.int .u64 (mU .u64 (IntKind.u64.wrap ((IntKind.u64.wrap b0.W.a1) * 4294967296)) (IntKind.u64.wrap b0.W.a0)))))],[(103,_)]⟩) rfl ⟨fun _=>.p (af aZ rfl rfl),fun _=>.p (aM bF (by decide) (by decide) rfl rfl rfl),fun _=>.p (au bt rfl rfl rfl),fun _=>.p (aH bR bB rfl),fun _=>.p (oG (m:=32) (q:=4294967296) (by decide) rfl rfl (by decide)),fun _=>.p (af aZ rfl rfl),fun _=>.p (aM bF (by decide) (by decide) rfl rfl rfl),fun _=>.p (au bt rfl rfl rfl),fun _=>.p (aH bR bB rfl),fun _=>.p (uh rfl rfl),fun _=>.p (af aZ rfl rfl),fun _=>.p (aM bF (by decide) (by decide) rfl rfl rfl),fun _=>.p (au bt rfl rfl rfl),fun _=>.p (aH bR bB rfl),fun _=>.p (oG (m:=32) (q:=4294967296) (by decide) rfl rfl (by decide)),fun _=>.p (af aZ rfl rfl),fun _=>.p (aM bF (by decide) (by decide) rfl rfl rfl),fun _=>.p (au bt rfl rfl rfl),fun _=>.p (aH bR bB rfl),fun _=>.p (uh rfl rfl),fun _=>.p oa,fun _=>.p oa,trivial⟩ rfl rfl ?_))
    obtain ⟨v11,h12,h4⟩:=aD h4
    refine ab.cB (v:=v11) (fun (x_5:Int)=>⟨[(4,Pt 103 0),(5,.b (.one (.int .u64 x_5)))],[(103,.box 25 cU)]⟩) (fun z=>z) ?_ ?_
    ·refine ab.block (ab.cW h12 (b9 fun (x_6:Int) (y_7:Int)=>⟨[(4,Pt 103 0),(5,.b (.one (.int .u64 x_6))),(6,.b (.one (.int .u64 y_7)))],[(103,.box 25 cU)]⟩) [4,5,6] [103] rfl ?_)
     rintro ⟨x_6,y_7⟩ o13 h14 hy15
     refine ab.seq (ab.seq (ab.aa ?_))
     refine Oc om (Oc (di rfl rfl) ?_)
     refine ae.an ⟨[(4,_),(5,_),(6,_),(48,B (decide (y_7 ≠ 0)))],[(103,_)]⟩ rfl (ab.ite h14 rfl (fun _ h14=>?_) (fun _ h14=>?_))
     ·refine ab.skip (Fin.ag ⟨[(4,_),(5,_),(6,_)],[(103,_)]⟩ rfl (Fin.then (ab.block ?_)))
      refine ab.ag ⟨[(4,_),(5,_),(6,_)],[(103,_)]⟩ rfl ?_
      obtain ⟨x_9,e16,h14⟩:=aD h14
      refine ab.hS mixed 5 [.b (.one (.int .u64 y_7)),.b (.one (.int .u64 x_6)),.b (.one (.int .u64 y_7)),.b (.one (.int .u64 x_9)),.b (.one (.int .u64 y_7))] [4,5,6] [103] (s':=⟨[(4,_),(5,.b (.one (.int .u64 y_7))),(6,.b (.one (.int .u64 x_9)))],[(103,_)]⟩) rfl ⟨fun _=>.p om,fun _=>.p om,fun _=>.p om,fun _=>.p (q8 e16 rfl rfl),fun _=>.p oa,trivial⟩ ⟨_,by exact .p oa,rfl⟩ rfl (Fin.aI ?_)
      exact Fin.b6 [4,5,6] [103] (y_7,x_9) (Option.some.inj h14) rfl
     ·refine ab.exit (Fin.aF ?_)
      obtain rfl:=hy15 _ (Option.some.inj h14).symm
      refine Fin.aF (Fin.aX ?_)
      exact Fin.join [4,5] [103] x_6 rfl rfl
    ·rintro x_5 hv
     subst v11
     refine ab.seq (ab.aa ?_)
     refine Oc om (Oc (aH bB bR rfl) (Oc om (Oc (jt (m:=32) (by decide) rfl rfl rfl) (Oc (aH bB bR rfl) ?_))))
     refine ae.dO eW h4 rfl (dI gG rfl rfl) (fun x_10 h4=>?_)
     obtain ⟨x_11,e17,h4⟩:=aD h4
     refine Oc (ad (cZ e17) iV rfl rfl) (Oc (ah aj rfl rfl rfl rfl (Nat.le_of_ble_eq_true rfl) rfl) ?_)
     refine ae.an ⟨[(4,_)],[(103,.box 25 (ar x_11))]⟩ rfl (ab.ret ?_)
     obtain rfl:=Option.some.inj h4
     refine Fin.aw ?_
     obtain rfl:=Option.some.inj h
     refine Fin.ag ⟨[(4,_)],[(103,_)]⟩ rfl (Fin.aq [.agg (ar x_11)] (.inl rfl) rfl (.cons (.agg aj rfl rfl rfl rfl) .nil) ⟨rfl,rfl⟩)
   ·refine ab.skip ?_
    exact Fin.join [2,3,4] [101,102,103] () (Option.some.inj h4) rfl
  ·rintro _ hv
   subst v3
   refine ab.seq (ab.seq ?_)
   refine ab.ag ⟨[(2,_),(3,_),(4,_)],[(101,_),(102,_),(103,_)]⟩ rfl (ab.oE mixed [false,false,false,false,true,true,true,true] [Pt 101 2,.b (.agg (eW a0.W)),Pt 102 2,.b (.agg (eW b0.W)),Pt 105 0,Pt 106 0,B true,B true] [⟨[false,false,false,false,false,false,false,false],[(2,Pt 101 0),(3,Pt 102 0),(4,Pt 103 0)],[(101,.box 25 (ar a0)),(102,.box 25 (ar b0)),(103,.box 25 cU)],[true,true,true,true,true,true,true,true],[]⟩,⟨[false,false,false,false,true,false,false,false],[(2,Pt 101 0),(3,Pt 102 0),(4,Pt 103 0)],[(101,.box 25 (ar a0)),(102,.box 25 (ar b0)),(103,.box 25 cU),(105,.box 23 (eW aU.zero))],[true,true,true,true,true,true,true,true],[4]⟩,⟨[false,false,false,false,false,true,false,false],[(2,Pt 101 0),(3,Pt 102 0),(4,Pt 103 0)],[(101,.box 25 (ar a0)),(102,.box 25 (ar b0)),(103,.box 25 cU),(106,.box 23 (eW aU.zero))],[true,true,true,true,true,true,true,true],[5]⟩,⟨[false,false,false,false,true,true,false,false],[(2,Pt 101 0),(3,Pt 102 0),(4,Pt 103 0)],[(101,.box 25 (ar a0)),(102,.box 25 (ar b0)),(103,.box 25 cU),(105,.box 23 (eW aU.zero)),(106,.box 23 (eW aU.zero))],[true,true,true,true,true,true,true,true],[4,5]⟩,⟨[false,false,false,false,true,true,true,false],[(2,Pt 101 0),(3,Pt 102 0),(4,Pt 103 0)],[(101,.box 25 (ar a0)),(102,.box 25 (ar b0)),(103,.box 25 cU),(105,.box 23 (eW a0.W)),(106,.box 23 (eW aU.zero))],[true,true,true,true,true,true,true,true],[0,1,4,5,6]⟩,⟨[false,false,false,false,true,true,true,true],[(2,Pt 101 0),(3,Pt 102 0),(4,Pt 103 0)],[(101,.box 25 (ar a0)),(102,.box 25 (ar b0)),(103,.box 25 cU),(105,.box 23 (eW a0.W)),(106,.box 23 (eW b0.W))],[true,true,true,true,true,true,true,true],[0,1,2,3,4,5,6,7]⟩] rfl (⟨by kernel_rfl,⟨⟨Pt 101 2,fun _=>rfl,fun _=>.p (by exact af aZ rfl rfl)⟩,⟨.b (.agg (eW a0.W)),fun _=>rfl,fun _=>.p (by exact aR aN rfl rfl rfl rfl)⟩,⟨Pt 102 2,fun _=>rfl,fun _=>.p (by exact af aZ rfl rfl)⟩,⟨.b (.agg (eW b0.W)),fun _=>rfl,fun _=>.p (by exact aR aN rfl rfl rfl rfl)⟩,⟨_,some 105,Pt 105 0,rfl,fun _=>rfl,rfl,rfl,fun _=>.rY [101,102,103,105] (by exact .p (by exact aB (k:=105) cS rfl)) (by exact rfl)⟩,⟨_,some 106,Pt 106 0,rfl,fun _=>rfl,rfl,rfl,fun _=>.rY [101,102,103,106] (by exact .p (by exact aB (k:=106) cS rfl)) (by exact rfl)⟩,trivial,trivial,trivial⟩,⟨by kernel_rfl,⟨⟨Pt 101 2,fun _=>rfl,fun _=>.p (by exact af aZ rfl rfl)⟩,⟨.b (.agg (eW a0.W)),fun _=>rfl,fun _=>.p (by exact aR aN rfl rfl rfl rfl)⟩,⟨Pt 102 2,fun _=>rfl,fun _=>.p (by exact af aZ rfl rfl)⟩,⟨.b (.agg (eW b0.W)),fun _=>rfl,fun _=>.p (by exact aR aN rfl rfl rfl rfl)⟩,trivial,⟨_,some 106,Pt 106 0,rfl,fun _=>rfl,rfl,rfl,fun _=>.rY [101,102,103,105,106] (by exact .p (by exact aB (k:=106) cS rfl)) (by exact rfl)⟩,trivial,trivial,trivial⟩,⟨by kernel_rfl,⟨⟨Pt 101 2,fun _=>rfl,fun _=>.p (by exact af aZ rfl rfl)⟩,⟨.b (.agg (eW a0.W)),fun _=>rfl,fun _=>.p (by exact aR aN rfl rfl rfl rfl)⟩,⟨Pt 102 2,fun _=>rfl,fun _=>.p (by exact af aZ rfl rfl)⟩,⟨.b (.agg (eW b0.W)),fun _=>rfl,fun _=>.p (by exact aR aN rfl rfl rfl rfl)⟩,⟨_,some 105,Pt 105 0,rfl,fun _=>rfl,rfl,rfl,fun _=>.rY [101,102,103,105,106] (by exact .p (by exact aB (k:=105) cS rfl)) (by exact rfl)⟩,trivial,trivial,trivial,trivial⟩,⟨by kernel_rfl,⟨⟨Pt 101 2,fun _=>rfl,fun _=>.p (by exact af aZ rfl rfl)⟩,⟨.b (.agg (eW a0.W)),fun _=>rfl,fun _=>.p (by exact aR aN rfl rfl rfl rfl)⟩,⟨Pt 102 2,fun _=>rfl,fun _=>.p (by exact af aZ rfl rfl)⟩,⟨.b (.agg (eW b0.W)),fun _=>rfl,fun _=>.p (by exact aR aN rfl rfl rfl rfl)⟩,trivial,trivial,⟨_,none,.b (.one .any),rfl,(fun e=>by simp at e),rfl,rfl,fun _=>.rY [101,102,103,105,106] (by exact .p (by exact ah aN rfl rfl rfl rfl (Nat.le_of_ble_eq_true rfl) rfl)) (by exact rfl)⟩,trivial,trivial⟩,⟨by kernel_rfl,⟨trivial,trivial,⟨Pt 102 2,fun _=>rfl,fun _=>.p (by exact af aZ rfl rfl)⟩,⟨.b (.agg (eW b0.W)),fun _=>rfl,fun _=>.p (by exact aR aN rfl rfl rfl rfl)⟩,trivial,trivial,trivial,⟨_,none,.b (.one .any),rfl,(fun e=>by simp at e),rfl,rfl,fun _=>.rY [101,102,103,105,106] (by exact .p (by exact ah aN rfl rfl rfl rfl (Nat.le_of_ble_eq_true rfl) rfl)) (by exact rfl)⟩,trivial⟩,⟨by kernel_rfl,⟨trivial,trivial,trivial,trivial,trivial,trivial,trivial,trivial,trivial⟩,trivial⟩⟩⟩⟩⟩⟩) rfl rfl rfl [2,4,7,8] [101,103,105,106] (s':=⟨[(2,_),(4,_),(7,Pt 105 0),(8,Pt 106 0)],[(101,_),(103,_),(105,.box 23 (eW a0.W)),(106,.box 23 (eW b0.W))]⟩) rfl ?_)
   refine ab.seq (ab.aa ?_)
   refine Oc (lp aN) (Oc (dI gG rfl rfl) (Oc (dG (oN b0.W aU.zero) rfl rfl gR) ?_))
   refine ae.an ⟨[(2,_),(4,_),(7,_),(8,_),(66,B (decide (b0.W ≠ aU.zero)))],[(101,_),(103,_),(105,_),(106,_)]⟩ rfl (ab.ite h rfl (fun _ h=>?_) (fun _ h=>?_))
   ·refine ab.seq (ab.aa ?_)
    refine Oc (lp aN) (Oc (lp aN) ?_)
    obtain ⟨⟨x_12,x_13⟩,e18,h⟩:=aD h
    refine Oc (ad (pG e18) B9 rfl rfl) (Oc om (Oc (ay rfl rfl) ?_))
    refine ae.ag ⟨[(4,_),(8,_),(67,.eY [.agg (eW x_12),.agg (eW x_13)]),(71,.b (.agg (eW x_12)))],[(103,_),(106,_)]⟩ rfl (Oc (ay rfl rfl) (Oc (aB (k:=107) cS rfl) (Oc (aB (k:=108) cS rfl) (Oc (ah aN rfl rfl rfl rfl (Nat.le_of_ble_eq_true rfl) rfl) (Oc (ah aN rfl rfl rfl rfl (Nat.le_of_ble_eq_true rfl) rfl) ?_)))))
    refine ae.an ⟨[(4,_),(8,_),(10,Pt 108 0)],[(103,_),(106,_),(108,.box 23 (eW x_13))]⟩ rfl (ab.seq ?_)
    obtain ⟨x_14,e19,h⟩:=aD h
    obtain ⟨x_15,e20,h⟩:=aD h
    obtain ⟨x_16,e21,h⟩:=aD h
    refine ab.bm mixed 5 [.b (.agg (eW b0.W)),.b (.agg (ar x_14)),.b (.agg (eW x_13)),.b (.agg (ar x_15)),.b (.agg (ar x_16))] [4] [103] (s':=⟨[(4,_)],[(103,.box 25 (ar x_16))]⟩) rfl ⟨fun _=>.p (lp aN),fun _=>.p (ad (cZ e19) iV rfl rfl),fun _=>.p (lp aN),fun _=>.p (ad (cZ e20) iV rfl rfl),fun _=>.p (ad (ih e21) xW rfl rfl),trivial⟩ ⟨_,by exact .p (ah aj rfl rfl rfl rfl (Nat.le_of_ble_eq_true rfl) rfl),rfl⟩ rfl (ab.ret (Fin.aw ?_))
    obtain rfl:=Option.some.inj h
    refine Fin.ag ⟨[(4,_)],[(103,_)]⟩ rfl (Fin.aq [.agg (ar x_16)] (.inl rfl) rfl (.cons (.agg aj rfl rfl rfl rfl) .nil) ⟨rfl,rfl⟩)
   ·refine ab.skip (Fin.ag ⟨[(2,_),(4,_)],[(101,_),(103,_)]⟩ rfl (Fin.then (ab.seq (ab.aa ?_))))
    refine Oc (lp aj) ?_
    obtain ⟨x_17,e22,h⟩:=aD h
    refine Oc (ad (AN e22) goes139 rfl rfl) (Oc (ah aj rfl rfl rfl rfl (Nat.le_of_ble_eq_true rfl) rfl) ?_)
    refine ae.an ⟨[(4,_)],[(103,.box 25 (ar x_17))]⟩ rfl (ab.ret ?_)
    obtain rfl:=Option.some.inj h
    refine Fin.ag ⟨[(4,_)],[(103,_)]⟩ rfl (Fin.aq [.agg (ar x_17)] (.inl rfl) rfl (.cons (.agg aj rfl rfl rfl rfl) .nil) ⟨rfl,rfl⟩)
theorem sj {F:Nat} {a0:br} {b0:br} {r:br} (h:qV F a0 b0 = some r):aA Tryz.prog (bd mx) 77 [] [.agg (ar a0),.agg (ar b0)] (Is [] (.b (.agg (ar r)))):=zy F h
def jA (F:Nat) (n0:Int):Option br :=
 Option.bind (if (decide (n0 < 0)) = true then (bN (IntKind.u64.wrap (-(IntKind.u64.wrap n0))) fun x_2=>some x_2) else (some (IntKind.u64.wrap n0))) (fun u_1=>bN (⟨IntKind.u32.wrap u_1,IntKind.u32.wrap (u_1 / 4294967296),0,0,0,0,0,0,0,0,0,0,0,0,0,0⟩:aU) fun x_3=>(c6 F (decide (n0 < 0)) x_3).bind fun x_4=>some x_4)
theorem il {F:Nat} {n0:Int} {r:br} (h:jA F n0 = some r):aA Tryz.prog (bd mx) 74 [] [.one (.i n0)] (Is [] (.b (.agg (ar r)))):=by
 unfold jA at h
 refine aA.intro 19 Tryz.func74 Tryz.ntmps74 rfl (by simp) fun E=>?_
 show ab _ E ⟨19,[],[]⟩ _ ⟨[(0,I n0)],[]⟩ _
 refine ab.seq (ab.aa ?_)
 refine Oc (aB (k:=101) bn rfl) (ae.an ⟨[(0,I n0),(2,Pt 101 0)],[(101,.box 25 cU)]⟩ rfl (ab.seq (ab.aa ?_)))
 refine Oc om (Oc (aH kz bB rfl) (Oc oa ?_))
 refine ae.an ⟨[(0,_),(2,_),(3,.b (.one (.int .u64 (IntKind.u64.wrap n0))))],[(101,_)]⟩ rfl ?_
 obtain ⟨v1,h2,h⟩:=aD h
 refine ab.cB (v:=v1) (fun (u_1:Int)=>⟨[(0,I n0),(2,Pt 101 0),(3,.b (.one (.int .u64 u_1)))],[(101,.box 25 cU)]⟩) (fun z=>z) ?_ ?_
 ·refine ab.seq (ab.aa ?_)
  refine Oc om (Oc (bP rfl rfl) ?_)
  refine ae.an ⟨[(0,_),(2,_),(3,_),(7,B (decide (n0 < 0)))],[(101,_)]⟩ rfl (ab.ite h2 rfl (fun _ h2=>?_) (fun _ h2=>?_))
  ·refine ab.aa (Oc om (ae.cD .u64 h2 rfl (lz rfl) (fun x_2 h2=>?_)))
   refine Oc oa (ae.nil ?_)
   exact Fin.join [0,2,3] [101] x_2 (Option.some.inj h2) rfl
  ·refine ab.skip ?_
   exact Fin.join [0,2,3] [101] (IntKind.u64.wrap n0) (Option.some.inj h2) rfl
 ·rintro u_1 hv
  subst v1
  refine ab.seq (ab.aa ?_)
  refine Oc om (Oc (bP rfl rfl) (Oc om (Oc (aH bB bR rfl) (Oc om (Oc (jt (m:=32) (by decide) rfl rfl rfl) ?_)))))
  refine Oc (aH bB bR rfl) (ae.ag ⟨[(2,_),(11,B (decide (n0 < 0))),(13,.b (.one (.int .u32 (IntKind.u32.wrap u_1)))),(16,.b (.one (.int .u32 (IntKind.u32.wrap (u_1 / 4294967296)))))],[(101,_)]⟩ rfl (ae.dO eW h rfl (dI gG rfl rfl) (fun x_3 h=>?_)))
  obtain ⟨x_4,e3,h⟩:=aD h
  refine Oc (ad (cZ e3) iV rfl rfl) (Oc (ah aj rfl rfl rfl rfl (Nat.le_of_ble_eq_true rfl) rfl) ?_)
  refine ae.an ⟨[(2,_)],[(101,.box 25 (ar x_4))]⟩ rfl (ab.ret ?_)
  obtain rfl:=Option.some.inj h
  refine Fin.ag ⟨[(2,_)],[(101,_)]⟩ rfl (Fin.aq [.agg (ar x_4)] (.inl rfl) rfl (.cons (.agg aj rfl rfl rfl rfl) .nil) ⟨rfl,rfl⟩)
def lN (F:Nat):Option br :=
 (jA F 1).bind fun x_1=>some x_1
theorem mG {F:Nat} {r:br} (h:lN F = some r):aA Tryz.prog (bd mx) 63 [] [] (Is [] (.b (.agg (ar r)))):=by
 unfold lN at h
 refine aA.intro 2 Tryz.func63 Tryz.ntmps63 rfl (by simp) fun E=>?_
 show ab _ E ⟨2,[],[]⟩ _ ⟨[],[]⟩ _
 refine ab.seq (ab.aa ?_)
 refine Oc (aB (k:=101) bn rfl) (ae.an ⟨[(0,Pt 101 0)],[(101,.box 25 cU)]⟩ rfl (ab.seq (ab.aa ?_)))
 obtain ⟨x_1,e1,h⟩:=aD h
 refine Oc (ad (il e1) nJ rfl rfl) (Oc (ah aj rfl rfl rfl rfl (Nat.le_of_ble_eq_true rfl) rfl) ?_)
 refine ae.an ⟨[(0,_)],[(101,.box 25 (ar x_1))]⟩ rfl (ab.ret ?_)
 obtain rfl:=Option.some.inj h
 refine Fin.ag ⟨[(0,_)],[(101,_)]⟩ rfl (Fin.aq [.agg (ar x_1)] (.inl rfl) rfl (.cons (.agg aj rfl rfl rfl rfl) .nil) ⟨rfl,rfl⟩)
def dx (F:Nat) (x0:bz):Option Bool :=
 (ld F x0.N).bind fun x_1=>(bE x_1 (ld F x0.D)).bind fun x_2=>(bE (x_1 && x_2) (gD F x0.D)).bind fun x_3=>(bE ((x_1 && x_2) && (decide (0 < x_3))) (qV F x0.N x0.D)).bind fun x_4=>(bE ((x_1 && x_2) && (decide (0 < x_3))) (lN F)).bind fun x_5=>some (((x_1 && x_2) && (decide (0 < x_3))) && (decide (x_4 = x_5)))
theorem dp {F:Nat} {x0:bz} {r:Bool} (h:dx F x0 = some r):aA Tryz.prog (bd mx) 62 [] [.agg (aE x0)] (Is [] (.b (.one (.bool r)))):=by
 unfold dx at h
 refine aA.intro 26 Tryz.func62 Tryz.ntmps62 rfl (by simp) fun E=>?_
 show ab _ E ⟨26,[],[]⟩ _ ⟨[(0,.b (.agg (aE x0)))],[]⟩ _
 refine ab.seq (ab.aa ?_)
 refine Oc (aL (k:=101) rfl rfl) (Oc oa ?_)
 refine ae.an ⟨[(1,Pt 101 0)],[(101,.box 27 (aE x0))]⟩ rfl (ab.seq (ab.aa ?_))
 refine Oc (af bq rfl rfl) (Oc (lp aj) ?_)
 obtain ⟨x_1,e1,h⟩:=aD h
 refine Oc (ad (nC e1) vd rfl rfl) (Oc om ?_)
 refine cG x_1 [] (fun g2=>trivial) (fun g2=>af aV rfl rfl) (ae.ag ⟨[(1,_),(6,B x_1),(7,.dh x_1 (.ptr 101 18))],[(101,_)]⟩ rfl (cG x_1 [7] (fun g3=>⟨g3,trivial⟩) (fun g3=>lp aj) ?_))
 obtain ⟨x_2,e5,h⟩:=aD h
 refine cG x_1 [8] (fun g4=>⟨g4,trivial⟩) (fun g4=>ad (nC (gc e5 g4)) vd rfl rfl) (Oc (aG (fun e=>e) rfl rfl rfl rfl) (Oc om ?_))
 refine cG (x_1 && x_2) [] (fun g6=>trivial) (fun g6=>af aV rfl rfl) (cG (x_1 && x_2) [12] (fun g7=>⟨g7,trivial⟩) (fun g7=>lp aj) (ae.ag ⟨[(1,_),(11,B (x_1 && x_2)),(13,.dh (x_1 && x_2) (.agg (ar x0.D)))],[(101,_)]⟩ rfl ?_))
 obtain ⟨x_3,e9,h⟩:=aD h
 refine cG (x_1 && x_2) [13] (fun g8=>⟨g8,trivial⟩) (fun g8=>ad (iN (gc e9 g8)) sd rfl rfl) (cG (x_1 && x_2) [14] (fun g10=>⟨g10,trivial⟩) (fun g10=>fj rfl rfl) (Oc (aG (fun e=>e) rfl rfl rfl rfl) (Oc om ?_)))
 refine cG ((x_1 && x_2) && (decide (0 < x_3))) [] (fun g11=>trivial) (fun g11=>af bq rfl rfl) (cG ((x_1 && x_2) && (decide (0 < x_3))) [18] (fun g12=>⟨g12,trivial⟩) (fun g12=>lp aj) (cG ((x_1 && x_2) && (decide (0 < x_3))) [] (fun g13=>by exact trivial) (fun g13=>af aV rfl rfl) (cG ((x_1 && x_2) && (decide (0 < x_3))) [20] (fun g14=>by exact ⟨g14,trivial⟩) (fun g14=>lp aj) (ae.ag ⟨[(17,B ((x_1 && x_2) && (decide (0 < x_3)))),(19,.dh ((x_1 && x_2) && (decide (0 < x_3))) (.agg (ar x0.N))),(21,.dh ((x_1 && x_2) && (decide (0 < x_3))) (.agg (ar x0.D)))],[]⟩ rfl ?_))))
 obtain ⟨x_4,e16,h⟩:=aD h
 refine cG ((x_1 && x_2) && (decide (0 < x_3))) [19,21] (fun g15=>⟨g15,g15,trivial⟩) (fun g15=>ad (sj (gc e16 g15)) xW rfl rfl) ?_
 obtain ⟨x_5,e18,h⟩:=aD h
 refine cG ((x_1 && x_2) && (decide (0 < x_3))) [] (fun g17=>trivial) (fun g17=>ad (mG (gc e18 g17)) vH rfl rfl) (cG ((x_1 && x_2) && (decide (0 < x_3))) [22,23] (fun g19=>⟨g19,g19,trivial⟩) (fun g19=>fp (vf x_4 x_5) rfl rfl) (Oc (aG (fun e=>e) rfl rfl rfl rfl) (Oc oa ?_)))
 refine ae.an ⟨[(2,B (((x_1 && x_2) && (decide (0 < x_3))) && (decide (x_4 = x_5))))],[]⟩ rfl (ab.ret ?_)
 obtain rfl:=Option.some.inj h
 refine Fin.ag ⟨[(2,_)],[]⟩ rfl (Fin.aq [.one (.bool (((x_1 && x_2) && (decide (0 < x_3))) && (decide (x_4 = x_5))))] (.inl rfl) rfl (.cons (.tmp rfl) .nil) ⟨rfl,rfl⟩)
def iT (F:Nat):Option bz :=
 (gx F).bind fun x_1=>(lN F).bind fun x_2=>some (⟨x_1,x_2⟩:bz)
theorem gV {F:Nat} {r:bz} (h:iT F = some r):aA Tryz.prog (bd mx) 75 [] [] (Is [] (.b (.agg (aE r)))):=by
 unfold iT at h
 refine aA.intro 4 Tryz.func75 Tryz.ntmps75 rfl (by simp) fun E=>?_
 show ab _ E ⟨4,[],[]⟩ _ ⟨[],[]⟩ _
 refine ab.seq (ab.aa ?_)
 refine Oc (aB (k:=101) bQ rfl) (ae.an ⟨[(0,Pt 101 0)],[(101,.box 27 dM)]⟩ rfl (ab.seq (ab.aa ?_)))
 obtain ⟨x_1,e1,h⟩:=aD h
 refine Oc (ad (eH e1) iU rfl rfl) ?_
 obtain ⟨x_2,e2,h⟩:=aD h
 refine Oc (ad (mG e2) vH rfl rfl) (Oc (aS dW rfl rfl) (Oc (ah aC rfl rfl rfl rfl (Nat.le_of_ble_eq_true rfl) rfl) ?_))
 refine ae.an ⟨[(0,_)],[(101,.box 27 (ar x_1 ++ (ar x_2)))]⟩ rfl (ab.ret ?_)
 obtain rfl:=Option.some.inj h
 refine Fin.ag ⟨[(0,_)],[(101,_)]⟩ rfl (Fin.aq [.agg (ar x_1 ++ (ar x_2))] (.inl rfl) rfl (.cons (.agg aC rfl rfl rfl rfl) .nil) ⟨rfl,rfl⟩)
def qa (F:Nat) (x0:br):Option Int :=
 (iI F x0.W).bind fun x_1=>(ek F [x0]).bind fun x_2=>if ((!x_2) || (decide (x_1 = 0))) = true then (some 0) else (bN (IntKind.i64.wrap (32 * (IntKind.i64.wrap (x_1 - 1)))) fun x_3=>(bI x0.W.l (IntKind.i64.wrap (x_1 - 1))).bind fun x_4=>(jc F x_4).bind fun x_5=>some (IntKind.i64.wrap (x_3 + x_5)))
theorem zA {F:Nat} {x0:br} {r:Int} (h:qa F x0 = some r):aA Tryz.prog (bd mx) 202 [] [.agg (ar x0)] (Is [] (.b (.one (.i r)))):=by
 unfold qa at h
 refine aA.intro 25 Tryz.func202 Tryz.ntmps202 rfl (by simp) fun E=>?_
 show ab _ E ⟨25,[],[]⟩ _ ⟨[(0,.b (.agg (ar x0)))],[]⟩ _
 refine ab.seq (ab.aa ?_)
 refine Oc (aL (k:=101) rfl rfl) (Oc oa ?_)
 refine ae.an ⟨[(1,Pt 101 0)],[(101,.box 25 (ar x0))]⟩ rfl (ab.seq (ab.aa ?_))
 refine Oc (af aZ rfl rfl) (Oc (lp aN) ?_)
 obtain ⟨x_1,e1,h⟩:=aD h
 refine Oc (ad (iM e1) oK rfl rfl) (Oc oa ?_)
 refine ae.an ⟨[(1,_),(3,I x_1)],[(101,_)]⟩ rfl (ab.seq (ab.seq (ab.aa ?_)))
 refine Oc (lp aj) (Oc (bc (k:=102) (es:=[x0].map ar) iR rfl rfl (cE fun _=>rfl) rfl (by decide) (by decide) rfl) ?_)
 obtain ⟨x_2,e2,h⟩:=aD h
 refine Oc (ep (ef e2) jv rfl CP.du) (Oc (aT rfl) ?_)
 refine ae.ag ⟨[(1,_),(3,_),(10,B (!x_2))],[(101,_)]⟩ rfl (Oc om (cx (!(!x_2)) [] (fun g3=>by exact trivial) (fun g3=>om) (cx (!(!x_2)) [12] (fun g4=>by exact ⟨g4,trivial⟩) (fun g4=>cR rfl rfl) (Oc (aQ (fun e=>by rw [e]; rfl) rfl rfl rfl rfl) (ae.an ⟨[(1,_),(3,_),(14,B ((!x_2) || (decide (x_1 = 0))))],[(101,_)]⟩ rfl ?_)))))
 refine ab.ite h rfl (fun _ h=>?_) (fun _ h=>?_)
 ·refine ab.seq (ab.aa ?_)
  refine Oc oa (ae.an ⟨[(2,I 0)],[]⟩ rfl (ab.ret (Fin.aw ?_)))
  obtain rfl:=Option.some.inj h
  refine Fin.ag ⟨[(2,_)],[]⟩ rfl (Fin.aq [.one (.i 0)] (.inl rfl) rfl (.cons (.tmp rfl) .nil) ⟨rfl,rfl⟩)
 ·refine ab.skip (Fin.ag ⟨[(1,_),(3,_)],[(101,_)]⟩ rfl (Fin.then (ab.seq (ab.aa ?_))))
  refine Oc om (Oc (b7 rfl rfl) ?_)
  refine ae.cD .i64 h rfl (eP rfl rfl) (fun x_3 h=>?_)
  refine Oc om (Oc (b7 rfl rfl) (Oc (af aZ rfl rfl) ?_))
  obtain ⟨x_4,e5,h⟩:=aD h
  refine Oc (aM bF (bx e5) (cC e5) rfl rfl rfl) (ae.ag ⟨[(17,I x_3),(21,.b (.ptr 101 (2 + (IntKind.i64.wrap (x_1 - 1):Int).toNat * 1)))],[(101,_)]⟩ rfl (Oc (au bt rfl rfl (cF (post:=[]) (k:=.u32) [.bool x0.Bad,.bool x0.Neg] e5 rfl rfl rfl)) ?_))
  obtain ⟨x_5,e6,h⟩:=aD h
  refine Oc (ad (pK e6) BX rfl rfl) (Oc (bg rfl rfl) (Oc oa ?_))
  refine ae.an ⟨[(2,I (IntKind.i64.wrap (x_3 + x_5)))],[]⟩ rfl (ab.ret ?_)
  obtain rfl:=Option.some.inj h
  refine Fin.ag ⟨[(2,_)],[]⟩ rfl (Fin.aq [.one (.i (IntKind.i64.wrap (x_3 + x_5)))] (.inl rfl) rfl (.cons (.tmp rfl) .nil) ⟨rfl,rfl⟩)
def jL (F:Nat) (x0:br):Option (Int × Bool) :=
 (ek F [x0]).bind fun x_1=>(bE (!(!x_1)) (qa F x0)).bind fun x_2=>if ((!x_1) || (decide (64 < x_2))) = true then (some (0,false)) else (bN (IntKind.u64.wrap ((IntKind.u64.wrap x0.W.a1) * 4294967296)) fun x_3=>bN (mU .u64 x_3 (IntKind.u64.wrap x0.W.a0)) fun x_4=>if (x0.Neg && (decide (x_4 ≤ 9223372036854775808))) = true then (bN (IntKind.i64.wrap (IntKind.u64.wrap (-x_4))) fun x_5=>some (x_5,true)) else (if ((!x0.Neg) && (decide (x_4 < 9223372036854775808))) = true then (some (IntKind.i64.wrap x_4,true)) else (some (0,false))))
theorem te {F:Nat} {x0:br} {r:Int × Bool} (h:jL F x0 = some r):aA Tryz.prog (bd mx) 181 [] [.agg (ar x0)] (Is [] (.eY [.one (.i r.1),.one (.bool r.2)])):=by
 unfold jL at h
 refine aA.intro 44 Tryz.func181 Tryz.ntmps181 rfl (by simp) fun E=>?_
 show ab _ E ⟨44,[],[]⟩ _ ⟨[(0,.b (.agg (ar x0)))],[]⟩ _
 refine ab.seq (ab.aa ?_)
 refine Oc (aL (k:=101) rfl rfl) (Oc oa (Oc oa ?_))
 refine ae.an ⟨[(1,Pt 101 0)],[(101,.box 25 (ar x0))]⟩ rfl (ab.seq (ab.seq (ab.aa ?_)))
 refine Oc (lp aj) (Oc (bc (k:=102) (es:=[x0].map ar) iR rfl rfl (cE fun _=>rfl) rfl (by decide) (by decide) rfl) ?_)
 obtain ⟨x_1,e1,h⟩:=aD h
 refine Oc (ep (ef e1) jv rfl CP.du) (Oc (aT rfl) ?_)
 refine ae.ag ⟨[(1,_),(8,B (!x_1))],[(101,_)]⟩ rfl (Oc om (cx (!(!x_1)) [] (fun g2=>by exact trivial) (fun g2=>lp aj) ?_))
 obtain ⟨x_2,e4,h⟩:=aD h
 refine cx (!(!x_1)) [10] (fun g3=>⟨g3,trivial⟩) (fun g3=>ad (zA (gc e4 g3)) goes202 rfl rfl) (cx (!(!x_1)) [11] (fun g5=>⟨g5,trivial⟩) (fun g5=>fj rfl rfl) (Oc (aQ (fun e=>by rw [e]; rfl) rfl rfl rfl rfl) (ae.an ⟨[(1,_),(13,B ((!x_1) || (decide (64 < x_2))))],[(101,_)]⟩ rfl (ab.ite h rfl (fun _ h=>?_) (fun _ h=>?_)))))
 ·refine ab.seq (ab.aa ?_)
  refine Oc oa (Oc oa ?_)
  refine ae.an ⟨[(2,I 0),(3,B false)],[]⟩ rfl (ab.ret (Fin.aw ?_))
  obtain rfl:=Option.some.inj h
  refine Fin.ag ⟨[(2,_),(3,_)],[]⟩ rfl (Fin.aq [.one (.i 0),.one (.bool false)] (.inl rfl) rfl (.cons (.tmp rfl) (.cons (.tmp rfl) .nil)) ⟨rfl,rfl⟩)
 ·refine ab.skip (Fin.ag ⟨[(1,_)],[(101,_)]⟩ rfl (Fin.then (ab.seq (ab.aa ?_))))
  refine Oc (af aZ rfl rfl) (Oc (aM bF (by decide) (by decide) rfl rfl rfl) (Oc (au bt rfl rfl rfl) (Oc (aH bR bB rfl) ?_)))
  refine ae.cD .u64 h rfl (oG (m:=32) (q:=4294967296) (by decide) rfl rfl (by decide)) (fun x_3 h=>?_)
  refine Oc (af aZ rfl rfl) (Oc (aM bF (by decide) (by decide) rfl rfl rfl) ?_)
  refine ae.ag ⟨[(1,_),(18,.b (.one (.int .u64 x_3))),(20,Pt 101 2)],[(101,_)]⟩ rfl (Oc (au bt rfl rfl rfl) (Oc (aH bR bB rfl) ?_))
  refine ae.cD .u64 h rfl (uh rfl rfl) (fun x_4 h=>?_)
  refine Oc oa (ae.an ⟨[(1,_),(4,.b (.one (.int .u64 x_4)))],[(101,_)]⟩ rfl (ab.seq (ab.block (ab.seq (ab.aa ?_)))))
  refine Oc (af bj rfl rfl) (Oc (au bS rfl rfl rfl) (Oc om ?_))
  refine cG x0.Neg [] (fun g6=>trivial) (fun g6=>om) (cG x0.Neg [28] (fun g7=>by exact ⟨g7,trivial⟩) (fun g7=>pZ rfl rfl) (Oc (aG (fun e=>e) rfl rfl rfl rfl) (Oc oa ?_)))
  refine ae.an ⟨[(1,_),(4,_),(24,B (x0.Neg && (decide (x_4 ≤ 9223372036854775808))))],[(101,_)]⟩ rfl (ab.ite h rfl (fun _ h=>?_) (fun _ h=>?_))
  ·refine ab.seq (ab.aa ?_)
   refine Oc om (Oc (lz rfl) ?_)
   refine ae.cD .i64 h rfl (aH bB kz rfl) (fun x_5 h=>?_)
   refine Oc oa (Oc oa ?_)
   refine ae.an ⟨[(2,I x_5),(3,B true)],[]⟩ rfl (ab.ret (Fin.bb (Fin.aw ?_)))
   obtain rfl:=Option.some.inj h
   refine Fin.ag ⟨[(2,_),(3,_)],[]⟩ rfl (Fin.aq [.one (.i x_5),.one (.bool true)] (.inl rfl) rfl (.cons (.tmp rfl) (.cons (.tmp rfl) .nil)) ⟨rfl,rfl⟩)
  ·refine ab.seq (ab.aa ?_)
   refine Oc (af bj rfl rfl) (Oc (au bS rfl rfl rfl) (Oc (aT rfl) (Oc om ?_)))
   refine cG (!x0.Neg) [] (fun g8=>trivial) (fun g8=>om) (cG (!x0.Neg) [39] (fun g9=>by exact ⟨g9,trivial⟩) (fun g9=>bP rfl rfl) (Oc (aG (fun e=>e) rfl rfl rfl rfl) (Oc oa ?_)))
   refine ae.an ⟨[(4,_),(34,B ((!x0.Neg) && (decide (x_4 < 9223372036854775808))))],[]⟩ rfl (ab.ite h rfl (fun _ h=>?_) (fun _ h=>?_))
   ·refine ab.seq (ab.aa ?_)
    refine Oc om (Oc (aH bB kz rfl) (Oc oa (Oc oa ?_)))
    refine ae.an ⟨[(2,I (IntKind.i64.wrap x_4)),(3,B true)],[]⟩ rfl (ab.ret (Fin.bb (Fin.aw ?_)))
    obtain rfl:=Option.some.inj h
    refine Fin.ag ⟨[(2,_),(3,_)],[]⟩ rfl (Fin.aq [.one (.i (IntKind.i64.wrap x_4)),.one (.bool true)] (.inl rfl) rfl (.cons (.tmp rfl) (.cons (.tmp rfl) .nil)) ⟨rfl,rfl⟩)
   ·refine ab.skip (Fin.aI (Fin.ag ⟨[],[]⟩ rfl (Fin.then (ab.seq (ab.aa ?_)))))
    refine Oc oa (Oc oa ?_)
    refine ae.an ⟨[(2,I 0),(3,B false)],[]⟩ rfl (ab.ret ?_)
    obtain rfl:=Option.some.inj h
    refine Fin.ag ⟨[(2,_),(3,_)],[]⟩ rfl (Fin.aq [.one (.i 0),.one (.bool false)] (.inl rfl) rfl (.cons (.tmp rfl) (.cons (.tmp rfl) .nil)) ⟨rfl,rfl⟩)
def oy (F:Nat) (x0:br):Option br :=
 (ek F [x0]).bind fun x_1=>if (!x_1) = true then ((gx F).bind fun x_2=>some x_2) else ((c6 F (!x0.Neg) x0.W).bind fun x_3=>some x_3)
theorem si {F:Nat} {x0:br} {r:br} (h:oy F x0 = some r):aA Tryz.prog (bd mx) 81 [] [.agg (ar x0)] (Is [] (.b (.agg (ar r)))):=by
 unfold oy at h
 refine aA.intro 14 Tryz.func81 Tryz.ntmps81 rfl (by simp) fun E=>?_
 show ab _ E ⟨14,[],[]⟩ _ ⟨[(0,.b (.agg (ar x0)))],[]⟩ _
 refine ab.seq (ab.aa ?_)
 refine Oc (aL (k:=101) rfl rfl) (Oc (aB (k:=102) bn rfl) ?_)
 refine ae.an ⟨[(1,Pt 101 0),(2,Pt 102 0)],[(101,.box 25 (ar x0)),(102,.box 25 cU)]⟩ rfl (ab.seq (ab.seq (ab.aa ?_)))
 refine Oc (lp aj) (Oc (bc (k:=103) (es:=[x0].map ar) iR rfl rfl (cE fun _=>rfl) rfl (by decide) (by decide) rfl) ?_)
 obtain ⟨x_1,e1,h⟩:=aD h
 refine Oc (ep (ef e1) jv rfl CP.du) (Oc (aT rfl) ?_)
 refine ae.an ⟨[(1,_),(2,_),(6,B (!x_1))],[(101,_),(102,_)]⟩ rfl (ab.ite h rfl (fun _ h=>?_) (fun _ h=>?_))
 ·refine ab.seq (ab.aa ?_)
  obtain ⟨x_2,e2,h⟩:=aD h
  refine Oc (ad (eH e2) iU rfl rfl) (Oc (ah aj rfl rfl rfl rfl (Nat.le_of_ble_eq_true rfl) rfl) ?_)
  refine ae.an ⟨[(2,_)],[(102,.box 25 (ar x_2))]⟩ rfl (ab.ret (Fin.aw ?_))
  obtain rfl:=Option.some.inj h
  refine Fin.ag ⟨[(2,_)],[(102,_)]⟩ rfl (Fin.aq [.agg (ar x_2)] (.inl rfl) rfl (.cons (.agg aj rfl rfl rfl rfl) .nil) ⟨rfl,rfl⟩)
 ·refine ab.skip (Fin.ag ⟨[(1,_),(2,_)],[(101,_),(102,_)]⟩ rfl (Fin.then (ab.seq (ab.aa ?_))))
  refine Oc (af bj rfl rfl) (Oc (au bS rfl rfl rfl) (Oc (aT rfl) (Oc (af aZ rfl rfl) (Oc (lp aN) ?_))))
  obtain ⟨x_3,e3,h⟩:=aD h
  refine Oc (ad (cZ e3) iV rfl rfl) (Oc (ah aj rfl rfl rfl rfl (Nat.le_of_ble_eq_true rfl) rfl) ?_)
  refine ae.an ⟨[(2,_)],[(102,.box 25 (ar x_3))]⟩ rfl (ab.ret ?_)
  obtain rfl:=Option.some.inj h
  refine Fin.ag ⟨[(2,_)],[(102,_)]⟩ rfl (Fin.aq [.agg (ar x_3)] (.inl rfl) rfl (.cons (.agg aj rfl rfl rfl rfl) .nil) ⟨rfl,rfl⟩)
def p9 (F:Nat) (a0:aU) (b0:aU):Option (aU × Bool) :=
 Option.bind (iter F (ky fun out_3 carry_4 x_5=>if (decide (x_5 < 16)) = true then ((bI a0.l x_5).bind fun x_8=>(bI b0.l x_5).bind fun x_9=>bN (IntKind.u64.wrap (carry_4 + (IntKind.u64.wrap ((IntKind.u64.wrap x_8) + (IntKind.u64.wrap x_9))))) fun x_10=>(bI out_3.l x_5).bind fun x_11=>bN (IntKind.u64.wrap (carry_4 + (IntKind.u64.wrap ((IntKind.u64.wrap x_8) + (IntKind.u64.wrap x_9))))) fun x_12=>some (.inl (out_3.set x_5 (IntKind.u32.wrap x_10),x_12 / 4294967296,IntKind.i64.wrap (x_5 + 1)))) else (some (.inr (out_3,carry_4)))) (aU.zero,0,0)) (b9 fun out_1 carry_2=>some (out_1,decide (carry_2 = 0)))
theorem zv {F:Nat} {a0:aU} {b0:aU} {r:aU × Bool} (h:p9 F a0 b0 = some r):aA Tryz.prog (bd mx) 141 [] [.agg (eW a0),.agg (eW b0)] (Is [] (.eY [.agg (eW r.1),.one (.bool r.2)])):=by
 unfold p9 at h
 refine aA.intro 33 Tryz.func141 Tryz.ntmps141 rfl (by simp) fun E=>?_
 show ab _ E ⟨33,[],[]⟩ _ ⟨[(0,.b (.agg (eW a0))),(1,.b (.agg (eW b0)))],[]⟩ _
 refine ab.seq (ab.aa ?_)
 refine Oc (aL (k:=101) rfl rfl) (Oc (aL (k:=102) rfl rfl) (Oc (aB (k:=103) cS rfl) (Oc oa ?_)))
 refine ae.an ⟨[(2,Pt 101 0),(3,Pt 102 0),(4,Pt 103 0)],[(101,.box 23 (eW a0)),(102,.box 23 (eW b0)),(103,.box 23 (eW aU.zero))]⟩ rfl (ab.seq (ab.aa ?_))
 refine Oc (aB (k:=104) cS rfl) (ae.an ⟨[(2,_),(3,_),(4,_),(6,Pt 104 0)],[(101,_),(102,_),(103,_),(104,.box 23 (eW aU.zero))]⟩ rfl (ab.seq (ab.aa ?_)))
 refine Oc oa (ae.an ⟨[(2,_),(3,_),(4,_),(6,_),(7,.b (.one (.int .u64 0)))],[(101,_),(102,_),(103,_),(104,_)]⟩ rfl ?_)
 obtain ⟨v1,h2,h⟩:=aD h
 refine ab.cB (v:=v1) (b9 fun (out_1:aU) (carry_2:Int)=>⟨[(4,Pt 103 0),(6,Pt 104 0),(7,.b (.one (.int .u64 carry_2)))],[(103,.box 23 (eW aU.zero)),(104,.box 23 (eW out_1))]⟩) (fun z=>z) ?_ ?_
 ·refine ab.seq (ab.aa ?_)
  refine Oc om (ae.an ⟨[(2,_),(3,_),(4,_),(6,_),(7,_),(9,I 0)],[(101,_),(102,_),(103,_),(104,_)]⟩ rfl (ab.block (ab.cW h2 (ky fun (out_3:aU) (carry_4:Int) (x_5:Int)=>⟨[(2,Pt 101 0),(3,Pt 102 0),(4,Pt 103 0),(6,Pt 104 0),(7,.b (.one (.int .u64 carry_4))),(9,I x_5)],[(101,.box 23 (eW a0)),(102,.box 23 (eW b0)),(103,.box 23 (eW aU.zero)),(104,.box 23 (eW out_3))]⟩) [2,3,4,6,7,9] [101,102,103,104] rfl ?_)))
  rintro ⟨out_3,carry_4,x_5⟩ o3 h4 hy5
  refine ab.seq (ab.aa ?_)
  refine Oc (bP rfl rfl) (ae.an ⟨[(2,_),(3,_),(4,_),(6,_),(7,_),(9,_),(10,B (decide (x_5 < 16)))],[(101,_),(102,_),(103,_),(104,_)]⟩ rfl (ab.seq (ab.ite h4 rfl (fun _ h4=>?_) (fun _ h4=>?_))))
  ·refine ab.skip (Fin.ag ⟨[(2,_),(3,_),(4,_),(6,_),(7,_),(9,_)],[(101,_),(102,_),(103,_),(104,_)]⟩ rfl (Fin.then (ab.seq (ab.block (ab.seq (ab.aa ?_))))))
   refine Oc om (Oc oa ?_)
   refine ae.an ⟨[(2,_),(3,_),(4,_),(6,_),(7,_),(8,I x_5),(9,_)],[(101,_),(102,_),(103,_),(104,_)]⟩ rfl (ab.seq ?_)
   obtain ⟨x_8,e6,h4⟩:=aD h4
   obtain ⟨x_9,e7,h4⟩:=aD h4
   refine ab.bm mixed 11 [.b (.one (.int .u64 carry_4)),I x_5,.b (.ptr 101 (0 + (x_5:Int).toNat * 1)),.b (.one (.int .u32 x_8)),.b (.one (.int .u64 (IntKind.u64.wrap x_8))),I x_5,.b (.ptr 102 (0 + (x_5:Int).toNat * 1)),.b (.one (.int .u32 x_9)),.b (.one (.int .u64 (IntKind.u64.wrap x_9))),.b (.one (.int .u64 (IntKind.u64.wrap ((IntKind.u64.wrap x_8) + (IntKind.u64.wrap x_9))))),.b (.one (.int .u64 (IntKind.u64.wrap (carry_4 + (IntKind.u64.wrap ((IntKind.u64.wrap x_8) + (IntKind.u64.wrap x_9)))))))] [2,3,4,6,7,8,9] [101,102,103,104] (s':=⟨[(2,_),(3,_),(4,_),(6,_),(7,.b (.one (.int .u64 (IntKind.u64.wrap (carry_4 + (IntKind.u64.wrap ((IntKind.u64.wrap x_8) + (IntKind.u64.wrap x_9)))))))),(8,_),(9,_)],[(101,_),(102,_),(103,_),(104,_)]⟩) rfl ⟨fun _=>.p om,fun _=>.p om,fun _=>.p (aM bF (bx e6) (cC e6) rfl rfl rfl),fun _=>.p (au bt rfl rfl (cF (post:=[]) (k:=.u32) [] e6 rfl rfl rfl)),fun _=>.p (aH bR bB rfl),fun _=>.p om,fun _=>.p (aM bF (bx e7) (cC e7) rfl rfl rfl),fun _=>.p (au bt rfl rfl (cF (post:=[]) (k:=.u32) [] e7 rfl rfl rfl)),fun _=>.p (aH bR bB rfl),fun _=>.p (bg rfl rfl),fun _=>.p (bg rfl rfl),trivial⟩ ⟨_,by exact .p oa,rfl⟩ rfl (ab.seq (ab.aa ?_))
   refine Oc om (ae.cD .u64 h4 rfl om (fun x_10 h4=>?_))
   refine Oc (aH bB bR rfl) ?_
   obtain ⟨x_11,e8,h4⟩:=aD h4
   refine Oc (aM bF (bx e8) (cC e8) rfl rfl rfl) (Oc (cc bt rfl rfl rfl (j4 (post:=[]) (k:=.u32) [] e8 rfl rfl rfl) (iD (post:=[]) (k:=.u32) [] e8 rfl rfl (aU.jh out_3 x_5 (IntKind.u32.wrap x_10)) rfl rfl)) ?_)
   refine ae.an ⟨[(2,_),(3,_),(4,_),(6,_),(7,_),(9,_)],[(101,_),(102,_),(103,_),(104,.box 23 (eW (out_3.set x_5 (IntKind.u32.wrap x_10))))]⟩ rfl (ab.aa (ae.cD .u64 h4 rfl om (fun x_12 h4=>?_)))
   refine Oc (jt (m:=32) (by decide) rfl rfl rfl) (Oc oa ?_)
   refine ae.nil (Fin.aI (Fin.ag ⟨[(2,_),(3,_),(4,_),(6,_),(7,.b (.one (.int .u64 (x_12 / 4294967296)))),(9,_)],[(101,_),(102,_),(103,_),(104,_)]⟩ rfl (Fin.then (ab.aa ?_))))
   refine Oc (bg rfl rfl) (Oc om ?_)
   refine ae.nil ?_
   exact Fin.b6 [2,3,4,6,7,9] [101,102,103,104] (out_3.set x_5 (IntKind.u32.wrap x_10),x_12 / 4294967296,IntKind.i64.wrap (x_5 + 1)) (Option.some.inj h4) rfl
  ·refine ab.exit (Fin.aF ?_)
   obtain rfl:=hy5 _ (Option.some.inj h4).symm
   refine Fin.aF (Fin.aX ?_)
   exact Fin.join [4,6,7] [103,104] (out_3,carry_4) rfl rfl
 ·rintro ⟨out_1,carry_2⟩ hv
  subst v1
  refine ab.seq (ab.aa ?_)
  refine Oc (lp aN) (Oc om (Oc (cR rfl rfl) (Oc (ah aN rfl rfl rfl rfl (Nat.le_of_ble_eq_true rfl) rfl) (Oc oa ?_))))
  refine ae.an ⟨[(4,_),(5,B (decide (carry_2 = 0)))],[(103,.box 23 (eW out_1))]⟩ rfl (ab.ret ?_)
  obtain rfl:=Option.some.inj h
  refine Fin.ag ⟨[(4,_),(5,_)],[(103,_)]⟩ rfl (Fin.aq [.agg (eW out_1),.one (.bool (decide (carry_2 = 0)))] (.inl rfl) rfl (.cons (.agg aN rfl rfl rfl rfl) (.cons (.tmp rfl) .nil)) ⟨rfl,rfl⟩)
def jK (F:Nat) (a0:aU) (b0:aU):Option aU :=
 Option.bind (iter F (ky fun out_2 borrow_3 x_4=>if (decide (x_4 < 16)) = true then ((bI a0.l x_4).bind fun x_6=>(bI b0.l x_4).bind fun x_7=>bN (IntKind.u64.wrap ((IntKind.u64.wrap ((IntKind.u64.wrap x_6) - (IntKind.u64.wrap x_7))) - borrow_3)) fun x_8=>(bI out_2.l x_4).bind fun x_9=>bN (IntKind.u64.wrap ((IntKind.u64.wrap ((IntKind.u64.wrap x_6) - (IntKind.u64.wrap x_7))) - borrow_3)) fun x_10=>some (.inl (out_2.set x_4 (IntKind.u32.wrap x_8),x_10 / 9223372036854775808,IntKind.i64.wrap (x_4 + 1)))) else (some (.inr out_2))) (aU.zero,0,0)) (fun out_1=>some out_1)
theorem pj {F:Nat} {a0:aU} {b0:aU} {r:aU} (h:jK F a0 b0 = some r):aA Tryz.prog (bd mx) 143 [] [.agg (eW a0),.agg (eW b0)] (Is [] (.b (.agg (eW r)))):=by
 unfold jK at h
 refine aA.intro 31 Tryz.func143 Tryz.ntmps143 rfl (by simp) fun E=>?_
 show ab _ E ⟨31,[],[]⟩ _ ⟨[(0,.b (.agg (eW a0))),(1,.b (.agg (eW b0)))],[]⟩ _
 refine ab.seq (ab.aa ?_)
 refine Oc (aL (k:=101) rfl rfl) (Oc (aL (k:=102) rfl rfl) (Oc (aB (k:=103) cS rfl) ?_))
 refine ae.an ⟨[(2,Pt 101 0),(3,Pt 102 0),(4,Pt 103 0)],[(101,.box 23 (eW a0)),(102,.box 23 (eW b0)),(103,.box 23 (eW aU.zero))]⟩ rfl (ab.seq (ab.aa ?_))
 refine Oc (aB (k:=104) cS rfl) (ae.an ⟨[(2,_),(3,_),(4,_),(5,Pt 104 0)],[(101,_),(102,_),(103,_),(104,.box 23 (eW aU.zero))]⟩ rfl (ab.seq (ab.aa ?_)))
 refine Oc oa (ae.an ⟨[(2,_),(3,_),(4,_),(5,_),(6,.b (.one (.int .u64 0)))],[(101,_),(102,_),(103,_),(104,_)]⟩ rfl ?_)
 obtain ⟨v1,h2,h⟩:=aD h
 refine ab.cB (v:=v1) (fun (out_1:aU)=>⟨[(4,Pt 103 0),(5,Pt 104 0)],[(103,.box 23 (eW aU.zero)),(104,.box 23 (eW out_1))]⟩) (fun z=>z) ?_ ?_
 ·refine ab.seq (ab.aa ?_)
  refine Oc om (ae.an ⟨[(2,_),(3,_),(4,_),(5,_),(6,_),(9,I 0)],[(101,_),(102,_),(103,_),(104,_)]⟩ rfl (ab.block (ab.cW h2 (ky fun (out_2:aU) (borrow_3:Int) (x_4:Int)=>⟨[(2,Pt 101 0),(3,Pt 102 0),(4,Pt 103 0),(5,Pt 104 0),(6,.b (.one (.int .u64 borrow_3))),(9,I x_4)],[(101,.box 23 (eW a0)),(102,.box 23 (eW b0)),(103,.box 23 (eW aU.zero)),(104,.box 23 (eW out_2))]⟩) [2,3,4,5,6,9] [101,102,103,104] rfl ?_)))
  rintro ⟨out_2,borrow_3,x_4⟩ o3 h4 hy5
  refine ab.seq (ab.aa ?_)
  refine Oc (bP rfl rfl) (ae.an ⟨[(2,_),(3,_),(4,_),(5,_),(6,_),(9,_),(10,B (decide (x_4 < 16)))],[(101,_),(102,_),(103,_),(104,_)]⟩ rfl (ab.seq (ab.ite h4 rfl (fun _ h4=>?_) (fun _ h4=>?_))))
  ·refine ab.skip (Fin.ag ⟨[(2,_),(3,_),(4,_),(5,_),(6,_),(9,_)],[(101,_),(102,_),(103,_),(104,_)]⟩ rfl (Fin.then (ab.seq (ab.block (ab.seq (ab.aa ?_))))))
   refine Oc om (Oc oa ?_)
   refine ae.an ⟨[(2,_),(3,_),(4,_),(5,_),(6,_),(7,I x_4),(9,_)],[(101,_),(102,_),(103,_),(104,_)]⟩ rfl (ab.seq ?_)
   obtain ⟨x_6,e6,h4⟩:=aD h4
   obtain ⟨x_7,e7,h4⟩:=aD h4
   refine ab.bm mixed 12 [I x_4,.b (.ptr 101 (0 + (x_4:Int).toNat * 1)),.b (.one (.int .u32 x_6)),.b (.one (.int .u64 (IntKind.u64.wrap x_6))),I x_4,.b (.ptr 102 (0 + (x_4:Int).toNat * 1)),.b (.one (.int .u32 x_7)),.b (.one (.int .u64 (IntKind.u64.wrap x_7))),.b (.one (.int .u64 (IntKind.u64.wrap ((IntKind.u64.wrap x_6) - (IntKind.u64.wrap x_7))))),.b (.one (.int .u64 borrow_3)),.b (.one (.int .u64 (IntKind.u64.wrap ((IntKind.u64.wrap ((IntKind.u64.wrap x_6) - (IntKind.u64.wrap x_7))) - borrow_3)))),.b (.one (.int .u64 (IntKind.u64.wrap ((IntKind.u64.wrap ((IntKind.u64.wrap x_6) - (IntKind.u64.wrap x_7))) - borrow_3))))] [2,3,4,5,7,8,9] [101,102,103,104] (s':=⟨[(2,_),(3,_),(4,_),(5,_),(7,_),(8,.b (.one (.int .u64 (IntKind.u64.wrap ((IntKind.u64.wrap ((IntKind.u64.wrap x_6) - (IntKind.u64.wrap x_7))) - borrow_3))))),(9,_)],[(101,_),(102,_),(103,_),(104,_)]⟩) rfl ⟨fun _=>.p om,fun _=>.p (aM bF (bx e6) (cC e6) rfl rfl rfl),fun _=>.p (au bt rfl rfl (cF (post:=[]) (k:=.u32) [] e6 rfl rfl rfl)),fun _=>.p (aH bR bB rfl),fun _=>.p om,fun _=>.p (aM bF (bx e7) (cC e7) rfl rfl rfl),fun _=>.p (au bt rfl rfl (cF (post:=[]) (k:=.u32) [] e7 rfl rfl rfl)),fun _=>.p (aH bR bB rfl),fun _=>.p (b7 rfl rfl),fun _=>.p om,fun _=>.p (b7 rfl rfl),fun _=>.p oa,trivial⟩ rfl rfl (ab.seq (ab.aa ?_))
   refine Oc om (ae.cD .u64 h4 rfl om (fun x_8 h4=>?_))
   refine Oc (aH bB bR rfl) ?_
   obtain ⟨x_9,e8,h4⟩:=aD h4
   refine Oc (aM bF (bx e8) (cC e8) rfl rfl rfl) (Oc (cc bt rfl rfl rfl (j4 (post:=[]) (k:=.u32) [] e8 rfl rfl rfl) (iD (post:=[]) (k:=.u32) [] e8 rfl rfl (aU.jh out_2 x_4 (IntKind.u32.wrap x_8)) rfl rfl)) ?_)
   refine ae.an ⟨[(2,_),(3,_),(4,_),(5,_),(8,_),(9,_)],[(101,_),(102,_),(103,_),(104,.box 23 (eW (out_2.set x_4 (IntKind.u32.wrap x_8))))]⟩ rfl (ab.aa (ae.cD .u64 h4 rfl om (fun x_10 h4=>?_)))
   refine Oc (jt (m:=63) (by decide) rfl rfl rfl) (Oc oa ?_)
   refine ae.nil (Fin.aI (Fin.ag ⟨[(2,_),(3,_),(4,_),(5,_),(6,.b (.one (.int .u64 (x_10 / 9223372036854775808)))),(9,_)],[(101,_),(102,_),(103,_),(104,_)]⟩ rfl (Fin.then (ab.aa ?_))))
   refine Oc (bg rfl rfl) (Oc om ?_)
   refine ae.nil ?_
   exact Fin.b6 [2,3,4,5,6,9] [101,102,103,104] (out_2.set x_4 (IntKind.u32.wrap x_8),x_10 / 9223372036854775808,IntKind.i64.wrap (x_4 + 1)) (Option.some.inj h4) rfl
  ·refine ab.exit (Fin.aF ?_)
   obtain rfl:=hy5 _ (Option.some.inj h4).symm
   refine Fin.aF (Fin.aX ?_)
   exact Fin.join [4,5] [103,104] out_2 rfl rfl
 ·rintro out_1 hv
  subst v1
  refine ab.seq (ab.aa ?_)
  refine Oc (lp aN) (Oc (ah aN rfl rfl rfl rfl (Nat.le_of_ble_eq_true rfl) rfl) ?_)
  refine ae.an ⟨[(4,_)],[(103,.box 23 (eW out_1))]⟩ rfl (ab.ret ?_)
  obtain rfl:=Option.some.inj h
  refine Fin.ag ⟨[(4,_)],[(103,_)]⟩ rfl (Fin.aq [.agg (eW out_1)] (.inl rfl) rfl (.cons (.agg aN rfl rfl rfl rfl) .nil) ⟨rfl,rfl⟩)
def oB (F:Nat) (a0:br) (b0:br):Option br :=
 (ek F [a0,b0]).bind fun x_1=>if (!x_1) = true then ((gx F).bind fun x_2=>some x_2) else (if (a0.Neg == b0.Neg) = true then (Option.bind (p9 F a0.W b0.W) (b9 fun x_3 x_4=>if (!x_4) = true then ((gx F).bind fun x_5=>some x_5) else ((c6 F a0.Neg x_3).bind fun x_6=>some x_6))) else ((jJ F a0.W b0.W).bind fun x_7=>if (decide (0 ≤ x_7)) = true then ((jK F a0.W b0.W).bind fun x_8=>(c6 F a0.Neg x_8).bind fun x_9=>some x_9) else ((jK F b0.W a0.W).bind fun x_10=>(c6 F b0.Neg x_10).bind fun x_11=>some x_11)))
theorem sn {F:Nat} {a0:br} {b0:br} {r:br} (h:oB F a0 b0 = some r):aA Tryz.prog (bd mx) 79 [] [.agg (ar a0),.agg (ar b0)] (Is [] (.b (.agg (ar r)))):=by
 unfold oB at h
 refine aA.intro 55 Tryz.func79 Tryz.ntmps79 rfl (by simp) fun E=>?_
 show ab _ E ⟨55,[],[]⟩ _ ⟨[(0,.b (.agg (ar a0))),(1,.b (.agg (ar b0)))],[]⟩ _
 refine ab.seq (ab.aa ?_)
 refine Oc (aL (k:=101) rfl rfl) (Oc (aL (k:=102) rfl rfl) (Oc (aB (k:=103) bn rfl) ?_))
 refine ae.an ⟨[(2,Pt 101 0),(3,Pt 102 0),(4,Pt 103 0)],[(101,.box 25 (ar a0)),(102,.box 25 (ar b0)),(103,.box 25 cU)]⟩ rfl (ab.seq (ab.seq (ab.aa ?_)))
 refine Oc (lp aj) (Oc (lp aj) (Oc (bc (k:=104) (es:=[a0,b0].map ar) iR rfl rfl (cE fun _=>rfl) rfl (by decide) (by decide) rfl) ?_))
 obtain ⟨x_1,e1,h⟩:=aD h
 refine Oc (ep (ef e1) jv rfl CP.du) (Oc (aT rfl) ?_)
 refine ae.an ⟨[(2,_),(3,_),(4,_),(11,B (!x_1))],[(101,_),(102,_),(103,_)]⟩ rfl (ab.ite h rfl (fun _ h=>?_) (fun _ h=>?_))
 ·refine ab.seq (ab.aa ?_)
  obtain ⟨x_2,e2,h⟩:=aD h
  refine Oc (ad (eH e2) iU rfl rfl) (Oc (ah aj rfl rfl rfl rfl (Nat.le_of_ble_eq_true rfl) rfl) ?_)
  refine ae.an ⟨[(4,_)],[(103,.box 25 (ar x_2))]⟩ rfl (ab.ret (Fin.aw ?_))
  obtain rfl:=Option.some.inj h
  refine Fin.ag ⟨[(4,_)],[(103,_)]⟩ rfl (Fin.aq [.agg (ar x_2)] (.inl rfl) rfl (.cons (.agg aj rfl rfl rfl rfl) .nil) ⟨rfl,rfl⟩)
 ·refine ab.skip (Fin.ag ⟨[(2,_),(3,_),(4,_)],[(101,_),(102,_),(103,_)]⟩ rfl (Fin.then (ab.seq (ab.seq (ab.aa ?_)))))
  refine Oc (af bj rfl rfl) (Oc (au bS rfl rfl rfl) (Oc (af bj rfl rfl) (Oc (au bS rfl rfl rfl) (Oc (qJ sC rfl rfl) ?_))))
  refine ae.an ⟨[(2,_),(3,_),(4,_),(17,B (a0.Neg == b0.Neg))],[(101,_),(102,_),(103,_)]⟩ rfl (ab.ite h rfl (fun _ h=>?_) (fun _ h=>?_))
  ·refine ab.seq (ab.aa ?_)
   refine Oc (af aZ rfl rfl) (Oc (lp aN) (Oc (af aZ rfl rfl) (Oc (lp aN) ?_)))
   obtain ⟨⟨x_3,x_4⟩,e3,h⟩:=aD h
   refine Oc (ad (zv e3) goes141 rfl rfl) (ae.ag ⟨[(2,_),(4,_),(23,.eY [.agg (eW x_3),.one (.bool x_4)])],[(101,_),(103,_)]⟩ rfl (Oc om (Oc (ay rfl rfl) (Oc (ay rfl rfl) (Oc (aB (k:=105) cS rfl) (Oc (ah aN rfl rfl rfl rfl (Nat.le_of_ble_eq_true rfl) rfl) (Oc oa ?_)))))))
   refine ae.an ⟨[(2,_),(4,_),(5,Pt 105 0),(6,B x_4)],[(101,_),(103,_),(105,.box 23 (eW x_3))]⟩ rfl (ab.seq (ab.seq (ab.aa ?_)))
   refine Oc om (Oc (aT rfl) ?_)
   refine ae.an ⟨[(2,_),(4,_),(5,_),(27,B (!x_4))],[(101,_),(103,_),(105,_)]⟩ rfl (ab.ite h rfl (fun _ h=>?_) (fun _ h=>?_))
   ·refine ab.seq (ab.aa ?_)
    obtain ⟨x_5,e4,h⟩:=aD h
    refine Oc (ad (eH e4) iU rfl rfl) (Oc (ah aj rfl rfl rfl rfl (Nat.le_of_ble_eq_true rfl) rfl) ?_)
    refine ae.an ⟨[(4,_)],[(103,.box 25 (ar x_5))]⟩ rfl (ab.ret (Fin.aw (Fin.aw ?_)))
    obtain rfl:=Option.some.inj h
    refine Fin.ag ⟨[(4,_)],[(103,_)]⟩ rfl (Fin.aq [.agg (ar x_5)] (.inl rfl) rfl (.cons (.agg aj rfl rfl rfl rfl) .nil) ⟨rfl,rfl⟩)
   ·refine ab.skip (Fin.ag ⟨[(2,_),(4,_),(5,_)],[(101,_),(103,_),(105,_)]⟩ rfl (Fin.then (ab.seq (ab.aa ?_))))
    refine Oc (af bj rfl rfl) (Oc (au bS rfl rfl rfl) (Oc (lp aN) ?_))
    obtain ⟨x_6,e5,h⟩:=aD h
    refine Oc (ad (cZ e5) iV rfl rfl) (Oc (ah aj rfl rfl rfl rfl (Nat.le_of_ble_eq_true rfl) rfl) ?_)
    refine ae.an ⟨[(4,_)],[(103,.box 25 (ar x_6))]⟩ rfl (ab.ret (Fin.aw ?_))
    obtain rfl:=Option.some.inj h
    refine Fin.ag ⟨[(4,_)],[(103,_)]⟩ rfl (Fin.aq [.agg (ar x_6)] (.inl rfl) rfl (.cons (.agg aj rfl rfl rfl rfl) .nil) ⟨rfl,rfl⟩)
  ·refine ab.skip (Fin.ag ⟨[(2,_),(3,_),(4,_)],[(101,_),(102,_),(103,_)]⟩ rfl (Fin.then (ab.seq (ab.seq (ab.aa ?_)))))
   refine Oc (af aZ rfl rfl) (Oc (lp aN) (Oc (af aZ rfl rfl) (Oc (lp aN) ?_)))
   obtain ⟨x_7,e6,h⟩:=aD h
   refine Oc (ad (lR e6) vc rfl rfl) (Oc (gC rfl rfl) ?_)
   refine ae.an ⟨[(2,_),(3,_),(4,_),(38,B (decide (0 ≤ x_7)))],[(101,_),(102,_),(103,_)]⟩ rfl (ab.ite h rfl (fun _ h=>?_) (fun _ h=>?_))
   ·refine ab.seq (ab.ag ⟨[(2,_),(3,_),(4,_)],[(101,_),(102,_),(103,_)]⟩ rfl ?_)
    obtain ⟨x_8,e7,h⟩:=aD h
    obtain ⟨x_9,e8,h⟩:=aD h
    refine ab.bm mixed 8 [Pt 101 1,B a0.Neg,Pt 101 2,.b (.agg (eW a0.W)),Pt 102 2,.b (.agg (eW b0.W)),.b (.agg (eW x_8)),.b (.agg (ar x_9))] [4] [103] (s':=⟨[(4,_)],[(103,.box 25 (ar x_9))]⟩) rfl ⟨fun _=>.p (af bj rfl rfl),fun _=>.p (au bS rfl rfl rfl),fun _=>.p (af aZ rfl rfl),fun _=>.p (lp aN),fun _=>.p (af aZ rfl rfl),fun _=>.p (lp aN),fun _=>.p (ad (pj e7) yq rfl rfl),fun _=>.p (ad (cZ e8) iV rfl rfl),trivial⟩ ⟨_,by exact .p (ah aj rfl rfl rfl rfl (Nat.le_of_ble_eq_true rfl) rfl),rfl⟩ rfl (ab.ret (Fin.aw ?_))
    obtain rfl:=Option.some.inj h
    refine Fin.ag ⟨[(4,_)],[(103,_)]⟩ rfl (Fin.aq [.agg (ar x_9)] (.inl rfl) rfl (.cons (.agg aj rfl rfl rfl rfl) .nil) ⟨rfl,rfl⟩)
   ·refine ab.skip (Fin.ag ⟨[(2,_),(3,_),(4,_)],[(101,_),(102,_),(103,_)]⟩ rfl (Fin.then (ab.seq ?_)))
    refine ab.ag ⟨[(2,_),(3,_),(4,_)],[(101,_),(102,_),(103,_)]⟩ rfl ?_
    obtain ⟨x_10,e9,h⟩:=aD h
    obtain ⟨x_11,e10,h⟩:=aD h
    refine ab.bm mixed 8 [Pt 102 1,B b0.Neg,Pt 102 2,.b (.agg (eW b0.W)),Pt 101 2,.b (.agg (eW a0.W)),.b (.agg (eW x_10)),.b (.agg (ar x_11))] [4] [103] (s':=⟨[(4,_)],[(103,.box 25 (ar x_11))]⟩) rfl ⟨fun _=>.p (af bj rfl rfl),fun _=>.p (au bS rfl rfl rfl),fun _=>.p (af aZ rfl rfl),fun _=>.p (lp aN),fun _=>.p (af aZ rfl rfl),fun _=>.p (lp aN),fun _=>.p (ad (pj e9) yq rfl rfl),fun _=>.p (ad (cZ e10) iV rfl rfl),trivial⟩ ⟨_,by exact .p (ah aj rfl rfl rfl rfl (Nat.le_of_ble_eq_true rfl) rfl),rfl⟩ rfl (ab.ret ?_)
    obtain rfl:=Option.some.inj h
    refine Fin.ag ⟨[(4,_)],[(103,_)]⟩ rfl (Fin.aq [.agg (ar x_11)] (.inl rfl) rfl (.cons (.agg aj rfl rfl rfl rfl) .nil) ⟨rfl,rfl⟩)
def qU (F:Nat) (a0:br) (b0:br):Option br :=
 (oy F b0).bind fun x_1=>(oB F a0 x_1).bind fun x_2=>some x_2
theorem AL {F:Nat} {a0:br} {b0:br} {r:br} (h:qU F a0 b0 = some r):aA Tryz.prog (bd mx) 182 [] [.agg (ar a0),.agg (ar b0)] (Is [] (.b (.agg (ar r)))):=by
 unfold qU at h
 refine aA.intro 9 Tryz.func182 Tryz.ntmps182 rfl (by simp) fun E=>?_
 show ab _ E ⟨9,[],[]⟩ _ ⟨[(0,.b (.agg (ar a0))),(1,.b (.agg (ar b0)))],[]⟩ _
 refine ab.seq (ab.aa ?_)
 refine Oc (aL (k:=101) rfl rfl) (Oc (aL (k:=102) rfl rfl) (Oc (aB (k:=103) bn rfl) ?_))
 refine ae.an ⟨[(2,Pt 101 0),(3,Pt 102 0),(4,Pt 103 0)],[(101,.box 25 (ar a0)),(102,.box 25 (ar b0)),(103,.box 25 cU)]⟩ rfl (ab.seq ?_)
 obtain ⟨x_1,e1,h⟩:=aD h
 obtain ⟨x_2,e2,h⟩:=aD h
 refine ab.bm mixed 4 [.b (.agg (ar a0)),.b (.agg (ar b0)),.b (.agg (ar x_1)),.b (.agg (ar x_2))] [4] [103] (s':=⟨[(4,_)],[(103,.box 25 (ar x_2))]⟩) rfl ⟨fun _=>.p (lp aj),fun _=>.p (lp aj),fun _=>.p (ad (si e1) At rfl rfl),fun _=>.p (ad (sn e2) Au rfl rfl),trivial⟩ ⟨_,by exact .p (ah aj rfl rfl rfl rfl (Nat.le_of_ble_eq_true rfl) rfl),rfl⟩ rfl (ab.ret ?_)
 obtain rfl:=Option.some.inj h
 refine Fin.ag ⟨[(4,_)],[(103,_)]⟩ rfl (Fin.aq [.agg (ar x_2)] (.inl rfl) rfl (.cons (.agg aj rfl rfl rfl rfl) .nil) ⟨rfl,rfl⟩)
def jQ (F:Nat) (a0:br) (b0:br):Option (br × br) :=
 (ek F [a0,b0]).bind fun x_1=>(bE (!(!x_1)) (gD F b0)).bind fun x_2=>if ((!x_1) || (decide (x_2 = 0))) = true then ((gx F).bind fun x_3=>(gx F).bind fun x_4=>some (x_3,x_4)) else (Option.bind (Option.bind (jL F a0) (b9 fun x_5 x_6=>if (x_6 && (decide (x_5 ≠ (-9223372036854775808)))) = true then (Option.bind (jL F b0) (b9 fun x_7 x_8=>if (x_8 && (decide (x_7 ≠ (-9223372036854775808)))) = true then ((lq .i64 x_5 x_7).bind fun x_9=>(vm x_5 x_7).bind fun x_10=>Option.bind (bN ((decide (x_10 ≠ 0)) && ((decide (x_10 < 0)) != (decide (x_7 < 0)))) fun x_13=>if x_13 = true then (some (IntKind.i64.wrap (x_9 - 1),IntKind.i64.wrap (x_10 + x_7))) else (some (x_9,x_10))) (b9 fun q_11 r_12=>(jA F q_11).bind fun x_14=>(jA F r_12).bind fun x_15=>some (.inr (x_14,x_15)))) else (some (.inl ())))) else (some (.inl ())))) (ls (fun _=>Option.bind (iW F a0.W b0.W) (b9 fun x_16 x_17=>(c6 F (a0.Neg != b0.Neg) x_16).bind fun x_18=>Option.bind (if ((decide (x_17 ≠ aU.zero)) && (a0.Neg != b0.Neg)) = true then ((jA F 1).bind fun x_21=>(qU F x_18 x_21).bind fun x_22=>(jK F b0.W x_17).bind fun x_23=>some (x_23,x_22)) else (some (x_17,x_18))) (b9 fun r_19 q_20=>(c6 F b0.Neg r_19).bind fun x_24=>some (q_20,x_24)))) (fun y=>some y)))
theorem qO {F:Nat} {a0:br} {b0:br} {r:br × br} (h:jQ F a0 b0 = some r):aA Tryz.prog (bd mx) 140 [] [.agg (ar a0),.agg (ar b0)] (Is [] (.eY [.agg (ar r.1),.agg (ar r.2)])):=by
 unfold jQ at h
 refine aA.intro 108 Tryz.func140 Tryz.ntmps140 rfl (by simp) fun E=>?_
 show ab _ E ⟨108,[],[]⟩ _ ⟨[(0,.b (.agg (ar a0))),(1,.b (.agg (ar b0)))],[]⟩ _
 refine ab.seq (ab.aa ?_)
 refine Oc (aL (k:=101) rfl rfl) (Oc (aL (k:=102) rfl rfl) (Oc (aB (k:=103) bn rfl) (Oc (aB (k:=104) bn rfl) ?_)))
 refine ae.an ⟨[(2,Pt 101 0),(3,Pt 102 0),(4,Pt 103 0),(5,Pt 104 0)],[(101,.box 25 (ar a0)),(102,.box 25 (ar b0)),(103,.box 25 cU),(104,.box 25 cU)]⟩ rfl (ab.seq (ab.seq (ab.aa ?_)))
 refine Oc (lp aj) (Oc (lp aj) (Oc (bc (k:=105) (es:=[a0,b0].map ar) iR rfl rfl (cE fun _=>rfl) rfl (by decide) (by decide) rfl) ?_))
 obtain ⟨x_1,e1,h⟩:=aD h
 refine Oc (ep (ef e1) jv rfl CP.du) (ae.ag ⟨[(2,_),(3,_),(4,_),(5,_),(18,B x_1)],[(101,_),(102,_),(103,_),(104,_)]⟩ rfl (Oc (aT rfl) (Oc om ?_)))
 refine cx (!(!x_1)) [] (fun g2=>trivial) (fun g2=>lp aj) ?_
 obtain ⟨x_2,e4,h⟩:=aD h
 refine cx (!(!x_1)) [21] (fun g3=>⟨g3,trivial⟩) (fun g3=>ad (iN (gc e4 g3)) sd rfl rfl) (cx (!(!x_1)) [22] (fun g5=>⟨g5,trivial⟩) (fun g5=>cR rfl rfl) (Oc (aQ (fun e=>by rw [e]; rfl) rfl rfl rfl rfl) (ae.an ⟨[(2,_),(3,_),(4,_),(5,_),(24,B ((!x_1) || (decide (x_2 = 0))))],[(101,_),(102,_),(103,_),(104,_)]⟩ rfl (ab.ite h rfl (fun _ h=>?_) (fun _ h=>?_)))))
 ·refine ab.seq (ab.aa ?_)
  obtain ⟨x_3,e6,h⟩:=aD h
  refine Oc (ad (eH e6) iU rfl rfl) ?_
  obtain ⟨x_4,e7,h⟩:=aD h
  refine Oc (ad (eH e7) iU rfl rfl) (Oc (ah aj rfl rfl rfl rfl (Nat.le_of_ble_eq_true rfl) rfl) (Oc (ah aj rfl rfl rfl rfl (Nat.le_of_ble_eq_true rfl) rfl) ?_))
  refine ae.an ⟨[(4,_),(5,_)],[(103,.box 25 (ar x_3)),(104,.box 25 (ar x_4))]⟩ rfl (ab.ret (Fin.aw ?_))
  obtain rfl:=Option.some.inj h
  refine Fin.ag ⟨[(4,_),(5,_)],[(103,_),(104,_)]⟩ rfl (Fin.aq [.agg (ar x_3),.agg (ar x_4)] (.inl rfl) rfl (.cons (.agg aj rfl rfl rfl rfl) (.cons (.agg aj rfl rfl rfl rfl) .nil)) ⟨rfl,rfl⟩)
 ·refine ab.skip (Fin.ag ⟨[(2,_),(3,_),(4,_),(5,_)],[(101,_),(102,_),(103,_),(104,_)]⟩ rfl (Fin.then ?_))
  obtain ⟨v8,h9,h⟩:=aD h
  refine ab.cB (v:=v8) (fun (_:Unit)=>⟨[(2,Pt 101 0),(3,Pt 102 0),(4,Pt 103 0),(5,Pt 104 0)],[(101,.box 25 (ar a0)),(102,.box 25 (ar b0)),(103,.box 25 cU),(104,.box 25 cU)]⟩) (fun z=>.inl z) ?_ ?_
  ·refine ab.seq (ab.aa ?_)
   refine Oc (lp aj) ?_
   obtain ⟨⟨x_5,x_6⟩,e10,h9⟩:=aD h9
   refine Oc (ad (te e10) B1 rfl rfl) (Oc om (Oc (ay rfl rfl) (Oc (ay rfl rfl) (Oc oa (Oc oa ?_)))))
   refine ae.an ⟨[(2,_),(3,_),(4,_),(5,_),(6,I x_5),(7,B x_6)],[(101,_),(102,_),(103,_),(104,_)]⟩ rfl (ab.seq (ab.aa ?_))
   refine Oc om (Oc om ?_)
   refine cG x_6 [] (fun g11=>trivial) (fun g11=>om) (cG x_6 [34] (fun g12=>by exact ⟨g12,trivial⟩) (fun g12=>di rfl rfl) (Oc (aG (fun e=>e) rfl rfl rfl rfl) (ae.an ⟨[(2,_),(3,_),(4,_),(5,_),(6,_),(36,B (x_6 && (decide (x_5 ≠ (-9223372036854775808)))))],[(101,_),(102,_),(103,_),(104,_)]⟩ rfl (ab.ite h9 rfl (fun _ h9=>?_) (fun _ h9=>?_)))))
   ·refine ab.seq (ab.aa ?_)
    refine Oc (lp aj) ?_
    obtain ⟨⟨x_7,x_8⟩,e13,h9⟩:=aD h9
    refine Oc (ad (te e13) B1 rfl rfl) (Oc om (Oc (ay rfl rfl) (Oc (ay rfl rfl) (Oc oa (Oc oa ?_)))))
    refine ae.an ⟨[(2,_),(3,_),(4,_),(5,_),(6,_),(8,I x_7),(9,B x_8)],[(101,_),(102,_),(103,_),(104,_)]⟩ rfl (ab.seq (ab.aa ?_))
    refine Oc om (Oc om ?_)
    refine cG x_8 [] (fun g14=>trivial) (fun g14=>om) (cG x_8 [44] (fun g15=>by exact ⟨g15,trivial⟩) (fun g15=>di rfl rfl) (Oc (aG (fun e=>e) rfl rfl rfl rfl) (ae.an ⟨[(2,_),(3,_),(4,_),(5,_),(6,_),(8,_),(46,B (x_8 && (decide (x_7 ≠ (-9223372036854775808)))))],[(101,_),(102,_),(103,_),(104,_)]⟩ rfl (ab.ite h9 rfl (fun _ h9=>?_) (fun _ h9=>?_)))))
    ·refine ab.seq (ab.ag ⟨[(4,_),(5,_),(6,_),(8,_)],[(103,_),(104,_)]⟩ rfl ?_)
     obtain ⟨x_9,e16,h9⟩:=aD h9
     obtain ⟨x_10,e17,h9⟩:=aD h9
     refine ab.bm mixed 8 [I x_5,I x_7,I x_9,I x_5,I x_7,I x_10,I x_9,I x_10] [4,5,8,10,11] [103,104] (s':=⟨[(4,_),(5,_),(8,_),(10,I x_9),(11,I x_10)],[(103,_),(104,_)]⟩) rfl ⟨fun _=>.p om,fun _=>.p om,fun _=>.p (fc e16 rfl rfl),fun _=>.p om,fun _=>.p om,fun _=>.p (q8 e17 rfl rfl),fun _=>.p oa,fun _=>.p oa,trivial⟩ rfl rfl ?_
     obtain ⟨v18,h19,h9⟩:=aD h9
     refine ab.cB (v:=v18) (b9 fun (q_11:Int) (r_12:Int)=>⟨[(4,Pt 103 0),(5,Pt 104 0),(10,I q_11),(11,I r_12)],[(103,.box 25 cU),(104,.box 25 cU)]⟩) (fun z=>z) ?_ ?_
     ·refine ab.seq (ab.aa ?_)
      refine Oc om (Oc (di rfl rfl) (Oc om ?_))
      refine cG (decide (x_10 ≠ 0)) [] (fun g20=>trivial) (fun g20=>om) (cG (decide (x_10 ≠ 0)) [56] (fun g21=>by exact ⟨g21,trivial⟩) (fun g21=>bP rfl rfl) (cG (decide (x_10 ≠ 0)) [] (fun g22=>by exact trivial) (fun g22=>om) (cG (decide (x_10 ≠ 0)) [58] (fun g23=>by exact ⟨g23,trivial⟩) (fun g23=>bP rfl rfl) (cG (decide (x_10 ≠ 0)) [57,59] (fun g24=>by exact ⟨g24,g24,trivial⟩) (fun g24=>eT sC rfl rfl) (ae.mX h19 rfl (aG (fun e=>e) rfl rfl rfl rfl) (fun x_13 h19=>?_))))))
      refine ae.an ⟨[(4,_),(5,_),(8,_),(10,_),(11,_),(61,B x_13)],[(103,_),(104,_)]⟩ rfl (ab.ite h19 rfl (fun _ h19=>?_) (fun _ h19=>?_))
      ·refine ab.aa (Oc om (Oc (b7 rfl rfl) (Oc om (Oc om (Oc (bg rfl rfl) (Oc oa ?_))))))
       refine Oc oa (ae.nil ?_)
       exact Fin.join [4,5,10,11] [103,104] (IntKind.i64.wrap (x_9 - 1),IntKind.i64.wrap (x_10 + x_7)) (Option.some.inj h19) rfl
      ·refine ab.skip ?_
       exact Fin.join [4,5,10,11] [103,104] (x_9,x_10) (Option.some.inj h19) rfl
     ·rintro ⟨q_11,r_12⟩ hv
      subst v18
      refine ab.seq (ab.aa ?_)
      refine Oc om ?_
      obtain ⟨x_14,e25,h9⟩:=aD h9
      refine Oc (ad (il e25) nJ rfl rfl) (Oc om ?_)
      refine ae.ag ⟨[(4,_),(5,_),(68,.b (.agg (ar x_14))),(69,I r_12)],[(103,_),(104,_)]⟩ rfl ?_
      obtain ⟨x_15,e26,h9⟩:=aD h9
      refine Oc (ad (il e26) nJ rfl rfl) (Oc (ah aj rfl rfl rfl rfl (Nat.le_of_ble_eq_true rfl) rfl) (Oc (ah aj rfl rfl rfl rfl (Nat.le_of_ble_eq_true rfl) rfl) ?_))
      refine ae.an ⟨[(4,_),(5,_)],[(103,.box 25 (ar x_14)),(104,.box 25 (ar x_15))]⟩ rfl (ab.ret ?_)
      obtain rfl:=Option.some.inj h9
      refine Fin.aw ?_
      obtain rfl:=Option.some.inj h
      refine Fin.ag ⟨[(4,_),(5,_)],[(103,_),(104,_)]⟩ rfl (Fin.aq [.agg (ar x_14),.agg (ar x_15)] (.inl rfl) rfl (.cons (.agg aj rfl rfl rfl rfl) (.cons (.agg aj rfl rfl rfl rfl) .nil)) ⟨rfl,rfl⟩)
    ·refine ab.skip ?_
     exact Fin.join [2,3,4,5] [101,102,103,104] () (Option.some.inj h9) rfl
   ·refine ab.skip ?_
    exact Fin.join [2,3,4,5] [101,102,103,104] () (Option.some.inj h9) rfl
  ·rintro _ hv
   subst v8
   refine ab.seq (ab.aa ?_)
   refine Oc (af aZ rfl rfl) (Oc (lp aN) (Oc (af aZ rfl rfl) (Oc (lp aN) ?_)))
   obtain ⟨⟨x_16,x_17⟩,e27,h⟩:=aD h
   refine Oc (ad (pG e27) B9 rfl rfl) (ae.ag ⟨[(2,_),(3,_),(4,_),(5,_),(76,.eY [.agg (eW x_16),.agg (eW x_17)])],[(101,_),(102,_),(103,_),(104,_)]⟩ rfl (Oc om (Oc (ay rfl rfl) (Oc (ay rfl rfl) (Oc (aB (k:=106) cS rfl) (Oc (aB (k:=107) cS rfl) (Oc (ah aN rfl rfl rfl rfl (Nat.le_of_ble_eq_true rfl) rfl) ?_)))))))
   refine Oc (ah aN rfl rfl rfl rfl (Nat.le_of_ble_eq_true rfl) rfl) (ae.an ⟨[(2,_),(3,_),(4,_),(5,_),(12,Pt 106 0),(13,Pt 107 0)],[(101,_),(102,_),(103,_),(104,_),(106,.box 23 (eW x_16)),(107,.box 23 (eW x_17))]⟩ rfl (ab.seq (ab.aa ?_)))
   refine Oc (af bj rfl rfl) (Oc (au bS rfl rfl rfl) (Oc (af bj rfl rfl) (Oc (au bS rfl rfl rfl) (Oc (eT sC rfl rfl) (Oc (lp aN) ?_)))))
   refine ae.ag ⟨[(2,_),(3,_),(4,_),(5,_),(13,_),(83,B (a0.Neg != b0.Neg)),(84,.b (.agg (eW x_16)))],[(101,_),(102,_),(103,_),(104,_),(107,_)]⟩ rfl ?_
   obtain ⟨x_18,e28,h⟩:=aD h
   refine Oc (ad (cZ e28) iV rfl rfl) (Oc (aB (k:=108) bn rfl) (Oc (ah aj rfl rfl rfl rfl (Nat.le_of_ble_eq_true rfl) rfl) ?_))
   refine ae.an ⟨[(2,_),(3,_),(4,_),(5,_),(13,_),(14,Pt 108 0)],[(101,_),(102,_),(103,_),(104,_),(107,_),(108,.box 25 (ar x_18))]⟩ rfl ?_
   obtain ⟨v29,h30,h⟩:=aD h
   refine ab.cB (v:=v29) (b9 fun (r_19:aU) (q_20:br)=>⟨[(3,Pt 102 0),(4,Pt 103 0),(5,Pt 104 0),(13,Pt 107 0),(14,Pt 108 0)],[(102,.box 25 (ar b0)),(103,.box 25 cU),(104,.box 25 cU),(107,.box 23 (eW r_19)),(108,.box 25 (ar q_20))]⟩) (fun z=>z) ?_ ?_
   ·refine ab.seq (ab.aa ?_)
    refine Oc (lp aN) (Oc (dI gG rfl rfl) (Oc (dG (oN x_17 aU.zero) rfl rfl gR) (Oc om ?_)))
    refine cG (decide (x_17 ≠ aU.zero)) [] (fun g31=>trivial) (fun g31=>af bj rfl rfl) (cG (decide (x_17 ≠ aU.zero)) [90] (fun g32=>⟨g32,trivial⟩) (fun g32=>au bS rfl rfl rfl) (cG (decide (x_17 ≠ aU.zero)) [] (fun g33=>trivial) (fun g33=>af bj rfl rfl) (ae.ag ⟨[(3,_),(4,_),(5,_),(13,_),(14,_),(89,B (decide (x_17 ≠ aU.zero))),(91,.dh (decide (x_17 ≠ aU.zero)) (.one (.bool a0.Neg))),(92,.dh (decide (x_17 ≠ aU.zero)) (.ptr 102 1))],[(102,_),(103,_),(104,_),(107,_),(108,_)]⟩ rfl (cG (decide (x_17 ≠ aU.zero)) [92] (fun g34=>⟨g34,trivial⟩) (fun g34=>au bS rfl rfl rfl) (cG (decide (x_17 ≠ aU.zero)) [91,93] (fun g35=>⟨g35,g35,trivial⟩) (fun g35=>eT sC rfl rfl) ?_)))))
    refine Oc (aG (fun e=>e) rfl rfl rfl rfl) (ae.an ⟨[(3,_),(4,_),(5,_),(13,_),(14,_),(95,B ((decide (x_17 ≠ aU.zero)) && (a0.Neg != b0.Neg)))],[(102,_),(103,_),(104,_),(107,_),(108,_)]⟩ rfl (ab.ite h30 rfl (fun _ h30=>?_) (fun _ h30=>?_)))
    ·refine ab.ag ⟨[(3,_),(4,_),(5,_),(13,_),(14,_)],[(102,_),(103,_),(104,_),(107,_),(108,_)]⟩ rfl ?_
     obtain ⟨x_21,e36,h30⟩:=aD h30
     obtain ⟨x_22,e37,h30⟩:=aD h30
     obtain ⟨x_23,e38,h30⟩:=aD h30
     refine ab.hS mixed 7 [.b (.agg (ar x_18)),.b (.agg (ar x_21)),.b (.agg (ar x_22)),Pt 102 2,.b (.agg (eW b0.W)),.b (.agg (eW x_17)),.b (.agg (eW x_23))] [3,4,5,13,14] [102,103,104,107,108] (s':=⟨[(3,_),(4,_),(5,_),(13,_),(14,_)],[(102,_),(103,_),(104,_),(107,.box 23 (eW x_23)),(108,.box 25 (ar x_22))]⟩) rfl ⟨fun _=>.p (lp aj),fun _=>.p (ad (il e36) nJ rfl rfl),fun _=>.p (ad (AL e37) goes182 rfl rfl),fun _=>.p (af aZ rfl rfl),fun _=>.p (lp aN),fun _=>.p (lp aN),fun _=>.p (ad (pj e38) yq rfl rfl),trivial⟩ ⟨_,by exact .p (ah aj rfl rfl rfl rfl (Nat.le_of_ble_eq_true rfl) rfl),⟨_,by exact .p (ah aN rfl rfl rfl rfl (Nat.le_of_ble_eq_true rfl) rfl),rfl⟩⟩ rfl ?_
     exact Fin.join [3,4,5,13,14] [102,103,104,107,108] (x_23,x_22) (Option.some.inj h30) rfl
    ·refine ab.skip ?_
     exact Fin.join [3,4,5,13,14] [102,103,104,107,108] (x_17,x_18) (Option.some.inj h30) rfl
   ·rintro ⟨r_19,q_20⟩ hv
    subst v29
    refine ab.seq (ab.ag ⟨[(3,_),(4,_),(5,_),(13,_),(14,_)],[(102,_),(103,_),(104,_),(107,_),(108,_)]⟩ rfl ?_)
    obtain ⟨x_24,e39,h⟩:=aD h
    refine ab.bm mixed 5 [.b (.agg (ar q_20)),Pt 102 1,B b0.Neg,.b (.agg (eW r_19)),.b (.agg (ar x_24))] [4,5] [103,104] (s':=⟨[(4,_),(5,_)],[(103,.box 25 (ar q_20)),(104,.box 25 (ar x_24))]⟩) rfl ⟨fun _=>.p (lp aj),fun _=>.p (af bj rfl rfl),fun _=>.p (au bS rfl rfl rfl),fun _=>.p (lp aN),fun _=>.p (ad (cZ e39) iV rfl rfl),trivial⟩ ⟨_,by exact .p (ah aj rfl rfl rfl rfl (Nat.le_of_ble_eq_true rfl) rfl),⟨_,by exact .p (ah aj rfl rfl rfl rfl (Nat.le_of_ble_eq_true rfl) rfl),rfl⟩⟩ rfl (ab.ret ?_)
    obtain rfl:=Option.some.inj h
    refine Fin.ag ⟨[(4,_),(5,_)],[(103,_),(104,_)]⟩ rfl (Fin.aq [.agg (ar q_20),.agg (ar x_24)] (.inl rfl) rfl (.cons (.agg aj rfl rfl rfl rfl) (.cons (.agg aj rfl rfl rfl rfl) .nil)) ⟨rfl,rfl⟩)
def j7 (F:Nat) (a0:br) (b0:br):Option br :=
 Option.bind (jQ F a0 b0) (b9 fun x_1 x_2=>some x_1)
theorem fk {F:Nat} {a0:br} {b0:br} {r:br} (h:j7 F a0 b0 = some r):aA Tryz.prog (bd mx) 78 [] [.agg (ar a0),.agg (ar b0)] (Is [] (.b (.agg (ar r)))):=by
 unfold j7 at h
 refine aA.intro 14 Tryz.func78 Tryz.ntmps78 rfl (by simp) fun E=>?_
 show ab _ E ⟨14,[],[]⟩ _ ⟨[(0,.b (.agg (ar a0))),(1,.b (.agg (ar b0)))],[]⟩ _
 refine ab.seq (ab.aa ?_)
 refine Oc (aL (k:=101) rfl rfl) (Oc (aL (k:=102) rfl rfl) (Oc (aB (k:=103) bn rfl) ?_))
 refine ae.an ⟨[(2,Pt 101 0),(3,Pt 102 0),(4,Pt 103 0)],[(101,.box 25 (ar a0)),(102,.box 25 (ar b0)),(103,.box 25 cU)]⟩ rfl (ab.seq (ab.aa ?_))
 refine Oc (lp aj) (Oc (lp aj) ?_)
 obtain ⟨⟨x_1,x_2⟩,e1,h⟩:=aD h
 refine Oc (ad (qO e1) B8 rfl rfl) (Oc om (Oc (ay rfl rfl) ?_))
 refine ae.ag ⟨[(4,_),(7,.eY [.agg (ar x_1),.agg (ar x_2)]),(11,.b (.agg (ar x_1)))],[(103,_)]⟩ rfl (Oc (ay rfl rfl) (Oc (aB (k:=104) bn rfl) (Oc (aB (k:=105) bn rfl) (Oc (ah aj rfl rfl rfl rfl (Nat.le_of_ble_eq_true rfl) rfl) (Oc (ah aj rfl rfl rfl rfl (Nat.le_of_ble_eq_true rfl) rfl) ?_)))))
 refine ae.an ⟨[(4,_),(5,Pt 104 0)],[(103,_),(104,.box 25 (ar x_1))]⟩ rfl (ab.seq (ab.aa ?_))
 refine Oc (lp aj) (Oc (ah aj rfl rfl rfl rfl (Nat.le_of_ble_eq_true rfl) rfl) ?_)
 refine ae.an ⟨[(4,_)],[(103,.box 25 (ar x_1))]⟩ rfl (ab.ret ?_)
 obtain rfl:=Option.some.inj h
 refine Fin.ag ⟨[(4,_)],[(103,_)]⟩ rfl (Fin.aq [.agg (ar x_1)] (.inl rfl) rfl (.cons (.agg aj rfl rfl rfl rfl) .nil) ⟨rfl,rfl⟩)
def j8 (F:Nat) (a0:br) (b0:br):Option br :=
 (ek F [a0,b0]).bind fun x_1=>if (!x_1) = true then ((gx F).bind fun x_2=>some x_2) else ((iI F a0.W).bind fun x_3=>(iI F b0.W).bind fun x_4=>Option.bind (iter F (b9 fun out_6 x_7=>if (decide (x_7 < x_3)) = true then (Option.bind (Option.bind (iter F (ky fun out_12 carry_13 x_14=>if (decide (x_14 < x_4)) = true then ((bI a0.W.l x_7).bind fun x_17=>(bI b0.W.l x_14).bind fun x_18=>(bI out_12.l (IntKind.i64.wrap (x_7 + x_14))).bind fun x_19=>bN (IntKind.u64.wrap (carry_13 + (IntKind.u64.wrap ((IntKind.u64.wrap ((IntKind.u64.wrap x_17) * (IntKind.u64.wrap x_18))) + (IntKind.u64.wrap x_19))))) fun x_20=>(bI out_12.l (IntKind.i64.wrap (x_7 + x_14))).bind fun x_21=>bN (IntKind.u64.wrap (carry_13 + (IntKind.u64.wrap ((IntKind.u64.wrap ((IntKind.u64.wrap x_17) * (IntKind.u64.wrap x_18))) + (IntKind.u64.wrap x_19))))) fun x_22=>some (.inl (out_12.set (IntKind.i64.wrap (x_7 + x_14)) (IntKind.u32.wrap x_20),x_22 / 4294967296,IntKind.i64.wrap (x_14 + 1)))) else (some (.inr (out_12,carry_13)))) (out_6,0,0)) (b9 fun out_10 carry_11=>(bI out_10.l (IntKind.i64.wrap (x_7 + x_4))).bind fun x_23=>some (out_10.set (IntKind.i64.wrap (x_7 + x_4)) (IntKind.u32.wrap carry_11)))) (fun out_9=>some (.inl (out_9,IntKind.i64.wrap (x_7 + 1))))) else (some (.inr out_6))) (iG.zero,0)) (fun out_5=>bN (⟨out_5.Bf,out_5.a17,out_5.a18,out_5.a19,out_5.a20,out_5.a21,out_5.a22,out_5.a23,out_5.a24,out_5.a25,out_5.a26,out_5.a27,out_5.a28,out_5.a29,out_5.a30,out_5.a31⟩:aU) fun x_24=>if (decide (x_24 ≠ aU.zero)) = true then ((gx F).bind fun x_25=>some x_25) else ((c6 F (a0.Neg != b0.Neg) (⟨out_5.a0,out_5.a1,out_5.a2,out_5.a3,out_5.a4,out_5.a5,out_5.a6,out_5.a7,out_5.a8,out_5.a9,out_5.a10,out_5.a11,out_5.a12,out_5.a13,out_5.a14,out_5.a15⟩:aU)).bind fun x_26=>some x_26)))
theorem fl {F:Nat} {a0:br} {b0:br} {r:br} (h:j8 F a0 b0 = some r):aA Tryz.prog (bd mx) 80 [] [.agg (ar a0),.agg (ar b0)] (Is [] (.b (.agg (ar r)))):=by
 unfold j8 at h
 refine aA.intro 82 Tryz.func80 Tryz.ntmps80 rfl (by simp) fun E=>?_
 show ab _ E ⟨82,[],[]⟩ _ ⟨[(0,.b (.agg (ar a0))),(1,.b (.agg (ar b0)))],[]⟩ _
 refine ab.seq (ab.aa ?_)
 refine Oc (aL (k:=101) rfl rfl) (Oc (aL (k:=102) rfl rfl) (Oc (aB (k:=103) bn rfl) ?_))
 refine ae.an ⟨[(2,Pt 101 0),(3,Pt 102 0),(4,Pt 103 0)],[(101,.box 25 (ar a0)),(102,.box 25 (ar b0)),(103,.box 25 cU)]⟩ rfl (ab.seq (ab.seq (ab.aa ?_)))
 refine Oc (lp aj) (Oc (lp aj) (Oc (bc (k:=104) (es:=[a0,b0].map ar) iR rfl rfl (cE fun _=>rfl) rfl (by decide) (by decide) rfl) ?_))
 obtain ⟨x_1,e1,h⟩:=aD h
 refine Oc (ep (ef e1) jv rfl CP.du) (Oc (aT rfl) ?_)
 refine ae.an ⟨[(2,_),(3,_),(4,_),(15,B (!x_1))],[(101,_),(102,_),(103,_)]⟩ rfl (ab.ite h rfl (fun _ h=>?_) (fun _ h=>?_))
 ·refine ab.seq (ab.aa ?_)
  obtain ⟨x_2,e2,h⟩:=aD h
  refine Oc (ad (eH e2) iU rfl rfl) (Oc (ah aj rfl rfl rfl rfl (Nat.le_of_ble_eq_true rfl) rfl) ?_)
  refine ae.an ⟨[(4,_)],[(103,.box 25 (ar x_2))]⟩ rfl (ab.ret (Fin.aw ?_))
  obtain rfl:=Option.some.inj h
  refine Fin.ag ⟨[(4,_)],[(103,_)]⟩ rfl (Fin.aq [.agg (ar x_2)] (.inl rfl) rfl (.cons (.agg aj rfl rfl rfl rfl) .nil) ⟨rfl,rfl⟩)
 ·refine ab.skip (Fin.ag ⟨[(2,_),(3,_),(4,_)],[(101,_),(102,_),(103,_)]⟩ rfl (Fin.then (ab.seq (ab.aa ?_))))
  refine Oc (aB (k:=105) Cx rfl) (ae.an ⟨[(2,_),(3,_),(4,_),(5,Pt 105 0)],[(101,_),(102,_),(103,_),(105,.box 157 ((yP .u32) iG.zero))]⟩ rfl (ab.seq ?_))
  obtain ⟨x_3,e3,h⟩:=aD h
  obtain ⟨x_4,e4,h⟩:=aD h
  refine ab.bm mixed 8 [Pt 101 2,.b (.agg (eW a0.W)),I x_3,Pt 102 2,.b (.agg (eW b0.W)),I x_4,I x_3,I x_4] [2,3,4,5,6,7] [101,102,103,105] (s':=⟨[(2,_),(3,_),(4,_),(5,_),(6,I x_3),(7,I x_4)],[(101,_),(102,_),(103,_),(105,_)]⟩) rfl ⟨fun _=>.p (af aZ rfl rfl),fun _=>.p (lp aN),fun _=>.p (ad (iM e3) oK rfl rfl),fun _=>.p (af aZ rfl rfl),fun _=>.p (lp aN),fun _=>.p (ad (iM e4) oK rfl rfl),fun _=>.p oa,fun _=>.p oa,trivial⟩ rfl rfl ?_
  obtain ⟨v5,h6,h⟩:=aD h
  refine ab.cB (v:=v5) (fun (out_5:iG)=>⟨[(2,Pt 101 0),(3,Pt 102 0),(4,Pt 103 0),(5,Pt 105 0)],[(101,.box 25 (ar a0)),(102,.box 25 (ar b0)),(103,.box 25 cU),(105,.box 157 ((yP .u32) out_5))]⟩) (fun z=>z) ?_ ?_
  ·refine ab.seq (ab.aa ?_)
   refine Oc om (Oc om ?_)
   refine ae.an ⟨[(2,_),(3,_),(4,_),(5,_),(7,_),(23,I x_3),(24,I 0)],[(101,_),(102,_),(103,_),(105,_)]⟩ rfl (ab.block (ab.cW h6 (b9 fun (out_6:iG) (x_7:Int)=>⟨[(2,Pt 101 0),(3,Pt 102 0),(4,Pt 103 0),(5,Pt 105 0),(7,I x_4),(23,I x_3),(24,I x_7)],[(101,.box 25 (ar a0)),(102,.box 25 (ar b0)),(103,.box 25 cU),(105,.box 157 ((yP .u32) out_6))]⟩) [2,3,4,5,7,23,24] [101,102,103,105] rfl ?_))
   rintro ⟨out_6,x_7⟩ o7 h8 hy9
   refine ab.seq (ab.aa ?_)
   refine Oc (bP rfl rfl) (ae.an ⟨[(2,_),(3,_),(4,_),(5,_),(7,_),(23,_),(24,_),(25,B (decide (x_7 < x_3)))],[(101,_),(102,_),(103,_),(105,_)]⟩ rfl (ab.seq (ab.ite h8 rfl (fun _ h8=>?_) (fun _ h8=>?_))))
   ·refine ab.skip (Fin.ag ⟨[(2,_),(3,_),(4,_),(5,_),(7,_),(23,_),(24,_)],[(101,_),(102,_),(103,_),(105,_)]⟩ rfl (Fin.then ?_))
    obtain ⟨v10,h11,h8⟩:=aD h8
    refine ab.cB (v:=v10) (fun (out_9:iG)=>⟨[(2,Pt 101 0),(3,Pt 102 0),(4,Pt 103 0),(5,Pt 105 0),(7,I x_4),(23,I x_3),(24,I x_7)],[(101,.box 25 (ar a0)),(102,.box 25 (ar b0)),(103,.box 25 cU),(105,.box 157 ((yP .u32) out_9))]⟩) (fun z=>z) ?_ ?_
    ·refine ab.block (ab.seq (ab.aa ?_))
     refine Oc om (Oc oa ?_)
     refine ae.an ⟨[(2,_),(3,_),(4,_),(5,_),(7,_),(8,I x_7),(23,_),(24,_)],[(101,_),(102,_),(103,_),(105,_)]⟩ rfl (ab.seq (ab.aa ?_))
     refine Oc oa (ae.an ⟨[(2,_),(3,_),(4,_),(5,_),(7,_),(8,_),(9,.b (.one (.int .u64 0))),(23,_),(24,_)],[(101,_),(102,_),(103,_),(105,_)]⟩ rfl ?_)
     obtain ⟨v12,h13,h11⟩:=aD h11
     refine ab.cB (v:=v12) (b9 fun (out_10:iG) (carry_11:Int)=>⟨[(2,Pt 101 0),(3,Pt 102 0),(4,Pt 103 0),(5,Pt 105 0),(7,I x_4),(8,I x_7),(9,.b (.one (.int .u64 carry_11))),(23,I x_3),(24,I x_7)],[(101,.box 25 (ar a0)),(102,.box 25 (ar b0)),(103,.box 25 cU),(105,.box 157 ((yP .u32) out_10))]⟩) (fun z=>z) ?_ ?_
     ·refine ab.seq (ab.aa ?_)
      refine Oc om (Oc om ?_)
      refine ae.an ⟨[(2,_),(3,_),(4,_),(5,_),(7,_),(8,_),(9,_),(23,_),(24,_),(27,I x_4),(28,I 0)],[(101,_),(102,_),(103,_),(105,_)]⟩ rfl (ab.block (ab.cW h13 (ky fun (out_12:iG) (carry_13:Int) (x_14:Int)=>⟨[(2,Pt 101 0),(3,Pt 102 0),(4,Pt 103 0),(5,Pt 105 0),(7,I x_4),(8,I x_7),(9,.b (.one (.int .u64 carry_13))),(23,I x_3),(24,I x_7),(27,I x_4),(28,I x_14)],[(101,.box 25 (ar a0)),(102,.box 25 (ar b0)),(103,.box 25 cU),(105,.box 157 ((yP .u32) out_12))]⟩) [2,3,4,5,7,8,9,23,24,27,28] [101,102,103,105] rfl ?_))
      rintro ⟨out_12,carry_13,x_14⟩ o14 h15 hy16
      refine ab.seq (ab.aa ?_)
      refine Oc (bP rfl rfl) (ae.an ⟨[(2,_),(3,_),(4,_),(5,_),(7,_),(8,_),(9,_),(23,_),(24,_),(27,_),(28,_),(29,B (decide (x_14 < x_4)))],[(101,_),(102,_),(103,_),(105,_)]⟩ rfl (ab.seq (ab.ite h15 rfl (fun _ h15=>?_) (fun _ h15=>?_))))
      ·refine ab.skip (Fin.ag ⟨[(2,_),(3,_),(4,_),(5,_),(7,_),(8,_),(9,_),(23,_),(24,_),(27,_),(28,_)],[(101,_),(102,_),(103,_),(105,_)]⟩ rfl (Fin.then (ab.seq (ab.block (ab.seq (ab.aa ?_))))))
       refine Oc om (Oc oa ?_)
       refine ae.an ⟨[(2,_),(3,_),(4,_),(5,_),(7,_),(8,_),(9,_),(10,I x_14),(23,_),(24,_),(27,_),(28,_)],[(101,_),(102,_),(103,_),(105,_)]⟩ rfl (ab.seq ?_)
       obtain ⟨x_17,e17,h15⟩:=aD h15
       obtain ⟨x_18,e18,h15⟩:=aD h15
       obtain ⟨x_19,e19,h15⟩:=aD h15
       refine ab.bm mixed 20 [.b (.one (.int .u64 carry_13)),I x_7,Pt 101 2,.b (.ptr 101 (2 + (x_7:Int).toNat * 1)),.b (.one (.int .u32 x_17)),.b (.one (.int .u64 (IntKind.u64.wrap x_17))),I x_14,Pt 102 2,.b (.ptr 102 (2 + (x_14:Int).toNat * 1)),.b (.one (.int .u32 x_18)),.b (.one (.int .u64 (IntKind.u64.wrap x_18))),.b (.one (.int .u64 (IntKind.u64.wrap ((IntKind.u64.wrap x_17) * (IntKind.u64.wrap x_18))))),I x_7,I x_14,I (IntKind.i64.wrap (x_7 + x_14)),.b (.ptr 105 (0 + (IntKind.i64.wrap (x_7 + x_14):Int).toNat * 1)),.b (.one (.int .u32 x_19)),.b (.one (.int .u64 (IntKind.u64.wrap x_19))),.b (.one (.int .u64 (IntKind.u64.wrap ((IntKind.u64.wrap ((IntKind.u64.wrap x_17) * (IntKind.u64.wrap x_18))) + (IntKind.u64.wrap x_19))))),.b (.one (.int .u64 (IntKind.u64.wrap (carry_13 + (IntKind.u64.wrap ((IntKind.u64.wrap ((IntKind.u64.wrap x_17) * (IntKind.u64.wrap x_18))) + (IntKind.u64.wrap x_19)))))))] [2,3,4,5,7,8,9,10,23,24,27,28] [101,102,103,105] (s':=⟨[(2,_),(3,_),(4,_),(5,_),(7,_),(8,_),(9,.b (.one (.int .u64 (IntKind.u64.wrap (carry_13 + (IntKind.u64.wrap ((IntKind.u64.wrap ((IntKind.u64.wrap x_17) * (IntKind.u64.wrap x_18))) + (IntKind.u64.wrap x_19)))))))),(10,_),(23,_),(24,_),(27,_),(28,_)],[(101,_),(102,_),(103,_),(105,_)]⟩) rfl ⟨fun _=>.p om,fun _=>.p om,fun _=>.p (af aZ rfl rfl),fun _=>.p (aM bF (bx e17) (cC e17) rfl rfl rfl),fun _=>.p (au bt rfl rfl (cF (post:=[]) (k:=.u32) [.bool a0.Bad,.bool a0.Neg] e17 rfl rfl rfl)),fun _=>.p (aH bR bB rfl),fun _=>.p om,fun _=>.p (af aZ rfl rfl),fun _=>.p (aM bF (bx e18) (cC e18) rfl rfl rfl),fun _=>.p (au bt rfl rfl (cF (post:=[]) (k:=.u32) [.bool b0.Bad,.bool b0.Neg] e18 rfl rfl rfl)),fun _=>.p (aH bR bB rfl),fun _=>.p (eP rfl rfl),fun _=>.p om,fun _=>.p om,fun _=>.p (bg rfl rfl),fun _=>.p (aM qc (bx e19) (cC e19) rfl rfl rfl),fun _=>.p (au bt rfl rfl (cF (post:=[]) (k:=.u32) [] e19 rfl rfl rfl)),fun _=>.p (aH bR bB rfl),fun _=>.p (bg rfl rfl),fun _=>.p (bg rfl rfl),trivial⟩ ⟨_,by exact .p oa,rfl⟩ rfl (ab.seq (ab.aa ?_))
       refine Oc om (Oc om (Oc (bg rfl rfl) ?_))
       refine ae.cD .u64 h15 rfl om (fun x_20 h15=>?_)
       refine Oc (aH bB bR rfl) ?_
       obtain ⟨x_21,e20,h15⟩:=aD h15
       refine Oc (aM qc (bx e20) (cC e20) rfl rfl rfl) (Oc (cc bt rfl rfl rfl (j4 (post:=[]) (k:=.u32) [] e20 rfl rfl rfl) (iD (post:=[]) (k:=.u32) [] e20 rfl rfl (iG.jh out_12 (IntKind.i64.wrap (x_7 + x_14)) (IntKind.u32.wrap x_20)) rfl rfl)) ?_)
       refine ae.an ⟨[(2,_),(3,_),(4,_),(5,_),(7,_),(8,_),(9,_),(23,_),(24,_),(27,_),(28,_)],[(101,_),(102,_),(103,_),(105,.box 157 ((yP .u32) (out_12.set (IntKind.i64.wrap (x_7 + x_14)) (IntKind.u32.wrap x_20))))]⟩ rfl (ab.aa (ae.cD .u64 h15 rfl om (fun x_22 h15=>?_)))
       refine Oc (jt (m:=32) (by decide) rfl rfl rfl) (Oc oa ?_)
       refine ae.nil (Fin.aI (Fin.ag ⟨[(2,_),(3,_),(4,_),(5,_),(7,_),(8,_),(9,.b (.one (.int .u64 (x_22 / 4294967296)))),(23,_),(24,_),(27,_),(28,_)],[(101,_),(102,_),(103,_),(105,_)]⟩ rfl (Fin.then (ab.aa ?_))))
       refine Oc (bg rfl rfl) (Oc om ?_)
       refine ae.nil ?_
       exact Fin.b6 [2,3,4,5,7,8,9,23,24,27,28] [101,102,103,105] (out_12.set (IntKind.i64.wrap (x_7 + x_14)) (IntKind.u32.wrap x_20),x_22 / 4294967296,IntKind.i64.wrap (x_14 + 1)) (Option.some.inj h15) rfl
      ·refine ab.exit (Fin.aF ?_)
       obtain rfl:=hy16 _ (Option.some.inj h15).symm
       refine Fin.aF (Fin.aX ?_)
       exact Fin.join [2,3,4,5,7,8,9,23,24] [101,102,103,105] (out_12,carry_13) rfl rfl
     ·rintro ⟨out_10,carry_11⟩ hv
      subst v12
      refine ab.aa (Oc om (Oc om (Oc (bg rfl rfl) (Oc om (Oc (aH bB bR rfl) ?_)))))
      obtain ⟨x_23,e21,h11⟩:=aD h11
      refine Oc (aM qc (bx e21) (cC e21) rfl rfl rfl) (Oc (cc bt rfl rfl rfl (j4 (post:=[]) (k:=.u32) [] e21 rfl rfl rfl) (iD (post:=[]) (k:=.u32) [] e21 rfl rfl (iG.jh out_10 (IntKind.i64.wrap (x_7 + x_4)) (IntKind.u32.wrap carry_11)) rfl rfl)) ?_)
      refine ae.nil (Fin.aI ?_)
      exact Fin.join [2,3,4,5,7,23,24] [101,102,103,105] (out_10.set (IntKind.i64.wrap (x_7 + x_4)) (IntKind.u32.wrap carry_11)) (Option.some.inj h11) rfl
    ·rintro out_9 hv
     subst v10
     refine ab.aa (Oc (bg rfl rfl) (Oc om ?_))
     refine ae.nil ?_
     exact Fin.b6 [2,3,4,5,7,23,24] [101,102,103,105] (out_9,IntKind.i64.wrap (x_7 + 1)) (Option.some.inj h8) rfl
   ·refine ab.exit (Fin.aF ?_)
    obtain rfl:=hy9 _ (Option.some.inj h8).symm
    refine Fin.aF (Fin.aX ?_)
    exact Fin.join [2,3,4,5] [101,102,103,105] out_6 rfl rfl
  ·rintro out_5 hv
   subst v5
   refine ab.seq (ab.seq (ab.aa ?_))
   refine Oc (zS (i:=16) qc (by decide) (by decide) rfl rfl) (Oc (vY bF (by decide) rfl) ?_)
   refine ae.dO eW h rfl (lp aN) (fun x_24 h=>?_)
   refine Oc (dI gG rfl rfl) (Oc (dG (oN x_24 aU.zero) rfl rfl gR) ?_)
   refine ae.an ⟨[(2,_),(3,_),(4,_),(5,_),(71,B (decide (x_24 ≠ aU.zero)))],[(101,_),(102,_),(103,_),(105,_)]⟩ rfl (ab.ite h rfl (fun _ h=>?_) (fun _ h=>?_))
   ·refine ab.seq (ab.aa ?_)
    obtain ⟨x_25,e22,h⟩:=aD h
    refine Oc (ad (eH e22) iU rfl rfl) (Oc (ah aj rfl rfl rfl rfl (Nat.le_of_ble_eq_true rfl) rfl) ?_)
    refine ae.an ⟨[(4,_)],[(103,.box 25 (ar x_25))]⟩ rfl (ab.ret (Fin.aw ?_))
    obtain rfl:=Option.some.inj h
    refine Fin.ag ⟨[(4,_)],[(103,_)]⟩ rfl (Fin.aq [.agg (ar x_25)] (.inl rfl) rfl (.cons (.agg aj rfl rfl rfl rfl) .nil) ⟨rfl,rfl⟩)
   ·refine ab.skip (Fin.ag ⟨[(2,_),(3,_),(4,_),(5,_)],[(101,_),(102,_),(103,_),(105,_)]⟩ rfl (Fin.then (ab.seq ?_)))
    refine ab.ag ⟨[(2,_),(3,_),(4,_),(5,_)],[(101,_),(102,_),(103,_),(105,_)]⟩ rfl ?_
    obtain ⟨x_26,e23,h⟩:=aD h
    refine ab.bm mixed 9 [Pt 101 1,B a0.Neg,Pt 102 1,B b0.Neg,B (a0.Neg != b0.Neg),.b (.uT 105 0 16 32),Pt 105 0,.b (.agg [.int .u32 out_5.a0,.int .u32 out_5.a1,.int .u32 out_5.a2,.int .u32 out_5.a3,.int .u32 out_5.a4,.int .u32 out_5.a5,.int .u32 out_5.a6,.int .u32 out_5.a7,.int .u32 out_5.a8,.int .u32 out_5.a9,.int .u32 out_5.a10,.int .u32 out_5.a11,.int .u32 out_5.a12,.int .u32 out_5.a13,.int .u32 out_5.a14,.int .u32 out_5.a15]),.b (.agg (ar x_26))] [4] [103] (s':=⟨[(4,_)],[(103,.box 25 (ar x_26))]⟩) rfl ⟨fun _=>.p (af bj rfl rfl),fun _=>.p (au bS rfl rfl rfl),fun _=>.p (af bj rfl rfl),fun _=>.p (au bS rfl rfl rfl),fun _=>.p (eT sC rfl rfl),fun _=>.p (uA (i:=16) qc (by decide) (by decide) rfl rfl),fun _=>.p (vY bF (by decide) rfl),fun _=>.p (lp aN),fun _=>.p (ad (cZ e23) iV rfl rfl),trivial⟩ ⟨_,by exact .p (ah aj rfl rfl rfl rfl (Nat.le_of_ble_eq_true rfl) rfl),rfl⟩ rfl (ab.ret ?_)
    obtain rfl:=Option.some.inj h
    refine Fin.ag ⟨[(4,_)],[(103,_)]⟩ rfl (Fin.aq [.agg (ar x_26)] (.inl rfl) rfl (.cons (.agg aj rfl rfl rfl rfl) .nil) ⟨rfl,rfl⟩)
def jn (F:Nat) (n0:br) (d0:br):Option bz :=
 (ld F n0).bind fun x_1=>(bE (!(!x_1)) (ld F d0)).bind fun x_2=>(bE (!((!x_1) || (!x_2))) (gD F d0)).bind fun x_3=>if (((!x_1) || (!x_2)) || (decide (x_3 = 0))) = true then ((iT F).bind fun x_4=>some x_4) else ((qV F n0 d0).bind fun x_5=>Option.bind ((gD F d0).bind fun x_7=>if (decide (x_7 < 0)) = true then ((oy F x_5).bind fun x_8=>some x_8) else (some x_5)) (fun g_6=>(j7 F n0 g_6).bind fun x_9=>(j7 F d0 g_6).bind fun x_10=>some (⟨x_9,x_10⟩:bz)))
theorem eg {F:Nat} {n0:br} {d0:br} {r:bz} (h:jn F n0 d0 = some r):aA Tryz.prog (bd mx) 76 [] [.agg (ar n0),.agg (ar d0)] (Is [] (.b (.agg (aE r)))):=by
 unfold jn at h
 refine aA.intro 35 Tryz.func76 Tryz.ntmps76 rfl (by simp) fun E=>?_
 show ab _ E ⟨35,[],[]⟩ _ ⟨[(0,.b (.agg (ar n0))),(1,.b (.agg (ar d0)))],[]⟩ _
 refine ab.seq (ab.aa ?_)
 refine Oc (aL (k:=101) rfl rfl) (Oc (aL (k:=102) rfl rfl) (Oc (aB (k:=103) bQ rfl) ?_))
 refine ae.an ⟨[(2,Pt 101 0),(3,Pt 102 0),(4,Pt 103 0)],[(101,.box 25 (ar n0)),(102,.box 25 (ar d0)),(103,.box 27 dM)]⟩ rfl (ab.seq (ab.seq (ab.aa ?_)))
 refine Oc (lp aj) ?_
 obtain ⟨x_1,e1,h⟩:=aD h
 refine Oc (ad (nC e1) vd rfl rfl) (Oc (aT rfl) (Oc om ?_))
 refine cx (!(!x_1)) [] (fun g2=>trivial) (fun g2=>lp aj) (ae.ag ⟨[(2,_),(3,_),(4,_),(9,B (!x_1)),(10,.dh (!(!x_1)) (.agg (ar d0)))],[(101,_),(102,_),(103,_)]⟩ rfl ?_)
 obtain ⟨x_2,e4,h⟩:=aD h
 refine cx (!(!x_1)) [10] (fun g3=>⟨g3,trivial⟩) (fun g3=>ad (nC (gc e4 g3)) vd rfl rfl) (cx (!(!x_1)) [11] (fun g5=>⟨g5,trivial⟩) (fun g5=>aT rfl) (Oc (aQ (fun e=>by rw [e]; rfl) rfl rfl rfl rfl) (Oc om ?_)))
 refine cx (!((!x_1) || (!x_2))) [] (fun g6=>trivial) (fun g6=>lp aj) ?_
 obtain ⟨x_3,e8,h⟩:=aD h
 refine cx (!((!x_1) || (!x_2))) [15] (fun g7=>⟨g7,trivial⟩) (fun g7=>ad (iN (gc e8 g7)) sd rfl rfl) (cx (!((!x_1) || (!x_2))) [16] (fun g9=>⟨g9,trivial⟩) (fun g9=>cR rfl rfl) (Oc (aQ (fun e=>by rw [e]; rfl) rfl rfl rfl rfl) (ae.an ⟨[(2,_),(3,_),(4,_),(18,B (((!x_1) || (!x_2)) || (decide (x_3 = 0))))],[(101,_),(102,_),(103,_)]⟩ rfl (ab.ite h rfl (fun _ h=>?_) (fun _ h=>?_)))))
 ·refine ab.seq (ab.aa ?_)
  obtain ⟨x_4,e10,h⟩:=aD h
  refine Oc (ad (gV e10) ow rfl rfl) (Oc (ah aC rfl rfl rfl rfl (Nat.le_of_ble_eq_true rfl) rfl) ?_)
  refine ae.an ⟨[(4,_)],[(103,.box 27 (aE x_4))]⟩ rfl (ab.ret (Fin.aw ?_))
  obtain rfl:=Option.some.inj h
  refine Fin.ag ⟨[(4,_)],[(103,_)]⟩ rfl (Fin.aq [.agg (aE x_4)] (.inl rfl) rfl (.cons (.agg aC rfl rfl rfl rfl) .nil) ⟨rfl,rfl⟩)
 ·refine ab.skip (Fin.ag ⟨[(2,_),(3,_),(4,_)],[(101,_),(102,_),(103,_)]⟩ rfl (Fin.then (ab.seq (ab.aa ?_))))
  refine Oc (lp aj) (Oc (lp aj) ?_)
  obtain ⟨x_5,e11,h⟩:=aD h
  refine Oc (ad (sj e11) xW rfl rfl) (Oc (aB (k:=104) bn rfl) (Oc (ah aj rfl rfl rfl rfl (Nat.le_of_ble_eq_true rfl) rfl) ?_))
  refine ae.an ⟨[(2,_),(3,_),(4,_),(5,Pt 104 0)],[(101,_),(102,_),(103,_),(104,.box 25 (ar x_5))]⟩ rfl ?_
  obtain ⟨v12,h13,h⟩:=aD h
  refine ab.cB (v:=v12) (fun (g_6:br)=>⟨[(2,Pt 101 0),(3,Pt 102 0),(4,Pt 103 0),(5,Pt 104 0)],[(101,.box 25 (ar n0)),(102,.box 25 (ar d0)),(103,.box 27 dM),(104,.box 25 (ar g_6))]⟩) (fun z=>z) ?_ ?_
  ·refine ab.seq (ab.aa ?_)
   refine Oc (lp aj) ?_
   obtain ⟨x_7,e14,h13⟩:=aD h13
   refine Oc (ad (iN e14) sd rfl rfl) (Oc (bP rfl rfl) ?_)
   refine ae.an ⟨[(2,_),(3,_),(4,_),(5,_),(25,B (decide (x_7 < 0)))],[(101,_),(102,_),(103,_),(104,_)]⟩ rfl (ab.ite h13 rfl (fun _ h13=>?_) (fun _ h13=>?_))
   ·refine ab.aa (Oc (lp aj) ?_)
    obtain ⟨x_8,e15,h13⟩:=aD h13
    refine Oc (ad (si e15) At rfl rfl) (Oc (ah aj rfl rfl rfl rfl (Nat.le_of_ble_eq_true rfl) rfl) ?_)
    refine ae.nil ?_
    exact Fin.join [2,3,4,5] [101,102,103,104] x_8 (Option.some.inj h13) rfl
   ·refine ab.skip ?_
    exact Fin.join [2,3,4,5] [101,102,103,104] x_5 (Option.some.inj h13) rfl
  ·rintro g_6 hv
   subst v12
   refine ab.seq (ab.ag ⟨[(2,_),(3,_),(4,_),(5,_)],[(101,_),(102,_),(103,_),(104,_)]⟩ rfl ?_)
   obtain ⟨x_9,e16,h⟩:=aD h
   obtain ⟨x_10,e17,h⟩:=aD h
   refine ab.bm mixed 7 [.b (.agg (ar n0)),.b (.agg (ar g_6)),.b (.agg (ar x_9)),.b (.agg (ar d0)),.b (.agg (ar g_6)),.b (.agg (ar x_10)),.b (.agg (ar x_9 ++ (ar x_10)))] [4] [103] (s':=⟨[(4,_)],[(103,.box 27 (ar x_9 ++ (ar x_10)))]⟩) rfl ⟨fun _=>.p (lp aj),fun _=>.p (lp aj),fun _=>.p (ad (fk e16) lD rfl rfl),fun _=>.p (lp aj),fun _=>.p (lp aj),fun _=>.p (ad (fk e17) lD rfl rfl),fun _=>.p (aS dW rfl rfl),trivial⟩ ⟨_,by exact .p (ah aC rfl rfl rfl rfl (Nat.le_of_ble_eq_true rfl) rfl),rfl⟩ rfl (ab.ret ?_)
   obtain rfl:=Option.some.inj h
   refine Fin.ag ⟨[(4,_)],[(103,_)]⟩ rfl (Fin.aq [.agg (ar x_9 ++ (ar x_10))] (.inl rfl) rfl (.cons (.agg aC rfl rfl rfl rfl) .nil) ⟨rfl,rfl⟩)
def oF (F:Nat) (x0:bz) (y0:bz):Option bz :=
 (dx F x0).bind fun x_1=>(bE (!(!x_1)) (dx F y0)).bind fun x_2=>if ((!x_1) || (!x_2)) = true then ((iT F).bind fun x_3=>some x_3) else ((qV F x0.D y0.D).bind fun x_4=>(j7 F x0.D x_4).bind fun x_5=>(j7 F y0.D x_4).bind fun x_6=>(j8 F x0.N x_6).bind fun x_7=>(j8 F y0.N x_5).bind fun x_8=>(oB F x_7 x_8).bind fun x_9=>(j8 F x_5 y0.D).bind fun x_10=>(jn F x_9 x_10).bind fun x_11=>some x_11)
theorem sr {F:Nat} {x0:bz} {y0:bz} {r:bz} (h:oF F x0 y0 = some r):aA Tryz.prog (bd mx) 22 [] [.agg (aE x0),.agg (aE y0)] (Is [] (.b (.agg (aE r)))):=by
 unfold oF at h
 refine aA.intro 44 Tryz.func22 Tryz.ntmps22 rfl (by simp) fun E=>?_
 show ab _ E ⟨44,[],[]⟩ _ ⟨[(0,.b (.agg (aE x0))),(1,.b (.agg (aE y0)))],[]⟩ _
 refine ab.seq (ab.aa ?_)
 refine Oc (aL (k:=101) rfl rfl) (Oc (aL (k:=102) rfl rfl) (Oc (aB (k:=103) bQ rfl) ?_))
 refine ae.an ⟨[(2,Pt 101 0),(3,Pt 102 0),(4,Pt 103 0)],[(101,.box 27 (aE x0)),(102,.box 27 (aE y0)),(103,.box 27 dM)]⟩ rfl (ab.seq (ab.seq (ab.aa ?_)))
 refine Oc (lp aC) ?_
 obtain ⟨x_1,e1,h⟩:=aD h
 refine Oc (ad (dp e1) j3 rfl rfl) (Oc (aT rfl) (Oc om ?_))
 refine cx (!(!x_1)) [] (fun g2=>trivial) (fun g2=>lp aC) (ae.ag ⟨[(2,_),(3,_),(4,_),(11,B (!x_1)),(12,.dh (!(!x_1)) (.agg (aE y0)))],[(101,_),(102,_),(103,_)]⟩ rfl ?_)
 obtain ⟨x_2,e4,h⟩:=aD h
 refine cx (!(!x_1)) [12] (fun g3=>⟨g3,trivial⟩) (fun g3=>ad (dp (gc e4 g3)) j3 rfl rfl) (cx (!(!x_1)) [13] (fun g5=>⟨g5,trivial⟩) (fun g5=>aT rfl) (Oc (aQ (fun e=>by rw [e]; rfl) rfl rfl rfl rfl) (ae.an ⟨[(2,_),(3,_),(4,_),(15,B ((!x_1) || (!x_2)))],[(101,_),(102,_),(103,_)]⟩ rfl (ab.ite h rfl (fun _ h=>?_) (fun _ h=>?_)))))
 ·refine ab.seq (ab.aa ?_)
  obtain ⟨x_3,e6,h⟩:=aD h
  refine Oc (ad (gV e6) ow rfl rfl) (Oc (ah aC rfl rfl rfl rfl (Nat.le_of_ble_eq_true rfl) rfl) ?_)
  refine ae.an ⟨[(4,_)],[(103,.box 27 (aE x_3))]⟩ rfl (ab.ret (Fin.aw ?_))
  obtain rfl:=Option.some.inj h
  refine Fin.ag ⟨[(4,_)],[(103,_)]⟩ rfl (Fin.aq [.agg (aE x_3)] (.inl rfl) rfl (.cons (.agg aC rfl rfl rfl rfl) .nil) ⟨rfl,rfl⟩)
 ·refine ab.skip (Fin.ag ⟨[(2,_),(3,_),(4,_)],[(101,_),(102,_),(103,_)]⟩ rfl (Fin.then (ab.seq (ab.aa ?_))))
  refine Oc (af aV rfl rfl) (Oc (lp aj) (Oc (af aV rfl rfl) (Oc (lp aj) ?_)))
  obtain ⟨x_4,e7,h⟩:=aD h
  refine Oc (ad (sj e7) xW rfl rfl) (Oc (aB (k:=104) bn rfl) (Oc (ah aj rfl rfl rfl rfl (Nat.le_of_ble_eq_true rfl) rfl) ?_))
  refine ae.an ⟨[(2,_),(3,_),(4,_),(5,Pt 104 0)],[(101,_),(102,_),(103,_),(104,.box 25 (ar x_4))]⟩ rfl (ab.seq ?_)
  obtain ⟨x_5,e8,h⟩:=aD h
  obtain ⟨x_6,e9,h⟩:=aD h
  refine ab.oE mixed [false,false,false,false,false,false,false,false,true,true,true,true] [Pt 101 18,.b (.agg (ar x0.D)),.b (.agg (ar x_4)),.b (.agg (ar x_5)),Pt 102 18,.b (.agg (ar y0.D)),.b (.agg (ar x_4)),.b (.agg (ar x_6)),Pt 105 0,Pt 106 0,B true,B true] [⟨[false,false,false,false,false,false,false,false,false,false,false,false],[(2,Pt 101 0),(3,Pt 102 0),(4,Pt 103 0),(5,Pt 104 0)],[(101,.box 27 (aE x0)),(102,.box 27 (aE y0)),(103,.box 27 dM),(104,.box 25 (ar x_4))],[true,true,true,true,true,true,true,true,true,true,true,true],[]⟩,⟨[false,false,false,false,false,false,false,false,true,false,false,false],[(2,Pt 101 0),(3,Pt 102 0),(4,Pt 103 0),(5,Pt 104 0)],[(101,.box 27 (aE x0)),(102,.box 27 (aE y0)),(103,.box 27 dM),(104,.box 25 (ar x_4)),(105,.box 25 cU)],[true,true,true,true,true,true,true,true,true,true,true,true],[8]⟩,⟨[false,false,false,false,false,false,false,false,false,true,false,false],[(2,Pt 101 0),(3,Pt 102 0),(4,Pt 103 0),(5,Pt 104 0)],[(101,.box 27 (aE x0)),(102,.box 27 (aE y0)),(103,.box 27 dM),(104,.box 25 (ar x_4)),(106,.box 25 cU)],[true,true,true,true,true,true,true,true,true,true,true,true],[9]⟩,⟨[false,false,false,false,false,false,false,false,true,true,false,false],[(2,Pt 101 0),(3,Pt 102 0),(4,Pt 103 0),(5,Pt 104 0)],[(101,.box 27 (aE x0)),(102,.box 27 (aE y0)),(103,.box 27 dM),(104,.box 25 (ar x_4)),(105,.box 25 cU),(106,.box 25 cU)],[true,true,true,true,true,true,true,true,true,true,true,true],[8,9]⟩,⟨[false,false,false,false,false,false,false,false,true,true,true,false],[(2,Pt 101 0),(3,Pt 102 0),(4,Pt 103 0),(5,Pt 104 0)],[(101,.box 27 (aE x0)),(102,.box 27 (aE y0)),(103,.box 27 dM),(104,.box 25 (ar x_4)),(105,.box 25 (ar x_5)),(106,.box 25 cU)],[true,true,true,true,true,true,true,true,true,true,true,true],[0,1,2,3,4,5,6,7,8,9,10]⟩,⟨[false,false,false,false,false,false,false,false,true,true,true,true],[(2,Pt 101 0),(3,Pt 102 0),(4,Pt 103 0),(5,Pt 104 0)],[(101,.box 27 (aE x0)),(102,.box 27 (aE y0)),(103,.box 27 dM),(104,.box 25 (ar x_4)),(105,.box 25 (ar x_5)),(106,.box 25 (ar x_6))],[true,true,true,true,true,true,true,true,true,true,true,true],[0,1,2,3,4,5,6,7,8,9,10,11]⟩] rfl (⟨by kernel_rfl,⟨⟨Pt 101 18,fun _=>rfl,fun _=>.p (by exact af aV rfl rfl)⟩,⟨.b (.agg (ar x0.D)),fun _=>rfl,fun _=>.p (by exact aR aj rfl rfl rfl rfl)⟩,⟨.b (.agg (ar x_4)),fun _=>rfl,fun _=>.p (by exact aR aj rfl rfl rfl rfl)⟩,⟨.b (.agg (ar x_5)),fun _=>rfl,fun _=>.p (by exact ad (fk e8) lD rfl rfl)⟩,⟨Pt 102 18,fun _=>rfl,fun _=>.p (by exact af aV rfl rfl)⟩,⟨.b (.agg (ar y0.D)),fun _=>rfl,fun _=>.p (by exact aR aj rfl rfl rfl rfl)⟩,⟨.b (.agg (ar x_4)),fun _=>rfl,fun _=>.p (by exact aR aj rfl rfl rfl rfl)⟩,⟨.b (.agg (ar x_6)),fun _=>rfl,fun _=>.p (by exact ad (fk e9) lD rfl rfl)⟩,⟨_,some 105,Pt 105 0,rfl,fun _=>rfl,rfl,rfl,fun _=>.rY [101,102,103,104,105] (by exact .p (by exact aB (k:=105) bn rfl)) (by exact rfl)⟩,⟨_,some 106,Pt 106 0,rfl,fun _=>rfl,rfl,rfl,fun _=>.rY [101,102,103,104,106] (by exact .p (by exact aB (k:=106) bn rfl)) (by exact rfl)⟩,trivial,trivial,trivial⟩,⟨by kernel_rfl,⟨⟨Pt 101 18,fun _=>rfl,fun _=>.p (by exact af aV rfl rfl)⟩,⟨.b (.agg (ar x0.D)),fun _=>rfl,fun _=>.p (by exact aR aj rfl rfl rfl rfl)⟩,⟨.b (.agg (ar x_4)),fun _=>rfl,fun _=>.p (by exact aR aj rfl rfl rfl rfl)⟩,⟨.b (.agg (ar x_5)),fun _=>rfl,fun _=>.p (by exact ad (fk e8) lD rfl rfl)⟩,⟨Pt 102 18,fun _=>rfl,fun _=>.p (by exact af aV rfl rfl)⟩,⟨.b (.agg (ar y0.D)),fun _=>rfl,fun _=>.p (by exact aR aj rfl rfl rfl rfl)⟩,⟨.b (.agg (ar x_4)),fun _=>rfl,fun _=>.p (by exact aR aj rfl rfl rfl rfl)⟩,⟨.b (.agg (ar x_6)),fun _=>rfl,fun _=>.p (by exact ad (fk e9) lD rfl rfl)⟩,trivial,⟨_,some 106,Pt 106 0,rfl,fun _=>rfl,rfl,rfl,fun _=>.rY [101,102,103,104,105,106] (by exact .p (by exact aB (k:=106) bn rfl)) (by exact rfl)⟩,trivial,trivial,trivial⟩,⟨by kernel_rfl,⟨⟨Pt 101 18,fun _=>rfl,fun _=>.p (by exact af aV rfl rfl)⟩,⟨.b (.agg (ar x0.D)),fun _=>rfl,fun _=>.p (by exact aR aj rfl rfl rfl rfl)⟩,⟨.b (.agg (ar x_4)),fun _=>rfl,fun _=>.p (by exact aR aj rfl rfl rfl rfl)⟩,⟨.b (.agg (ar x_5)),fun _=>rfl,fun _=>.p (by exact ad (fk e8) lD rfl rfl)⟩,⟨Pt 102 18,fun _=>rfl,fun _=>.p (by exact af aV rfl rfl)⟩,⟨.b (.agg (ar y0.D)),fun _=>rfl,fun _=>.p (by exact aR aj rfl rfl rfl rfl)⟩,⟨.b (.agg (ar x_4)),fun _=>rfl,fun _=>.p (by exact aR aj rfl rfl rfl rfl)⟩,⟨.b (.agg (ar x_6)),fun _=>rfl,fun _=>.p (by exact ad (fk e9) lD rfl rfl)⟩,⟨_,some 105,Pt 105 0,rfl,fun _=>rfl,rfl,rfl,fun _=>.rY [101,102,103,104,105,106] (by exact .p (by exact aB (k:=105) bn rfl)) (by exact rfl)⟩,trivial,trivial,trivial,trivial⟩,⟨by kernel_rfl,⟨⟨Pt 101 18,fun _=>rfl,fun _=>.p (by exact af aV rfl rfl)⟩,⟨.b (.agg (ar x0.D)),fun _=>rfl,fun _=>.p (by exact aR aj rfl rfl rfl rfl)⟩,⟨.b (.agg (ar x_4)),fun _=>rfl,fun _=>.p (by exact aR aj rfl rfl rfl rfl)⟩,⟨.b (.agg (ar x_5)),fun _=>rfl,fun _=>.p (by exact ad (fk e8) lD rfl rfl)⟩,⟨Pt 102 18,fun _=>rfl,fun _=>.p (by exact af aV rfl rfl)⟩,⟨.b (.agg (ar y0.D)),fun _=>rfl,fun _=>.p (by exact aR aj rfl rfl rfl rfl)⟩,⟨.b (.agg (ar x_4)),fun _=>rfl,fun _=>.p (by exact aR aj rfl rfl rfl rfl)⟩,⟨.b (.agg (ar x_6)),fun _=>rfl,fun _=>.p (by exact ad (fk e9) lD rfl rfl)⟩,trivial,trivial,⟨_,none,.b (.one .any),rfl,(fun e=>by simp at e),rfl,rfl,fun _=>.rY [101,102,103,104,105,106] (by exact .p (by exact ah aj rfl rfl rfl rfl (Nat.le_of_ble_eq_true rfl) rfl)) (by exact rfl)⟩,trivial,trivial⟩,⟨by kernel_rfl,⟨trivial,trivial,trivial,trivial,trivial,trivial,trivial,trivial,trivial,trivial,trivial,⟨_,none,.b (.one .any),rfl,(fun e=>by simp at e),rfl,rfl,fun _=>.rY [101,102,103,104,105,106] (by exact .p (by exact ah aj rfl rfl rfl rfl (Nat.le_of_ble_eq_true rfl) rfl)) (by exact rfl)⟩,trivial⟩,⟨by kernel_rfl,⟨trivial,trivial,trivial,trivial,trivial,trivial,trivial,trivial,trivial,trivial,trivial,trivial,trivial⟩,trivial⟩⟩⟩⟩⟩⟩) rfl rfl rfl [2,3,4,6,7] [101,102,103,105,106] (s':=⟨[(2,_),(3,_),(4,_),(6,Pt 105 0),(7,Pt 106 0)],[(101,_),(102,_),(103,_),(105,.box 25 (ar x_5)),(106,.box 25 (ar x_6))]⟩) rfl ?_
  refine ab.seq (ab.ag ⟨[(2,_),(3,_),(4,_),(6,_),(7,_)],[(101,_),(102,_),(103,_),(105,_),(106,_)]⟩ rfl ?_)
  obtain ⟨x_7,e10,h⟩:=aD h
  obtain ⟨x_8,e11,h⟩:=aD h
  obtain ⟨x_9,e12,h⟩:=aD h
  obtain ⟨x_10,e13,h⟩:=aD h
  obtain ⟨x_11,e14,h⟩:=aD h
  refine ab.bm mixed 14 [Pt 101 0,.b (.agg (ar x0.N)),.b (.agg (ar x_6)),.b (.agg (ar x_7)),Pt 102 0,.b (.agg (ar y0.N)),.b (.agg (ar x_5)),.b (.agg (ar x_8)),.b (.agg (ar x_9)),.b (.agg (ar x_5)),Pt 102 18,.b (.agg (ar y0.D)),.b (.agg (ar x_10)),.b (.agg (aE x_11))] [4] [103] (s':=⟨[(4,_)],[(103,.box 27 (aE x_11))]⟩) rfl ⟨fun _=>.p (af bq rfl rfl),fun _=>.p (lp aj),fun _=>.p (lp aj),fun _=>.p (ad (fl e10) lC rfl rfl),fun _=>.p (af bq rfl rfl),fun _=>.p (lp aj),fun _=>.p (lp aj),fun _=>.p (ad (fl e11) lC rfl rfl),fun _=>.p (ad (sn e12) Au rfl rfl),fun _=>.p (lp aj),fun _=>.p (af aV rfl rfl),fun _=>.p (lp aj),fun _=>.p (ad (fl e13) lC rfl rfl),fun _=>.p (ad (eg e14) lE rfl rfl),trivial⟩ ⟨_,by exact .p (ah aC rfl rfl rfl rfl (Nat.le_of_ble_eq_true rfl) rfl),rfl⟩ rfl (ab.ret ?_)
  obtain rfl:=Option.some.inj h
  refine Fin.ag ⟨[(4,_)],[(103,_)]⟩ rfl (Fin.aq [.agg (aE x_11)] (.inl rfl) rfl (.cons (.agg aC rfl rfl rfl rfl) .nil) ⟨rfl,rfl⟩)
def q7 (F:Nat) (x0:bz):Option bz :=
 (dx F x0).bind fun x_1=>if (!x_1) = true then ((iT F).bind fun x_2=>some x_2) else ((oy F x0.N).bind fun x_3=>some (⟨x_3,x0.D⟩:bz))
theorem wD {F:Nat} {x0:bz} {r:bz} (h:q7 F x0 = some r):aA Tryz.prog (bd mx) 24 [] [.agg (aE x0)] (Is [] (.b (.agg (aE r)))):=by
 unfold q7 at h
 refine aA.intro 13 Tryz.func24 Tryz.ntmps24 rfl (by simp) fun E=>?_
 show ab _ E ⟨13,[],[]⟩ _ ⟨[(0,.b (.agg (aE x0)))],[]⟩ _
 refine ab.seq (ab.aa ?_)
 refine Oc (aL (k:=101) rfl rfl) (Oc (aB (k:=102) bQ rfl) ?_)
 refine ae.an ⟨[(1,Pt 101 0),(2,Pt 102 0)],[(101,.box 27 (aE x0)),(102,.box 27 dM)]⟩ rfl (ab.seq (ab.seq (ab.aa ?_)))
 refine Oc (lp aC) ?_
 obtain ⟨x_1,e1,h⟩:=aD h
 refine Oc (ad (dp e1) j3 rfl rfl) (Oc (aT rfl) ?_)
 refine ae.an ⟨[(1,_),(2,_),(5,B (!x_1))],[(101,_),(102,_)]⟩ rfl (ab.ite h rfl (fun _ h=>?_) (fun _ h=>?_))
 ·refine ab.seq (ab.aa ?_)
  obtain ⟨x_2,e2,h⟩:=aD h
  refine Oc (ad (gV e2) ow rfl rfl) (Oc (ah aC rfl rfl rfl rfl (Nat.le_of_ble_eq_true rfl) rfl) ?_)
  refine ae.an ⟨[(2,_)],[(102,.box 27 (aE x_2))]⟩ rfl (ab.ret (Fin.aw ?_))
  obtain rfl:=Option.some.inj h
  refine Fin.ag ⟨[(2,_)],[(102,_)]⟩ rfl (Fin.aq [.agg (aE x_2)] (.inl rfl) rfl (.cons (.agg aC rfl rfl rfl rfl) .nil) ⟨rfl,rfl⟩)
 ·refine ab.skip (Fin.ag ⟨[(1,_),(2,_)],[(101,_),(102,_)]⟩ rfl (Fin.then (ab.seq ?_)))
  refine ab.ag ⟨[(1,_),(2,_)],[(101,_),(102,_)]⟩ rfl ?_
  obtain ⟨x_3,e3,h⟩:=aD h
  refine ab.bm mixed 6 [Pt 101 0,.b (.agg (ar x0.N)),.b (.agg (ar x_3)),Pt 101 18,.b (.agg (ar x0.D)),.b (.agg (ar x_3 ++ (ar x0.D)))] [2] [102] (s':=⟨[(2,_)],[(102,.box 27 (ar x_3 ++ (ar x0.D)))]⟩) rfl ⟨fun _=>.p (af bq rfl rfl),fun _=>.p (lp aj),fun _=>.p (ad (si e3) At rfl rfl),fun _=>.p (af aV rfl rfl),fun _=>.p (lp aj),fun _=>.p (aS dW rfl rfl),trivial⟩ ⟨_,by exact .p (ah aC rfl rfl rfl rfl (Nat.le_of_ble_eq_true rfl) rfl),rfl⟩ rfl (ab.ret ?_)
  obtain rfl:=Option.some.inj h
  refine Fin.ag ⟨[(2,_)],[(102,_)]⟩ rfl (Fin.aq [.agg (ar x_3 ++ (ar x0.D))] (.inl rfl) rfl (.cons (.agg aC rfl rfl rfl rfl) .nil) ⟨rfl,rfl⟩)
def sL (F:Nat) (x0:bz) (y0:bz):Option bz :=
 (q7 F y0).bind fun x_1=>(oF F x0 x_1).bind fun x_2=>some x_2
theorem AY {F:Nat} {x0:bz} {y0:bz} {r:bz} (h:sL F x0 y0 = some r):aA Tryz.prog (bd mx) 94 [] [.agg (aE x0),.agg (aE y0)] (Is [] (.b (.agg (aE r)))):=by
 unfold sL at h
 refine aA.intro 9 Tryz.func94 Tryz.ntmps94 rfl (by simp) fun E=>?_
 show ab _ E ⟨9,[],[]⟩ _ ⟨[(0,.b (.agg (aE x0))),(1,.b (.agg (aE y0)))],[]⟩ _
 refine ab.seq (ab.aa ?_)
 refine Oc (aL (k:=101) rfl rfl) (Oc (aL (k:=102) rfl rfl) (Oc (aB (k:=103) bQ rfl) ?_))
 refine ae.an ⟨[(2,Pt 101 0),(3,Pt 102 0),(4,Pt 103 0)],[(101,.box 27 (aE x0)),(102,.box 27 (aE y0)),(103,.box 27 dM)]⟩ rfl (ab.seq ?_)
 obtain ⟨x_1,e1,h⟩:=aD h
 obtain ⟨x_2,e2,h⟩:=aD h
 refine ab.bm mixed 4 [.b (.agg (aE x0)),.b (.agg (aE y0)),.b (.agg (aE x_1)),.b (.agg (aE x_2))] [4] [103] (s':=⟨[(4,_)],[(103,.box 27 (aE x_2))]⟩) rfl ⟨fun _=>.p (lp aC),fun _=>.p (lp aC),fun _=>.p (ad (wD e1) D8 rfl rfl),fun _=>.p (ad (sr e2) AA rfl rfl),trivial⟩ ⟨_,by exact .p (ah aC rfl rfl rfl rfl (Nat.le_of_ble_eq_true rfl) rfl),rfl⟩ rfl (ab.ret ?_)
 obtain rfl:=Option.some.inj h
 refine Fin.ag ⟨[(4,_)],[(103,_)]⟩ rfl (Fin.aq [.agg (aE x_2)] (.inl rfl) rfl (.cons (.agg aC rfl rfl rfl rfl) .nil) ⟨rfl,rfl⟩)
def lO (F:Nat) (x0:bz) (y0:bz):Option bz :=
 (dx F x0).bind fun x_1=>(bE (!(!x_1)) (dx F y0)).bind fun x_2=>if ((!x_1) || (!x_2)) = true then ((iT F).bind fun x_3=>some x_3) else ((jn F x0.N y0.D).bind fun x_4=>(jn F y0.N x0.D).bind fun x_5=>(j8 F x_4.N x_5.N).bind fun x_6=>(j8 F x_4.D x_5.D).bind fun x_7=>if (x_6.Bad || x_7.Bad) = true then ((iT F).bind fun x_8=>some x_8) else (some (⟨x_6,x_7⟩:bz)))
theorem mH {F:Nat} {x0:bz} {y0:bz} {r:bz} (h:lO F x0 y0 = some r):aA Tryz.prog (bd mx) 25 [] [.agg (aE x0),.agg (aE y0)] (Is [] (.b (.agg (aE r)))):=by
 unfold lO at h
 refine aA.intro 48 Tryz.func25 Tryz.ntmps25 rfl (by simp) fun E=>?_
 show ab _ E ⟨48,[],[]⟩ _ ⟨[(0,.b (.agg (aE x0))),(1,.b (.agg (aE y0)))],[]⟩ _
 refine ab.seq (ab.aa ?_)
 refine Oc (aL (k:=101) rfl rfl) (Oc (aL (k:=102) rfl rfl) (Oc (aB (k:=103) bQ rfl) ?_))
 refine ae.an ⟨[(2,Pt 101 0),(3,Pt 102 0),(4,Pt 103 0)],[(101,.box 27 (aE x0)),(102,.box 27 (aE y0)),(103,.box 27 dM)]⟩ rfl (ab.seq (ab.seq (ab.aa ?_)))
 refine Oc (lp aC) ?_
 obtain ⟨x_1,e1,h⟩:=aD h
 refine Oc (ad (dp e1) j3 rfl rfl) (Oc (aT rfl) (Oc om ?_))
 refine cx (!(!x_1)) [] (fun g2=>trivial) (fun g2=>lp aC) (ae.ag ⟨[(2,_),(3,_),(4,_),(12,B (!x_1)),(13,.dh (!(!x_1)) (.agg (aE y0)))],[(101,_),(102,_),(103,_)]⟩ rfl ?_)
 obtain ⟨x_2,e4,h⟩:=aD h
 refine cx (!(!x_1)) [13] (fun g3=>⟨g3,trivial⟩) (fun g3=>ad (dp (gc e4 g3)) j3 rfl rfl) (cx (!(!x_1)) [14] (fun g5=>⟨g5,trivial⟩) (fun g5=>aT rfl) (Oc (aQ (fun e=>by rw [e]; rfl) rfl rfl rfl rfl) (ae.an ⟨[(2,_),(3,_),(4,_),(16,B ((!x_1) || (!x_2)))],[(101,_),(102,_),(103,_)]⟩ rfl (ab.ite h rfl (fun _ h=>?_) (fun _ h=>?_)))))
 ·refine ab.seq (ab.aa ?_)
  obtain ⟨x_3,e6,h⟩:=aD h
  refine Oc (ad (gV e6) ow rfl rfl) (Oc (ah aC rfl rfl rfl rfl (Nat.le_of_ble_eq_true rfl) rfl) ?_)
  refine ae.an ⟨[(4,_)],[(103,.box 27 (aE x_3))]⟩ rfl (ab.ret (Fin.aw ?_))
  obtain rfl:=Option.some.inj h
  refine Fin.ag ⟨[(4,_)],[(103,_)]⟩ rfl (Fin.aq [.agg (aE x_3)] (.inl rfl) rfl (.cons (.agg aC rfl rfl rfl rfl) .nil) ⟨rfl,rfl⟩)
 ·refine ab.skip (Fin.ag ⟨[(2,_),(3,_),(4,_)],[(101,_),(102,_),(103,_)]⟩ rfl (Fin.then (ab.seq ?_)))
  refine ab.ag ⟨[(2,_),(3,_),(4,_)],[(101,_),(102,_),(103,_)]⟩ rfl ?_
  obtain ⟨x_4,e7,h⟩:=aD h
  obtain ⟨x_5,e8,h⟩:=aD h
  refine ab.oE mixed [false,false,false,false,false,false,false,false,false,false,true,true,true,true] [Pt 101 0,.b (.agg (ar x0.N)),Pt 102 18,.b (.agg (ar y0.D)),.b (.agg (aE x_4)),Pt 102 0,.b (.agg (ar y0.N)),Pt 101 18,.b (.agg (ar x0.D)),.b (.agg (aE x_5)),Pt 104 0,Pt 105 0,B true,B true] [⟨[false,false,false,false,false,false,false,false,false,false,false,false,false,false],[(2,Pt 101 0),(3,Pt 102 0),(4,Pt 103 0)],[(101,.box 27 (aE x0)),(102,.box 27 (aE y0)),(103,.box 27 dM)],[true,true,true,true,true,true,true,true,true,true,true,true,true,true],[]⟩,⟨[false,false,false,false,false,false,false,false,false,false,true,false,false,false],[(2,Pt 101 0),(3,Pt 102 0),(4,Pt 103 0)],[(101,.box 27 (aE x0)),(102,.box 27 (aE y0)),(103,.box 27 dM),(104,.box 27 dM)],[true,true,true,true,true,true,true,true,true,true,true,true,true,true],[10]⟩,⟨[false,false,false,false,false,false,false,false,false,false,false,true,false,false],[(2,Pt 101 0),(3,Pt 102 0),(4,Pt 103 0)],[(101,.box 27 (aE x0)),(102,.box 27 (aE y0)),(103,.box 27 dM),(105,.box 27 dM)],[true,true,true,true,true,true,true,true,true,true,true,true,true,true],[11]⟩,⟨[false,false,false,false,false,false,false,false,false,false,true,true,false,false],[(2,Pt 101 0),(3,Pt 102 0),(4,Pt 103 0)],[(101,.box 27 (aE x0)),(102,.box 27 (aE y0)),(103,.box 27 dM),(104,.box 27 dM),(105,.box 27 dM)],[true,true,true,true,true,true,true,true,true,true,true,true,true,true],[10,11]⟩,⟨[false,false,false,false,false,false,false,false,false,false,true,true,true,false],[(2,Pt 101 0),(3,Pt 102 0),(4,Pt 103 0)],[(101,.box 27 (aE x0)),(102,.box 27 (aE y0)),(103,.box 27 dM),(104,.box 27 (aE x_4)),(105,.box 27 dM)],[true,true,true,true,true,true,true,true,true,true,true,true,true,true],[0,1,2,3,4,5,6,7,8,9,10,11,12]⟩,⟨[false,false,false,false,false,false,false,false,false,false,true,true,true,true],[(2,Pt 101 0),(3,Pt 102 0),(4,Pt 103 0)],[(101,.box 27 (aE x0)),(102,.box 27 (aE y0)),(103,.box 27 dM),(104,.box 27 (aE x_4)),(105,.box 27 (aE x_5))],[true,true,true,true,true,true,true,true,true,true,true,true,true,true],[0,1,2,3,4,5,6,7,8,9,10,11,12,13]⟩] rfl (⟨by kernel_rfl,⟨⟨Pt 101 0,fun _=>rfl,fun _=>.p (by exact af bq rfl rfl)⟩,⟨.b (.agg (ar x0.N)),fun _=>rfl,fun _=>.p (by exact aR aj rfl rfl rfl rfl)⟩,⟨Pt 102 18,fun _=>rfl,fun _=>.p (by exact af aV rfl rfl)⟩,⟨.b (.agg (ar y0.D)),fun _=>rfl,fun _=>.p (by exact aR aj rfl rfl rfl rfl)⟩,⟨.b (.agg (aE x_4)),fun _=>rfl,fun _=>.p (by exact ad (eg e7) lE rfl rfl)⟩,⟨Pt 102 0,fun _=>rfl,fun _=>.p (by exact af bq rfl rfl)⟩,⟨.b (.agg (ar y0.N)),fun _=>rfl,fun _=>.p (by exact aR aj rfl rfl rfl rfl)⟩,⟨Pt 101 18,fun _=>rfl,fun _=>.p (by exact af aV rfl rfl)⟩,⟨.b (.agg (ar x0.D)),fun _=>rfl,fun _=>.p (by exact aR aj rfl rfl rfl rfl)⟩,⟨.b (.agg (aE x_5)),fun _=>rfl,fun _=>.p (by exact ad (eg e8) lE rfl rfl)⟩,⟨_,some 104,Pt 104 0,rfl,fun _=>rfl,rfl,rfl,fun _=>.rY [101,102,103,104] (by exact .p (by exact aB (k:=104) bQ rfl)) (by exact rfl)⟩,⟨_,some 105,Pt 105 0,rfl,fun _=>rfl,rfl,rfl,fun _=>.rY [101,102,103,105] (by exact .p (by exact aB (k:=105) bQ rfl)) (by exact rfl)⟩,trivial,trivial,trivial⟩,⟨by kernel_rfl,⟨⟨Pt 101 0,fun _=>rfl,fun _=>.p (by exact af bq rfl rfl)⟩,⟨.b (.agg (ar x0.N)),fun _=>rfl,fun _=>.p (by exact aR aj rfl rfl rfl rfl)⟩,⟨Pt 102 18,fun _=>rfl,fun _=>.p (by exact af aV rfl rfl)⟩,⟨.b (.agg (ar y0.D)),fun _=>rfl,fun _=>.p (by exact aR aj rfl rfl rfl rfl)⟩,⟨.b (.agg (aE x_4)),fun _=>rfl,fun _=>.p (by exact ad (eg e7) lE rfl rfl)⟩,⟨Pt 102 0,fun _=>rfl,fun _=>.p (by exact af bq rfl rfl)⟩,⟨.b (.agg (ar y0.N)),fun _=>rfl,fun _=>.p (by exact aR aj rfl rfl rfl rfl)⟩,⟨Pt 101 18,fun _=>rfl,fun _=>.p (by exact af aV rfl rfl)⟩,⟨.b (.agg (ar x0.D)),fun _=>rfl,fun _=>.p (by exact aR aj rfl rfl rfl rfl)⟩,⟨.b (.agg (aE x_5)),fun _=>rfl,fun _=>.p (by exact ad (eg e8) lE rfl rfl)⟩,trivial,⟨_,some 105,Pt 105 0,rfl,fun _=>rfl,rfl,rfl,fun _=>.rY [101,102,103,104,105] (by exact .p (by exact aB (k:=105) bQ rfl)) (by exact rfl)⟩,trivial,trivial,trivial⟩,⟨by kernel_rfl,⟨⟨Pt 101 0,fun _=>rfl,fun _=>.p (by exact af bq rfl rfl)⟩,⟨.b (.agg (ar x0.N)),fun _=>rfl,fun _=>.p (by exact aR aj rfl rfl rfl rfl)⟩,⟨Pt 102 18,fun _=>rfl,fun _=>.p (by exact af aV rfl rfl)⟩,⟨.b (.agg (ar y0.D)),fun _=>rfl,fun _=>.p (by exact aR aj rfl rfl rfl rfl)⟩,⟨.b (.agg (aE x_4)),fun _=>rfl,fun _=>.p (by exact ad (eg e7) lE rfl rfl)⟩,⟨Pt 102 0,fun _=>rfl,fun _=>.p (by exact af bq rfl rfl)⟩,⟨.b (.agg (ar y0.N)),fun _=>rfl,fun _=>.p (by exact aR aj rfl rfl rfl rfl)⟩,⟨Pt 101 18,fun _=>rfl,fun _=>.p (by exact af aV rfl rfl)⟩,⟨.b (.agg (ar x0.D)),fun _=>rfl,fun _=>.p (by exact aR aj rfl rfl rfl rfl)⟩,⟨.b (.agg (aE x_5)),fun _=>rfl,fun _=>.p (by exact ad (eg e8) lE rfl rfl)⟩,⟨_,some 104,Pt 104 0,rfl,fun _=>rfl,rfl,rfl,fun _=>.rY [101,102,103,104,105] (by exact .p (by exact aB (k:=104) bQ rfl)) (by exact rfl)⟩,trivial,trivial,trivial,trivial⟩,⟨by kernel_rfl,⟨⟨Pt 101 0,fun _=>rfl,fun _=>.p (by exact af bq rfl rfl)⟩,⟨.b (.agg (ar x0.N)),fun _=>rfl,fun _=>.p (by exact aR aj rfl rfl rfl rfl)⟩,⟨Pt 102 18,fun _=>rfl,fun _=>.p (by exact af aV rfl rfl)⟩,⟨.b (.agg (ar y0.D)),fun _=>rfl,fun _=>.p (by exact aR aj rfl rfl rfl rfl)⟩,⟨.b (.agg (aE x_4)),fun _=>rfl,fun _=>.p (by exact ad (eg e7) lE rfl rfl)⟩,⟨Pt 102 0,fun _=>rfl,fun _=>.p (by exact af bq rfl rfl)⟩,⟨.b (.agg (ar y0.N)),fun _=>rfl,fun _=>.p (by exact aR aj rfl rfl rfl rfl)⟩,⟨Pt 101 18,fun _=>rfl,fun _=>.p (by exact af aV rfl rfl)⟩,⟨.b (.agg (ar x0.D)),fun _=>rfl,fun _=>.p (by exact aR aj rfl rfl rfl rfl)⟩,⟨.b (.agg (aE x_5)),fun _=>rfl,fun _=>.p (by exact ad (eg e8) lE rfl rfl)⟩,trivial,trivial,⟨_,none,.b (.one .any),rfl,(fun e=>by simp at e),rfl,rfl,fun _=>.rY [101,102,103,104,105] (by exact .p (by exact ah aC rfl rfl rfl rfl (Nat.le_of_ble_eq_true rfl) rfl)) (by exact rfl)⟩,trivial,trivial⟩,⟨by kernel_rfl,⟨trivial,trivial,trivial,trivial,trivial,trivial,trivial,trivial,trivial,trivial,trivial,trivial,trivial,⟨_,none,.b (.one .any),rfl,(fun e=>by simp at e),rfl,rfl,fun _=>.rY [101,102,103,104,105] (by exact .p (by exact ah aC rfl rfl rfl rfl (Nat.le_of_ble_eq_true rfl) rfl)) (by exact rfl)⟩,trivial⟩,⟨by kernel_rfl,⟨trivial,trivial,trivial,trivial,trivial,trivial,trivial,trivial,trivial,trivial,trivial,trivial,trivial,trivial,trivial⟩,trivial⟩⟩⟩⟩⟩⟩) rfl rfl rfl [4,5,6] [103,104,105] (s':=⟨[(4,_),(5,Pt 104 0),(6,Pt 105 0)],[(103,_),(104,.box 27 (aE x_4)),(105,.box 27 (aE x_5))]⟩) rfl ?_
  refine ab.seq (ab.ag ⟨[(4,_),(5,_),(6,_)],[(103,_),(104,_),(105,_)]⟩ rfl ?_)
  obtain ⟨x_6,e9,h⟩:=aD h
  obtain ⟨x_7,e10,h⟩:=aD h
  refine ab.oE mixed [false,false,false,false,false,false,false,false,false,false,true,true,true,true] [Pt 104 0,.b (.agg (ar x_4.N)),Pt 105 0,.b (.agg (ar x_5.N)),.b (.agg (ar x_6)),Pt 104 18,.b (.agg (ar x_4.D)),Pt 105 18,.b (.agg (ar x_5.D)),.b (.agg (ar x_7)),Pt 106 0,Pt 107 0,B true,B true] [⟨[false,false,false,false,false,false,false,false,false,false,false,false,false,false],[(4,Pt 103 0),(5,Pt 104 0),(6,Pt 105 0)],[(103,.box 27 dM),(104,.box 27 (aE x_4)),(105,.box 27 (aE x_5))],[true,true,true,true,true,true,true,true,true,true,true,true,true,true],[]⟩,⟨[false,false,false,false,false,false,false,false,false,false,true,false,false,false],[(4,Pt 103 0),(5,Pt 104 0),(6,Pt 105 0)],[(103,.box 27 dM),(104,.box 27 (aE x_4)),(105,.box 27 (aE x_5)),(106,.box 25 cU)],[true,true,true,true,true,true,true,true,true,true,true,true,true,true],[10]⟩,⟨[false,false,false,false,false,false,false,false,false,false,false,true,false,false],[(4,Pt 103 0),(5,Pt 104 0),(6,Pt 105 0)],[(103,.box 27 dM),(104,.box 27 (aE x_4)),(105,.box 27 (aE x_5)),(107,.box 25 cU)],[true,true,true,true,true,true,true,true,true,true,true,true,true,true],[11]⟩,⟨[false,false,false,false,false,false,false,false,false,false,true,true,false,false],[(4,Pt 103 0),(5,Pt 104 0),(6,Pt 105 0)],[(103,.box 27 dM),(104,.box 27 (aE x_4)),(105,.box 27 (aE x_5)),(106,.box 25 cU),(107,.box 25 cU)],[true,true,true,true,true,true,true,true,true,true,true,true,true,true],[10,11]⟩,⟨[false,false,false,false,false,false,false,false,false,false,true,true,true,false],[(4,Pt 103 0),(5,Pt 104 0),(6,Pt 105 0)],[(103,.box 27 dM),(104,.box 27 (aE x_4)),(105,.box 27 (aE x_5)),(106,.box 25 (ar x_6)),(107,.box 25 cU)],[true,true,true,true,true,true,true,true,true,true,true,true,true,true],[0,1,2,3,4,5,6,7,8,9,10,11,12]⟩,⟨[false,false,false,false,false,false,false,false,false,false,true,true,true,true],[(4,Pt 103 0),(5,Pt 104 0),(6,Pt 105 0)],[(103,.box 27 dM),(104,.box 27 (aE x_4)),(105,.box 27 (aE x_5)),(106,.box 25 (ar x_6)),(107,.box 25 (ar x_7))],[true,true,true,true,true,true,true,true,true,true,true,true,true,true],[0,1,2,3,4,5,6,7,8,9,10,11,12,13]⟩] rfl (⟨by kernel_rfl,⟨⟨Pt 104 0,fun _=>rfl,fun _=>.p (by exact af bq rfl rfl)⟩,⟨.b (.agg (ar x_4.N)),fun _=>rfl,fun _=>.p (by exact aR aj rfl rfl rfl rfl)⟩,⟨Pt 105 0,fun _=>rfl,fun _=>.p (by exact af bq rfl rfl)⟩,⟨.b (.agg (ar x_5.N)),fun _=>rfl,fun _=>.p (by exact aR aj rfl rfl rfl rfl)⟩,⟨.b (.agg (ar x_6)),fun _=>rfl,fun _=>.p (by exact ad (fl e9) lC rfl rfl)⟩,⟨Pt 104 18,fun _=>rfl,fun _=>.p (by exact af aV rfl rfl)⟩,⟨.b (.agg (ar x_4.D)),fun _=>rfl,fun _=>.p (by exact aR aj rfl rfl rfl rfl)⟩,⟨Pt 105 18,fun _=>rfl,fun _=>.p (by exact af aV rfl rfl)⟩,⟨.b (.agg (ar x_5.D)),fun _=>rfl,fun _=>.p (by exact aR aj rfl rfl rfl rfl)⟩,⟨.b (.agg (ar x_7)),fun _=>rfl,fun _=>.p (by exact ad (fl e10) lC rfl rfl)⟩,⟨_,some 106,Pt 106 0,rfl,fun _=>rfl,rfl,rfl,fun _=>.rY [103,104,105,106] (by exact .p (by exact aB (k:=106) bn rfl)) (by exact rfl)⟩,⟨_,some 107,Pt 107 0,rfl,fun _=>rfl,rfl,rfl,fun _=>.rY [103,104,105,107] (by exact .p (by exact aB (k:=107) bn rfl)) (by exact rfl)⟩,trivial,trivial,trivial⟩,⟨by kernel_rfl,⟨⟨Pt 104 0,fun _=>rfl,fun _=>.p (by exact af bq rfl rfl)⟩,⟨.b (.agg (ar x_4.N)),fun _=>rfl,fun _=>.p (by exact aR aj rfl rfl rfl rfl)⟩,⟨Pt 105 0,fun _=>rfl,fun _=>.p (by exact af bq rfl rfl)⟩,⟨.b (.agg (ar x_5.N)),fun _=>rfl,fun _=>.p (by exact aR aj rfl rfl rfl rfl)⟩,⟨.b (.agg (ar x_6)),fun _=>rfl,fun _=>.p (by exact ad (fl e9) lC rfl rfl)⟩,⟨Pt 104 18,fun _=>rfl,fun _=>.p (by exact af aV rfl rfl)⟩,⟨.b (.agg (ar x_4.D)),fun _=>rfl,fun _=>.p (by exact aR aj rfl rfl rfl rfl)⟩,⟨Pt 105 18,fun _=>rfl,fun _=>.p (by exact af aV rfl rfl)⟩,⟨.b (.agg (ar x_5.D)),fun _=>rfl,fun _=>.p (by exact aR aj rfl rfl rfl rfl)⟩,⟨.b (.agg (ar x_7)),fun _=>rfl,fun _=>.p (by exact ad (fl e10) lC rfl rfl)⟩,trivial,⟨_,some 107,Pt 107 0,rfl,fun _=>rfl,rfl,rfl,fun _=>.rY [103,104,105,106,107] (by exact .p (by exact aB (k:=107) bn rfl)) (by exact rfl)⟩,trivial,trivial,trivial⟩,⟨by kernel_rfl,⟨⟨Pt 104 0,fun _=>rfl,fun _=>.p (by exact af bq rfl rfl)⟩,⟨.b (.agg (ar x_4.N)),fun _=>rfl,fun _=>.p (by exact aR aj rfl rfl rfl rfl)⟩,⟨Pt 105 0,fun _=>rfl,fun _=>.p (by exact af bq rfl rfl)⟩,⟨.b (.agg (ar x_5.N)),fun _=>rfl,fun _=>.p (by exact aR aj rfl rfl rfl rfl)⟩,⟨.b (.agg (ar x_6)),fun _=>rfl,fun _=>.p (by exact ad (fl e9) lC rfl rfl)⟩,⟨Pt 104 18,fun _=>rfl,fun _=>.p (by exact af aV rfl rfl)⟩,⟨.b (.agg (ar x_4.D)),fun _=>rfl,fun _=>.p (by exact aR aj rfl rfl rfl rfl)⟩,⟨Pt 105 18,fun _=>rfl,fun _=>.p (by exact af aV rfl rfl)⟩,⟨.b (.agg (ar x_5.D)),fun _=>rfl,fun _=>.p (by exact aR aj rfl rfl rfl rfl)⟩,⟨.b (.agg (ar x_7)),fun _=>rfl,fun _=>.p (by exact ad (fl e10) lC rfl rfl)⟩,⟨_,some 106,Pt 106 0,rfl,fun _=>rfl,rfl,rfl,fun _=>.rY [103,104,105,106,107] (by exact .p (by exact aB (k:=106) bn rfl)) (by exact rfl)⟩,trivial,trivial,trivial,trivial⟩,⟨by kernel_rfl,⟨⟨Pt 104 0,fun _=>rfl,fun _=>.p (by exact af bq rfl rfl)⟩,⟨.b (.agg (ar x_4.N)),fun _=>rfl,fun _=>.p (by exact aR aj rfl rfl rfl rfl)⟩,⟨Pt 105 0,fun _=>rfl,fun _=>.p (by exact af bq rfl rfl)⟩,⟨.b (.agg (ar x_5.N)),fun _=>rfl,fun _=>.p (by exact aR aj rfl rfl rfl rfl)⟩,⟨.b (.agg (ar x_6)),fun _=>rfl,fun _=>.p (by exact ad (fl e9) lC rfl rfl)⟩,⟨Pt 104 18,fun _=>rfl,fun _=>.p (by exact af aV rfl rfl)⟩,⟨.b (.agg (ar x_4.D)),fun _=>rfl,fun _=>.p (by exact aR aj rfl rfl rfl rfl)⟩,⟨Pt 105 18,fun _=>rfl,fun _=>.p (by exact af aV rfl rfl)⟩,⟨.b (.agg (ar x_5.D)),fun _=>rfl,fun _=>.p (by exact aR aj rfl rfl rfl rfl)⟩,⟨.b (.agg (ar x_7)),fun _=>rfl,fun _=>.p (by exact ad (fl e10) lC rfl rfl)⟩,trivial,trivial,⟨_,none,.b (.one .any),rfl,(fun e=>by simp at e),rfl,rfl,fun _=>.rY [103,104,105,106,107] (by exact .p (by exact ah aj rfl rfl rfl rfl (Nat.le_of_ble_eq_true rfl) rfl)) (by exact rfl)⟩,trivial,trivial⟩,⟨by kernel_rfl,⟨trivial,trivial,trivial,trivial,trivial,trivial,trivial,trivial,trivial,trivial,trivial,trivial,trivial,⟨_,none,.b (.one .any),rfl,(fun e=>by simp at e),rfl,rfl,fun _=>.rY [103,104,105,106,107] (by exact .p (by exact ah aj rfl rfl rfl rfl (Nat.le_of_ble_eq_true rfl) rfl)) (by exact rfl)⟩,trivial⟩,⟨by kernel_rfl,⟨trivial,trivial,trivial,trivial,trivial,trivial,trivial,trivial,trivial,trivial,trivial,trivial,trivial,trivial,trivial⟩,trivial⟩⟩⟩⟩⟩⟩) rfl rfl rfl [4,7,8] [103,106,107] (s':=⟨[(4,_),(7,Pt 106 0),(8,Pt 107 0)],[(103,_),(106,.box 25 (ar x_6)),(107,.box 25 (ar x_7))]⟩) rfl ?_
  refine ab.seq (ab.seq (ab.aa ?_))
  refine Oc (af jM rfl rfl) (Oc (au bS rfl rfl rfl) (Oc om ?_))
  refine cx (!x_6.Bad) [] (fun g11=>trivial) (fun g11=>af jM rfl rfl) (cx (!x_6.Bad) [41] (fun g12=>⟨g12,trivial⟩) (fun g12=>au bS rfl rfl rfl) (Oc (aQ (fun e=>by rw [e]; rfl) rfl rfl rfl rfl) (ae.an ⟨[(4,_),(7,_),(8,_),(43,B (x_6.Bad || x_7.Bad))],[(103,_),(106,_),(107,_)]⟩ rfl (ab.ite h rfl (fun _ h=>?_) (fun _ h=>?_)))))
  ·refine ab.seq (ab.aa ?_)
   obtain ⟨x_8,e13,h⟩:=aD h
   refine Oc (ad (gV e13) ow rfl rfl) (Oc (ah aC rfl rfl rfl rfl (Nat.le_of_ble_eq_true rfl) rfl) ?_)
   refine ae.an ⟨[(4,_)],[(103,.box 27 (aE x_8))]⟩ rfl (ab.ret (Fin.aw ?_))
   obtain rfl:=Option.some.inj h
   refine Fin.ag ⟨[(4,_)],[(103,_)]⟩ rfl (Fin.aq [.agg (aE x_8)] (.inl rfl) rfl (.cons (.agg aC rfl rfl rfl rfl) .nil) ⟨rfl,rfl⟩)
  ·refine ab.skip (Fin.ag ⟨[(4,_),(7,_),(8,_)],[(103,_),(106,_),(107,_)]⟩ rfl (Fin.then (ab.seq (ab.aa ?_))))
   refine Oc (lp aj) (Oc (lp aj) (Oc (aS dW rfl rfl) (Oc (ah aC rfl rfl rfl rfl (Nat.le_of_ble_eq_true rfl) rfl) ?_)))
   refine ae.an ⟨[(4,_)],[(103,.box 27 (ar x_6 ++ (ar x_7)))]⟩ rfl (ab.ret ?_)
   obtain rfl:=Option.some.inj h
   refine Fin.ag ⟨[(4,_)],[(103,_)]⟩ rfl (Fin.aq [.agg (ar x_6 ++ (ar x_7))] (.inl rfl) rfl (.cons (.agg aC rfl rfl rfl rfl) .nil) ⟨rfl,rfl⟩)
end Go.Proofs.YtcbbilehdaaffaaGreatDoor

